import Derived.Below
import Derived.RangeFuncOwn
import Derived.Laws.MakeOwn
import Derived.Laws.OwnMore
import Derived.Laws.IdiomCopy
import Derived.Laws.BytesString
import Derived.Laws.Rows
import Derived.Orders
import Derived.Laws.Small
import Derived.Laws.Pointers
import Derived.Laws.Slices
import Derived.Laws.Tables
import Derived.Laws.AppendOwn
import Derived.Laws.AppendOwnNone
import Derived.Lib.SliceRun
import Derived.WalkSpells
import Derived.Maps.AppendAt
import Derived.Laws.Entries
import Derived.Lib.SlBytesConst
/-
  The abstract machine, part 1: abstract values and heaps, and what it means that a world holds them.
  An abstract value is a value of the model whose addresses name abstract blocks: block, offset, and (in 'spot') how many cells the block had when the address was made. An address of an elder length is dead: nothing is said of it.
  A slice's third number is how many cells an element has.
-/
namespace Go.Proofs.Ytdpkhijbikbhnaa.Abs
open Go Go.RowKit

structure Blk where
  ro : Bool
  e : TypeId
  cells : List Value

abbrev Heap := Nat → Option Blk

structure RI where
  blk : Nat
  off : Nat
  K : Nat

abbrev Ren := Nat → RI

def All2 {α β : Type} (R : α → β → Prop) (l : List α) (l' : List β) : Prop :=
  l.length = l'.length ∧ ∀ (i : Nat) (a : α), l[i]? = some a → ∃ b, l'[i]? = some b ∧ R a b

/-- One cell's value. -/
def VR (ρ : Ren) (g : Heap) : Value → Value → Prop
  | .bool b, v' => v' = .bool b
  | .int k n, v' => v' = .int k n
  | .string s, v' => v' = .string s
  | .func f x y, v' => v' = .func f x y
  | .nilFunc, v' => v' = .nilFunc
  | .nilIface, v' => v' = .nilIface
  | .pointer none, v' => v' = .pointer none
  | .pointer (some a), v' => ∃ ver, a.spot = some ver ∧ ∃ a', v' = .pointer (some a') ∧ ∀ b, g a.block = some b →
      ver ≤ b.cells.length ∧ (b.cells.length = ver → a' = ⟨(ρ a.block).blk, (ρ a.block).off + a.off, none⟩)
  | .slice none len esz, v' => v' = .slice none 0 0 ∧ len = 0 ∧ esz = 0
  | .slice (some a) len esz, v' => ∃ a' cap', v' = .slice (some a') len cap' ∧ len ≤ cap' ∧ cap' ≤ maxLen ∧ (a.spot = none → len = 0) ∧
      ∀ ver b, a.spot = some ver → g a.block = some b → ver ≤ b.cells.length ∧ (b.cells.length = ver →
        a' = ⟨(ρ a.block).blk, (ρ a.block).off + a.off, none⟩ ∧ a.off + len * esz ≤ ver ∧ (b.ro = false → a.off + cap' * esz = (ρ a.block).K))
  | _, _ => False

def VA (ρ : Ren) (g : Heap) : Value → Value → Prop
  | .agg cs, v' => ∃ cs', v' = .agg cs' ∧ All2 (VR ρ g) cs.toList cs'.toList
  | v, v' => VR ρ g v v'

def VT (ρ : Ren) (g : Heap) : Value → Value → Prop
  | .tuple vs, v' => ∃ vs', v' = .tuple vs' ∧ All2 (VA ρ g) vs.toList vs'.toList
  | .iface k (.agg cs), v' => ∃ cs', v' = .func (.func k) #[] cs' ∧ All2 (VR ρ g) cs.toList cs'.toList
  | v, v' => VA ρ g v v'

/-- All blocks that a value names have been seen. -/
def SV1 (s : Nat → Prop) : Value → Prop
  | .pointer (some a) => s a.block
  | .slice (some a) _ _ => a.spot = none ∨ s a.block
  | _ => True

def SVA (s : Nat → Prop) : Value → Prop
  | .agg cs => ∀ c ∈ cs.toList, SV1 s c
  | v => SV1 s v

def SVT (s : Nat → Prop) : Value → Prop
  | .tuple vs => ∀ c ∈ vs.toList, SVA s c
  | .iface _ (.agg cs) => ∀ c ∈ cs.toList, SV1 s c
  | v => SVA s v

structure HR (base : Nat) (w0 : World) (ρ : Ren) (g : Heap) (s : Nat → Prop) (w : World) : Prop where
  below : Below base w0 w
  hb : base ≤ w.heap.size
  seen : ∀ i b, g i = some b → s i
  fin : ∃ n, ∀ i, s i → i < n
  wf : ∀ i b, g i = some b → ∀ c ∈ b.cells, SV1 s c
  ro : ∀ i b, g i = some b → b.ro = true → (ρ i).blk < w.heap.size ∧
    ∀ (k : Nat) (c : Value), b.cells[k]? = some c → ∃ c', w.cell? ⟨(ρ i).blk, (ρ i).off + k, none⟩ = some c' ∧ VR ρ g c c'
  own : ∀ i b, g i = some b → b.ro = false → base ≤ (ρ i).blk ∧ (ρ i).off = 0 ∧
    ∃ cur : Array Value, w.heap[(ρ i).blk]? = some (.cells cur b.e (0, 0)) ∧ cur.size = (ρ i).K ∧
      ∀ (k : Nat) (c : Value), b.cells[k]? = some c → ∃ c', cur[k]? = some c' ∧ VR ρ g c c'
  inj : ∀ i j b b', g i = some b → g j = some b' → b.ro = false → (ρ i).blk = (ρ j).blk → i = j
  oth : KeepsOthers w0 w

def Mono (ρ : Ren) (g : Heap) (s : Nat → Prop) (ρ' : Ren) (g' : Heap) : Prop :=
  ∀ i b', s i → g' i = some b' → ∃ b, g i = some b ∧ (b'.ro = false → b.ro = false) ∧ b.cells.length ≤ b'.cells.length ∧
    (b.cells.length = b'.cells.length → ρ' i = ρ i)

theorem Mono.refl (ρ : Ren) (g : Heap) (s : Nat → Prop) : Mono ρ g s ρ g :=
  fun _ b' _ h => ⟨b', h, id, Nat.le_refl _, fun _ => rfl⟩

theorem Mono.trans {ρ ρ' ρ'' : Ren} {g g' g'' : Heap} {s s' : Nat → Prop} (hs : ∀ i, s i → s' i)
    (h : Mono ρ g s ρ' g') (k : Mono ρ' g' s' ρ'' g'') : Mono ρ g s ρ'' g'' := by
  intro i b'' hi hb
  obtain ⟨b', hb', h1, h2, h3⟩ := k i b'' (hs i hi) hb
  obtain ⟨b, hb0, k1, k2, k3⟩ := h i b' hi hb'
  exact ⟨b, hb0, fun e => k1 (h1 e), Nat.le_trans k2 h2, fun e => by rw [h3 (by omega), k3 (by omega)]⟩

theorem VR.mono {ρ ρ' : Ren} {g g' : Heap} {s : Nat → Prop} (hm : Mono ρ g s ρ' g') {v v' : Value} (hs : SV1 s v) (h : VR ρ g v v') :
    VR ρ' g' v v' := by
  cases v with
  | pointer a =>
    cases a with
    | none => exact h
    | some a =>
      obtain ⟨ver, hsp, a', hv, hk⟩ := h
      refine ⟨ver, hsp, a', hv, fun b' hb' => ?_⟩
      obtain ⟨b, hb, h1, h2, h3⟩ := hm a.block b' hs hb'
      obtain ⟨k1, k2⟩ := hk b hb
      exact ⟨by omega, fun e => by rw [h3 (by omega)]; exact k2 (by omega)⟩
  | slice a len esz =>
    cases a with
    | none => exact h
    | some a =>
      obtain ⟨a', cap', hv, h0, hm1, hd, hk⟩ := h
      refine ⟨a', cap', hv, h0, hm1, hd, fun ver b' hsp hb' => ?_⟩
      have hs' : s a.block := by
        rcases hs with hs | hs
        · rw [hs] at hsp; cases hsp
        · exact hs
      obtain ⟨b, hb, h1, h2, h3⟩ := hm a.block b' hs' hb'
      obtain ⟨k1, k2⟩ := hk ver b hsp hb
      refine ⟨by omega, fun e => ?_⟩
      obtain ⟨q1, q2, q3⟩ := k2 (by omega)
      rw [h3 (by omega)]
      exact ⟨q1, q2, fun hr => q3 (h1 hr)⟩
  | _ => exact h

theorem All2.imp {α β : Type} {R R' : α → β → Prop} {l : List α} {l' : List β} (hr : ∀ a ∈ l, ∀ b, R a b → R' a b) (h : All2 R l l') : All2 R' l l' :=
  ⟨h.1, fun i a ha => by
    obtain ⟨b, hb, hR⟩ := h.2 i a ha
    exact ⟨b, hb, hr a (List.mem_of_getElem? ha) b hR⟩⟩

theorem VA.mono {ρ ρ' : Ren} {g g' : Heap} {s : Nat → Prop} (hm : Mono ρ g s ρ' g') {v v' : Value} (hs : SVA s v) (h : VA ρ g v v') :
    VA ρ' g' v v' := by
  cases v with
  | agg cs =>
    obtain ⟨cs', hv, ha⟩ := h
    exact ⟨cs', hv, ha.imp fun a ha b hr => VR.mono hm (hs a ha) hr⟩
  | pointer a => exact VR.mono (v := .pointer a) hm hs h
  | slice a l c => exact VR.mono (v := .slice a l c) hm hs h
  | _ => exact h

theorem VT.mono {ρ ρ' : Ren} {g g' : Heap} {s : Nat → Prop} (hm : Mono ρ g s ρ' g') {v v' : Value} (hs : SVT s v) (h : VT ρ g v v') :
    VT ρ' g' v v' := by
  cases v with
  | tuple cs =>
    obtain ⟨cs', hv, ha⟩ := h
    exact ⟨cs', hv, ha.imp fun a ha b hr => VA.mono hm (hs a ha) hr⟩
  | iface k v => cases v with
    | agg cs =>
      obtain ⟨cs', hv, ha⟩ := h
      exact ⟨cs', hv, ha.imp fun a ha b hr => VR.mono hm (hs a ha) hr⟩
    | _ => exact h
  | agg cs => exact VA.mono (v := .agg cs) hm hs h
  | pointer a => exact VR.mono (v := .pointer a) hm hs h
  | slice a l c => exact VR.mono (v := .slice a l c) hm hs h
  | _ => exact h

theorem SV1.imp {s s' : Nat → Prop} (h : ∀ i, s i → s' i) {v : Value} (hv : SV1 s v) : SV1 s' v := by
  cases v with
  | pointer a => cases a with
    | none => exact hv
    | some a => exact h _ hv
  | slice a _ _ => cases a with
    | none => exact hv
    | some a => exact Or.imp id (h _) hv
  | _ => exact hv

theorem SVA.imp {s s' : Nat → Prop} (h : ∀ i, s i → s' i) {v : Value} (hv : SVA s v) : SVA s' v := by
  cases v with
  | agg cs => exact fun c hc => SV1.imp h (hv c hc)
  | pointer a => exact SV1.imp (v := .pointer a) h hv
  | slice a l c => exact SV1.imp (v := .slice a l c) h hv
  | _ => exact hv

theorem SVT.imp {s s' : Nat → Prop} (h : ∀ i, s i → s' i) {v : Value} (hv : SVT s v) : SVT s' v := by
  cases v with
  | tuple cs => exact fun c hc => SVA.imp h (hv c hc)
  | iface k v => cases v with
    | agg cs => exact fun c hc => SV1.imp h (hv c hc)
    | _ => exact hv
  | agg cs => exact SVA.imp (v := .agg cs) h hv
  | pointer a => exact SV1.imp (v := .pointer a) h hv
  | slice a l c => exact SV1.imp (v := .slice a l c) h hv
  | _ => exact hv

def upd {α : Type} (f : Nat → α) (i : Nat) (x : α) : Nat → α := fun k => if k = i then x else f k

@[simp] theorem upd_self {α : Type} (f : Nat → α) (i : Nat) (x : α) : upd f i x i = x := by simp [upd]
theorem upd_ne {α : Type} (f : Nat → α) {i k : Nat} (x : α) (h : k ≠ i) : upd f i x k = f k := by simp [upd, h]

section
variable {base : Nat} {w0 : World} {ρ : Ren} {g : Heap} {s : Nat → Prop} {w : World}

theorem HR.blk_lt (h : HR base w0 ρ g s w) {i : Nat} {b : Blk} (hb : g i = some b) : (ρ i).blk < w.heap.size := by
  cases hr : b.ro with
  | true => exact (h.ro i b hb hr).1
  | false =>
    obtain ⟨_, _, cur, hc, _⟩ := h.own i b hb hr
    exact (Array.getElem?_eq_some_iff.1 hc).1

/-- Fewer blocks. -/
theorem HR.sub (h : HR base w0 ρ g s w) {g' : Heap} (hs : ∀ i b, g' i = some b → g i = some b) : HR base w0 ρ g' s w ∧ Mono ρ g s ρ g' := by
  have hm : Mono ρ g s ρ g' := fun i b' _ hb => ⟨b', hs i b' hb, id, Nat.le_refl _, fun _ => rfl⟩
  refine ⟨⟨h.below, h.hb, fun i b hb => h.seen i b (hs i b hb), h.fin, fun i b hb => h.wf i b (hs i b hb), fun i b hb hr => ?_, fun i b hb hr => ?_,
    fun i j b b' hb hb' => h.inj i j b b' (hs i b hb) (hs j b' hb'), h.oth⟩, hm⟩
  · obtain ⟨h1, h2⟩ := h.ro i b (hs i b hb) hr
    refine ⟨h1, fun k c hc => ?_⟩
    obtain ⟨c', hc', hv⟩ := h2 k c hc
    exact ⟨c', hc', hv.mono hm (h.wf i b (hs i b hb) c (List.mem_of_getElem? hc))⟩
  · obtain ⟨h1, h2, cur, h3, h4, h5⟩ := h.own i b (hs i b hb) hr
    refine ⟨h1, h2, cur, h3, h4, fun k c hc => ?_⟩
    obtain ⟨c', hc', hv⟩ := h5 k c hc
    exact ⟨c', hc', hv.mono hm (h.wf i b (hs i b hb) c (List.mem_of_getElem? hc))⟩

/-- The world may draw. -/
theorem HR.world (h : HR base w0 ρ g s w) {w' : World} (hh : w'.heap = w.heap) (hB : Below base w0 w') : HR base w0 ρ g s w' := by
  refine ⟨hB, by rw [hh]; exact h.hb, h.seen, h.fin, h.wf, fun i b hb hr => ?_, fun i b hb hr => ?_, h.inj, h.oth.trans ⟨by rw [hh]; exact Nat.le_refl _, fun k o hk _ => by rw [hh]; exact hk⟩⟩
  · obtain ⟨h1, h2⟩ := h.ro i b hb hr
    refine ⟨by rw [hh]; exact h1, fun k c hc => ?_⟩
    obtain ⟨c', hc', hv⟩ := h2 k c hc
    exact ⟨c', by rw [← hc']; simp [World.cell?, hh], hv⟩
  · obtain ⟨h1, h2, cur, h3, h4⟩ := h.own i b hb hr
    exact ⟨h1, h2, cur, by rw [hh]; exact h3, h4⟩

/-- More blocks seen. -/
theorem HR.seenMore (h : HR base w0 ρ g s w) {s' : Nat → Prop} (hs : ∀ i, s i → s' i) (hf : ∃ n, ∀ i, s' i → i < n) : HR base w0 ρ g s' w :=
  ⟨h.below, h.hb, fun i b hb => hs i (h.seen i b hb), hf, fun i b hb c hc => SV1.imp hs (h.wf i b hb c hc), h.ro, h.own, h.inj, h.oth⟩

/-- A block of the machine's own is changed, in place or moved. -/
theorem HR.change (h : HR base w0 ρ g s w) {i : Nat} {b : Blk} (hi : g i = some b) (hro : b.ro = false) {w' : World} {ri : RI} {cs : List Value} {cur : Array Value}
    (hg : w.grownBy w' (some (ρ i).blk)) (hri : ri.blk = (ρ i).blk ∨ w.heap.size ≤ ri.blk) (hoff : ri.off = 0)
    (hcur : w'.heap[ri.blk]? = some (.cells cur b.e (0, 0))) (hK : cur.size = ri.K) (hlen : b.cells.length ≤ cs.length) (hsame : b.cells.length = cs.length → ri = ρ i)
    (hcs : ∀ (k : Nat) (c : Value), cs[k]? = some c → ∃ c', cur[k]? = some c' ∧ VR ρ g c c') (hsv : ∀ c ∈ cs, SV1 s c) :
    HR base w0 (upd ρ i ri) (upd g i (some ⟨false, b.e, cs⟩)) s w' ∧ Mono ρ g s (upd ρ i ri) (upd g i (some ⟨false, b.e, cs⟩)) := by
  have hm : Mono ρ g s (upd ρ i ri) (upd g i (some ⟨false, b.e, cs⟩)) := by
    intro k b' hk hb'
    by_cases e : k = i
    · subst e
      rw [upd_self] at hb'
      cases hb'
      exact ⟨b, hi, fun _ => hro, hlen, fun e => by simpa using hsame e⟩
    · rw [upd_ne _ _ e] at hb'
      exact ⟨b', hb', id, Nat.le_refl _, fun _ => upd_ne ρ ri e⟩
  have hbase := (h.own i b hi hro).1
  have hold : ∀ k b', g k = some b' → k ≠ i → w'.heap[(ρ k).blk]? = w.heap[(ρ k).blk]? := by
    intro k b' hk hne
    refine hg.block _ (h.blk_lt hk) fun e => hne ?_
    injection e with e
    exact (h.inj i k b b' hi hk hro e.symm).symm
  have hget : ∀ k b', upd g i (some ⟨false, b.e, cs⟩) k = some b' → k ≠ i → g k = some b' := fun k b' hk hne => by rwa [upd_ne _ _ hne] at hk
  have hlt : ∀ k b', g k = some b' → (ρ k).blk < w'.heap.size := fun k b' hk => Nat.lt_of_lt_of_le (h.blk_lt hk) hg.size
  refine ⟨⟨h.below.grown hg h.hb (fun k e => by injection e with e; omega), Nat.le_trans h.hb hg.size, fun k b' hk => ?_, h.fin, fun k b' hk c hc => ?_, fun k b' hk hr => ?_,
    fun k b' hk hr => ?_, fun k j b1 b2 h1 h2 hr e => ?_, h.oth.trans (KeepsOthers.of_grownBy hg fun k o e hk => by
      injection e with e
      subst e
      obtain ⟨_, _, cur', h3, _⟩ := h.own i b hi hro
      rw [h3] at hk; cases hk; rfl)⟩, hm⟩
  · by_cases e : k = i
    · subst e; exact h.seen _ b hi
    · exact h.seen k b' (hget k b' hk e)
  · by_cases e : k = i
    · subst e
      rw [upd_self] at hk
      cases hk
      exact hsv c hc
    · exact h.wf k b' (hget k b' hk e) c hc
  · have e : k ≠ i := by
      rintro rfl
      rw [upd_self] at hk
      cases hk
      cases hr
    have hk' := hget k b' hk e
    rw [upd_ne ρ ri e]
    obtain ⟨h1, h2⟩ := h.ro k b' hk' hr
    refine ⟨hlt k b' hk', fun q c hc => ?_⟩
    obtain ⟨c', hc', hv⟩ := h2 q c hc
    exact ⟨c', by rw [← hc']; exact World.cell?_of_block (hold k b' hk' e), hv.mono hm (h.wf k b' hk' c (List.mem_of_getElem? hc))⟩
  · by_cases e : k = i
    · subst e
      rw [upd_self] at hk
      cases hk
      rw [upd_self]
      refine ⟨by have := h.hb; rcases hri with e | e <;> omega, hoff, cur, hcur, hK, fun q c hc => ?_⟩
      obtain ⟨c', hc', hv⟩ := hcs q c hc
      exact ⟨c', hc', hv.mono hm (hsv c (List.mem_of_getElem? hc))⟩
    · have hk' := hget k b' hk e
      rw [upd_ne ρ ri e]
      obtain ⟨h1, h2, cur', h3, h4, h5⟩ := h.own k b' hk' hr
      refine ⟨h1, h2, cur', by rw [hold k b' hk' e]; exact h3, h4, fun q c hc => ?_⟩
      obtain ⟨c', hc', hv⟩ := h5 q c hc
      exact ⟨c', hc', hv.mono hm (h.wf k b' hk' c (List.mem_of_getElem? hc))⟩
  · by_cases ek : k = i
    · by_cases ej : j = i
      · rw [ek, ej]
      · exfalso
        have hj' := hget j b2 h2 ej
        rw [ek, upd_self, upd_ne ρ ri ej] at e
        rcases hri with hr' | hr'
        · exact ej (h.inj i j b b2 hi hj' hro (hr'.symm.trans e)).symm
        · have := h.blk_lt hj'; omega
    · have hk' := hget k b1 h1 ek
      by_cases ej : j = i
      · exfalso
        rw [ej, upd_self, upd_ne ρ ri ek] at e
        rcases hri with hr' | hr'
        · exact ek (h.inj i k b b1 hi hk' hro (hr'.symm.trans e.symm)).symm
        · have := h.blk_lt hk'; omega
      · rw [upd_ne ρ ri ek, upd_ne ρ ri ej] at e
        exact h.inj k j b1 b2 hk' (hget j b2 h2 ej) hr e

/-- A new block. -/
theorem HR.add (h : HR base w0 ρ g s w) {j : Nat} (hj : ¬ s j) {w' : World} {k0 : Nat} {e : TypeId} {cs : List Value} {cur : Array Value}
    (hg : w.grownBy w' none) (hk0 : w.heap.size ≤ k0)
    (hcur : w'.heap[k0]? = some (.cells cur e (0, 0)))
    (hcs : ∀ (k : Nat) (c : Value), cs[k]? = some c → ∃ c', cur[k]? = some c' ∧ VR ρ g c c') (hsv : ∀ c ∈ cs, SV1 s c) :
    HR base w0 (upd ρ j ⟨k0, 0, cur.size⟩) (upd g j (some ⟨false, e, cs⟩)) (fun i => i = j ∨ s i) w' ∧ Mono ρ g s (upd ρ j ⟨k0, 0, cur.size⟩) (upd g j (some ⟨false, e, cs⟩)) := by
  have hm : Mono ρ g s (upd ρ j ⟨k0, 0, cur.size⟩) (upd g j (some ⟨false, e, cs⟩)) := by
    intro k b' hk hb'
    have e : k ≠ j := fun e => hj (e ▸ hk)
    rw [upd_ne _ _ e] at hb'
    exact ⟨b', hb', id, Nat.le_refl _, fun _ => upd_ne _ _ e⟩
  have hnj : g j = none := by
    cases hgj : g j with
    | none => rfl
    | some b => exact absurd (h.seen j b hgj) hj
  have hold : ∀ k b', g k = some b' → w'.heap[(ρ k).blk]? = w.heap[(ρ k).blk]? := fun k b' hk => hg.block _ (h.blk_lt hk) (by simp)
  have hget : ∀ k b', upd g j (some ⟨false, e, cs⟩) k = some b' → k ≠ j → g k = some b' := fun k b' hk hne => by rwa [upd_ne _ _ hne] at hk
  refine ⟨⟨h.below.grown hg h.hb (by simp), Nat.le_trans h.hb hg.size, fun k b' hk => ?_, ?_, fun k b' hk c hc => ?_, fun k b' hk hr => ?_,
    fun k b' hk hr => ?_, fun k q b1 b2 h1 h2 hr ee => ?_, h.oth.trans (KeepsOthers.of_grownBy hg fun k o e => by cases e)⟩, hm⟩
  · by_cases e : k = j
    · exact .inl e
    · exact .inr (h.seen k b' (hget k b' hk e))
  · obtain ⟨n, hn⟩ := h.fin
    refine ⟨max n (j + 1), fun i hi => ?_⟩
    rcases hi with rfl | hi
    · omega
    · have := hn i hi; omega
  · by_cases e : k = j
    · subst e
      rw [upd_self] at hk
      cases hk
      exact SV1.imp (fun _ => .inr) (hsv c hc)
    · exact SV1.imp (fun _ => .inr) (h.wf k b' (hget k b' hk e) c hc)
  · have ee : k ≠ j := by
      rintro rfl
      rw [upd_self] at hk
      cases hk
      cases hr
    have hk' := hget k b' hk ee
    rw [upd_ne _ _ ee]
    obtain ⟨h1, h2⟩ := h.ro k b' hk' hr
    refine ⟨Nat.lt_of_lt_of_le h1 hg.size, fun q c hc => ?_⟩
    obtain ⟨c', hc', hv⟩ := h2 q c hc
    exact ⟨c', by rw [← hc']; exact World.cell?_of_block (hold k b' hk'), hv.mono hm (h.wf k b' hk' c (List.mem_of_getElem? hc))⟩
  · by_cases ee : k = j
    · subst ee
      rw [upd_self] at hk
      cases hk
      rw [upd_self]
      refine ⟨Nat.le_trans h.hb hk0, rfl, cur, hcur, rfl, fun q c hc => ?_⟩
      obtain ⟨c', hc', hv⟩ := hcs q c hc
      exact ⟨c', hc', hv.mono hm (hsv c (List.mem_of_getElem? hc))⟩
    · have hk' := hget k b' hk ee
      rw [upd_ne _ _ ee]
      obtain ⟨h1, h2, cur', h3, h4, h5⟩ := h.own k b' hk' hr
      refine ⟨h1, h2, cur', by rw [hold k b' hk']; exact h3, h4, fun q c hc => ?_⟩
      obtain ⟨c', hc', hv⟩ := h5 q c hc
      exact ⟨c', hc', hv.mono hm (h.wf k b' hk' c (List.mem_of_getElem? hc))⟩
  · by_cases ek : k = j
    · by_cases eq : q = j
      · rw [ek, eq]
      · exfalso
        rw [ek, upd_self, upd_ne _ _ eq] at ee
        have := h.blk_lt (hget q b2 h2 eq)
        simp only at ee
        omega
    · have hk' := hget k b1 h1 ek
      by_cases eq : q = j
      · exfalso
        rw [eq, upd_self, upd_ne _ _ ek] at ee
        have := h.blk_lt hk'
        simp only at ee
        omega
      · rw [upd_ne _ _ ek, upd_ne _ _ eq] at ee
        exact h.inj k q b1 b2 hk' (hget q b2 h2 eq) hr ee
/-- A block of the machine's own is written no more: the mark that the run-time lays behind its last cell. -/
theorem HR.toRo (h : HR base w0 ρ g s w) {i : Nat} {b : Blk} (hi : g i = some b) (hro : b.ro = false) {w' : World}
    (hg : w.grownBy w' (some (ρ i).blk)) (hcur : ∀ (k : Nat), w'.cell? ⟨(ρ i).blk, k, none⟩ = w.cell? ⟨(ρ i).blk, k, none⟩) :
    HR base w0 ρ (upd g i (some ⟨true, b.e, b.cells⟩)) s w' ∧ Mono ρ g s ρ (upd g i (some ⟨true, b.e, b.cells⟩)) := by
  have hm : Mono ρ g s ρ (upd g i (some ⟨true, b.e, b.cells⟩)) := by
    intro k b' hk hb'
    by_cases e : k = i
    · subst e
      rw [upd_self] at hb'
      cases hb'
      exact ⟨b, hi, fun e => by simp at e, Nat.le_refl _, fun _ => rfl⟩
    · rw [upd_ne _ _ e] at hb'
      exact ⟨b', hb', id, Nat.le_refl _, fun _ => rfl⟩
  have hbase := (h.own i b hi hro).1
  have hold : ∀ k b', g k = some b' → k ≠ i → w'.heap[(ρ k).blk]? = w.heap[(ρ k).blk]? := by
    intro k b' hk hne
    refine hg.block _ (h.blk_lt hk) fun e => hne ?_
    injection e with e
    exact (h.inj i k b b' hi hk hro e.symm).symm
  have hget : ∀ k b', upd g i (some ⟨true, b.e, b.cells⟩) k = some b' → k ≠ i → g k = some b' := fun k b' hk hne => by rwa [upd_ne _ _ hne] at hk
  have hlt : ∀ k b', g k = some b' → (ρ k).blk < w'.heap.size := fun k b' hk => Nat.lt_of_lt_of_le (h.blk_lt hk) hg.size
  refine ⟨⟨h.below.grown hg h.hb (fun k e => by injection e with e; omega), Nat.le_trans h.hb hg.size, fun k b' hk => ?_, h.fin, fun k b' hk c hc => ?_, fun k b' hk hr => ?_,
    fun k b' hk hr => ?_, fun k j b1 b2 h1 h2 hr e => ?_, h.oth.trans (KeepsOthers.of_grownBy hg fun k o e hk => by
      injection e with e
      subst e
      obtain ⟨_, _, cur', h3, _⟩ := h.own i b hi hro
      rw [h3] at hk; cases hk; rfl)⟩, hm⟩
  · by_cases e : k = i
    · subst e; exact h.seen _ b hi
    · exact h.seen k b' (hget k b' hk e)
  · by_cases e : k = i
    · subst e
      rw [upd_self] at hk
      cases hk
      exact h.wf _ b hi c hc
    · exact h.wf k b' (hget k b' hk e) c hc
  · by_cases e : k = i
    · subst e
      rw [upd_self] at hk
      cases hk
      refine ⟨hlt _ b hi, fun q c hc => ?_⟩
      obtain ⟨_, h0, cur, h3, _, h5⟩ := h.own _ b hi hro
      obtain ⟨c', hc', hv⟩ := h5 q c hc
      refine ⟨c', ?_, hv.mono hm (h.wf _ b hi c (List.mem_of_getElem? hc))⟩
      rw [h0, Nat.zero_add, hcur, cell_of_row w _ q cur _ _ h3]
      exact hc'
    · have hk' := hget k b' hk e
      obtain ⟨h1, h2⟩ := h.ro k b' hk' hr
      refine ⟨hlt k b' hk', fun q c hc => ?_⟩
      obtain ⟨c', hc', hv⟩ := h2 q c hc
      exact ⟨c', by rw [← hc']; exact World.cell?_of_block (hold k b' hk' e), hv.mono hm (h.wf k b' hk' c (List.mem_of_getElem? hc))⟩
  · have e : k ≠ i := by
      rintro rfl
      rw [upd_self] at hk
      cases hk
      cases hr
    have hk' := hget k b' hk e
    obtain ⟨h1, h2, cur', h3, h4, h5⟩ := h.own k b' hk' hr
    refine ⟨h1, h2, cur', by rw [hold k b' hk' e]; exact h3, h4, fun q c hc => ?_⟩
    obtain ⟨c', hc', hv⟩ := h5 q c hc
    exact ⟨c', hc', hv.mono hm (h.wf k b' hk' c (List.mem_of_getElem? hc))⟩
  · have ek : k ≠ i := by
      rintro rfl
      rw [upd_self] at h1
      cases h1
      cases hr
    by_cases ej : j = i
    · subst ej
      exact h.inj k j b1 b (hget k b1 h1 ek) hi hr e
    · exact h.inj k j b1 b2 (hget k b1 h1 ek) (hget j b2 h2 ej) hr e
end

end Go.Proofs.Ytdpkhijbikbhnaa.Abs

/-
  The abstract machine, part 2: what one operation does, as a plain function; and that the model's operation does it.
-/
namespace Go.Proofs.Ytdpkhijbikbhnaa.Abs
open Go Go.RowKit

/-- What an operation does: its value; the blocks it looks at; the blocks it writes, as they are behind it; new blocks, numbered from j on. -/
structure Eff where
  v : Value
  r : List Nat := []
  w : List (Nat × Blk) := []
  j : Nat := 0
  a : List Blk := []

def setAll (g : Heap) : List (Nat × Blk) → Heap
  | [] => g
  | (i, b) :: l => setAll (upd g i (some b)) l

def addAll (g : Heap) (j : Nat) : List Blk → Heap
  | [] => g
  | b :: l => addAll (upd g j (some b)) (j + 1) l

def Eff.ap (f : Eff) (g : Heap) : Heap := addAll (setAll g f.w) f.j f.a
def Eff.sn (f : Eff) (s : Nat → Prop) : Nat → Prop := fun i => s i ∨ (f.j ≤ i ∧ i < f.j + f.a.length)
def Eff.fp (f : Eff) : List Nat := f.r ++ f.w.map (·.1)

def VV (ρ : Ren) (g : Heap) (s : Nat → Prop) (v v' : Value) : Prop := VT ρ g v v' ∧ SVT s v

def OpSim (P : Program) (o : Oper) (ev : Operand → Value) (g : Heap) (s : Nat → Prop) (f : Eff) : Prop :=
  ∀ (base : Nat) (w0 : World) (ρ : Ren) (w : World) (a : Act) (K : Act → World → Prop) (Q : Exit → Act → World → Prop), HR base w0 ρ g s w →
    (∀ x ∈ o.op.operands, VV ρ g s (ev x) (a.eval x)) →
    (∀ ρ' w' v', HR base w0 ρ' (f.ap g) (f.sn s) w' → Mono ρ g s ρ' (f.ap g) → VV ρ' (f.ap g) (f.sn s) f.v v' → K (a.put o.dst v') w') → o.wp P a w K Q

theorem HR.sn0 {base : Nat} {w0 : World} {ρ : Ren} {g : Heap} {s : Nat → Prop} {w : World} (h : HR base w0 ρ g s w) (f : Eff) : HR base w0 ρ g (f.sn s) w := by
  refine h.seenMore (fun i hi => .inl hi) ?_
  obtain ⟨n, hn⟩ := h.fin
  refine ⟨max n (f.j + f.a.length), fun i hi => ?_⟩
  rcases hi with hi | hi
  · have := hn i hi; omega
  · omega

theorem VV.imp {ρ : Ren} {g : Heap} {s s' : Nat → Prop} {v v' : Value} (h : VV ρ g s v v') (hs : ∀ i, s i → s' i) : VV ρ g s' v v' := ⟨h.1, SVT.imp hs h.2⟩

section
variable {P : Program} {o : Oper} {a : Act} {w : World} {K : Act → World → Prop} {Q : Exit → Act → World → Prop}

theorem wp_of_run {v' : Value} {w' : World} (h : (execOp a.eval o).run P w = .ok (.value v') w') (hk : K (a.put o.dst v') w') : o.wp P a w K Q := by
  unfold Oper.wp
  rw [h]
  exact hk
end

section
variable {P : Program} {o : Oper} {ev : Operand → Value} {g : Heap} {s : Nat → Prop}

/-- An operation that leaves memory alone. -/
theorem sim_pure (r : List Nat) (v : Value) (h : ∀ (base : Nat) (w0 : World) (ρ : Ren) (w : World) (a : Act), HR base w0 ρ g s w →
      (∀ x ∈ o.op.operands, VV ρ g s (ev x) (a.eval x)) → ∃ v', (execOp a.eval o).run P w = .ok (.value v') w ∧ VV ρ g s v v') :
    OpSim P o ev g s { v := v, r := r } := by
  intro base w0 ρ w a K Q hR hv hk
  obtain ⟨v', hr, hvv⟩ := h base w0 ρ w a hR hv
  exact wp_of_run hr (hk ρ w v' (hR.sn0 _) (Mono.refl _ _ _) (hvv.imp fun i hi => .inl hi))
end

/-- A value that names no memory. -/
def plain : Value → Bool
  | .bool _ | .int _ _ | .string _ | .nilFunc | .nilIface | .pointer none => true
  | .slice none l c => l == 0 && c == 0
  | _ => false

theorem VR_plain {ρ : Ren} {g : Heap} {v : Value} (h : plain v = true) : VR ρ g v v := by
  cases v with
  | pointer a => cases a with
    | none => rfl
    | some a => simp [plain] at h
  | slice a l c => cases a with
    | none => simp [plain] at h; obtain ⟨rfl, rfl⟩ := h; exact ⟨rfl, rfl, rfl⟩
    | some a => simp [plain] at h
  | _ => first | rfl | (simp [plain] at h; done)

theorem SV1_plain {s : Nat → Prop} {v : Value} (h : plain v = true) : SV1 s v := by
  cases v with
  | pointer a => cases a with
    | none => exact trivial
    | some a => simp [plain] at h
  | slice a l c => cases a with
    | none => exact trivial
    | some a => simp [plain] at h
  | _ => exact trivial

theorem VV_int {ρ : Ren} {g : Heap} {s : Nat → Prop} {k : IntKind} {n : Int} {v' : Value} : VV ρ g s (.int k n) v' ↔ v' = .int k n := by
  simp [VV, VT, VA, VR, SVT, SVA, SV1]
theorem VV_bool {ρ : Ren} {g : Heap} {s : Nat → Prop} {b : Bool} {v' : Value} : VV ρ g s (.bool b) v' ↔ v' = .bool b := by
  simp [VV, VT, VA, VR, SVT, SVA, SV1]
theorem VV_string {ρ : Ren} {g : Heap} {s : Nat → Prop} {b : ByteArray} {v' : Value} : VV ρ g s (.string b) v' ↔ v' = .string b := by
  simp [VV, VT, VA, VR, SVT, SVA, SV1]
theorem VV_undef {ρ : Ren} {g : Heap} {s : Nat → Prop} : VV ρ g s undef undef := by
  simp [VV, undef, VT, SVT, All2]
theorem VV_func {ρ : Ren} {g : Heap} {s : Nat → Prop} {f : Fn} {x y : Array Value} {v' : Value} : VV ρ g s (.func f x y) v' ↔ v' = .func f x y := by
  simp [VV, VT, VA, VR, SVT, SVA, SV1]
theorem VV_clo {ρ : Ren} {g : Heap} {s : Nat → Prop} {k : FuncId} {cs : Array Value} {v' : Value} : VV ρ g s (.iface k (.agg cs)) v' ↔ (∃ cs', v' = .func (.func k) #[] cs' ∧ All2 (VR ρ g) cs.toList cs'.toList) ∧ ∀ c ∈ cs.toList, SV1 s c := Iff.rfl
theorem All2.app {α β : Type} {R : α → β → Prop} {l1 l2 : List α} {m1 m2 : List β} (h1 : All2 R l1 m1) (h2 : All2 R l2 m2) : All2 R (l1 ++ l2) (m1 ++ m2) := by
  refine ⟨by simp [h1.1, h2.1], fun i a ha => ?_⟩
  by_cases hi : i < l1.length
  · rw [List.getElem?_append_left hi] at ha
    rw [List.getElem?_append_left (by rw [← h1.1]; exact hi)]
    exact h1.2 i a ha
  · rw [List.getElem?_append_right (by omega)] at ha
    rw [List.getElem?_append_right (by rw [← h1.1]; omega), ← h1.1]
    exact h2.2 _ a ha
theorem VR_VT {ρ : Ren} {g : Heap} {v v' : Value} (h : VR ρ g v v') : VT ρ g v v' := by
  cases v with
  | tuple _ => exact h.elim
  | agg _ => exact h.elim
  | iface _ _ => exact h.elim
  | _ => exact h
theorem SV1_SVT {ρ : Ren} {g : Heap} {s : Nat → Prop} {v v' : Value} (h : VR ρ g v v') (hs : SV1 s v) : SVT s v := by
  cases v with
  | tuple _ => exact h.elim
  | agg _ => exact h.elim
  | iface _ _ => exact h.elim
  | _ => exact hs
theorem VV_nilptr {ρ : Ren} {g : Heap} {s : Nat → Prop} {v' : Value} : VV ρ g s (.pointer none) v' ↔ v' = .pointer none := by
  simp [VV, VT, VA, VR, SVT, SVA, SV1]
theorem VV_ptr {ρ : Ren} {g : Heap} {s : Nat → Prop} {a : Addr} {v' : Value} : VV ρ g s (.pointer (some a)) v' ↔ VR ρ g (.pointer (some a)) v' ∧ s a.block := by
  simp only [VV, VT, VA, SVT, SVA, SV1]
theorem VV_slice {ρ : Ren} {g : Heap} {s : Nat → Prop} {a : Option Addr} {l c : Nat} {v' : Value} : VV ρ g s (.slice a l c) v' ↔ VR ρ g (.slice a l c) v' ∧ SV1 s (.slice a l c) := by
  simp only [VV, VT, VA, SVT, SVA]
theorem VR_ptr {ρ : Ren} {g : Heap} {a : Addr} {v' : Value} (h : VR ρ g (.pointer (some a)) v') : ∃ ver, a.spot = some ver ∧ ∃ a', v' = .pointer (some a') ∧ ∀ b, g a.block = some b →
      ver ≤ b.cells.length ∧ (b.cells.length = ver → a' = ⟨(ρ a.block).blk, (ρ a.block).off + a.off, none⟩) := h
theorem VR_slice {ρ : Ren} {g : Heap} {a : Addr} {len esz : Nat} {v' : Value} (h : VR ρ g (.slice (some a) len esz) v') : ∃ a' cap', v' = .slice (some a') len cap' ∧ len ≤ cap' ∧ cap' ≤ maxLen ∧ (a.spot = none → len = 0) ∧
      ∀ ver b, a.spot = some ver → g a.block = some b → ver ≤ b.cells.length ∧ (b.cells.length = ver →
        a' = ⟨(ρ a.block).blk, (ρ a.block).off + a.off, none⟩ ∧ a.off + len * esz ≤ ver ∧ (b.ro = false → a.off + cap' * esz = (ρ a.block).K)) := h
theorem VR_nilslice {ρ : Ren} {g : Heap} {len esz : Nat} {v' : Value} (h : VR ρ g (.slice none len esz) v') : v' = .slice none 0 0 ∧ len = 0 ∧ esz = 0 := h

/-- The block that an address names, if the address is alive. -/
def rd (g : Heap) (a : Addr) : Option Blk :=
  match a.spot with
  | some ver => match g a.block with
    | some b => if b.cells.length = ver then some b else none
    | none => none
  | none => none

theorem rd_spec {g : Heap} {a : Addr} {b : Blk} (h : rd g a = some b) : a.spot = some b.cells.length ∧ g a.block = some b := by
  unfold rd at h
  cases hs : a.spot with
  | none => simp [hs] at h
  | some ver =>
    cases hg : g a.block with
    | none => simp [hs, hg] at h
    | some b' =>
      simp [hs, hg] at h
      obtain ⟨h1, rfl⟩ := h
      exact ⟨by rw [h1], rfl⟩

theorem VR_ptr_live {ρ : Ren} {g : Heap} {a : Addr} {b : Blk} {v' : Value} (hb : rd g a = some b) (h : VR ρ g (.pointer (some a)) v') : v' = .pointer (some ⟨(ρ a.block).blk, (ρ a.block).off + a.off, none⟩) := by
  obtain ⟨h1, h2⟩ := rd_spec hb
  obtain ⟨ver, hv, a', rfl, hk⟩ := VR_ptr h
  rw [hv] at h1
  cases h1
  rw [(hk b h2).2 rfl]

theorem VR_slice_live {ρ : Ren} {g : Heap} {a : Addr} {b : Blk} {len esz : Nat} {v' : Value} (hb : rd g a = some b) (h : VR ρ g (.slice (some a) len esz) v') :
    ∃ cap', v' = .slice (some ⟨(ρ a.block).blk, (ρ a.block).off + a.off, none⟩) len cap' ∧ len ≤ cap' ∧ cap' ≤ maxLen ∧ a.off + len * esz ≤ b.cells.length ∧ (b.ro = false → a.off + cap' * esz = (ρ a.block).K) := by
  obtain ⟨h1, h2⟩ := rd_spec hb
  obtain ⟨a', cap', rfl, q1, q2, _, hk⟩ := VR_slice h
  obtain ⟨k1, k2⟩ := hk _ b h1 h2
  obtain ⟨e, k3, k4⟩ := k2 rfl
  exact ⟨cap', by rw [e], q1, q2, k3, k4⟩

theorem HR.cell {base : Nat} {w0 : World} {ρ : Ren} {g : Heap} {s : Nat → Prop} {w : World} (h : HR base w0 ρ g s w) {i : Nat} {b : Blk} (hi : g i = some b) {k : Nat} {c : Value} (hk : b.cells[k]? = some c) :
    ∃ c', w.cell? ⟨(ρ i).blk, (ρ i).off + k, none⟩ = some c' ∧ VR ρ g c c' := by
  cases hr : b.ro with
  | true => exact (h.ro i b hi hr).2 k c hk
  | false =>
    obtain ⟨_, h0, cur, hc, _, hh⟩ := h.own i b hi hr
    obtain ⟨c', hc', hv⟩ := hh k c hk
    exact ⟨c', by rw [h0, Nat.zero_add, cell_of_row w _ k cur _ _ hc]; exact hc', hv⟩

theorem addr_add (b o n : Nat) : (⟨b, o, none⟩ : Addr).add n = ⟨b, o + n, none⟩ := by unfold Addr.add; split <;> simp_all

/-- A stretch of cells, read. -/
theorem HR.cells {base : Nat} {w0 : World} {ρ : Ren} {g : Heap} {s : Nat → Prop} {w : World} (h : HR base w0 ρ g s w) {i : Nat} {b : Blk} (hi : g i = some b) (off n : Nat) (hn : off + n ≤ b.cells.length) :
    ∃ cs : List Value, cs.length = n ∧ (∀ (j : Nat) (v : Value), cs[j]? = some v → w.cell? ((⟨(ρ i).blk, (ρ i).off + off, none⟩ : Addr).add j) = some v) ∧ All2 (VR ρ g) ((b.cells.drop off).take n) cs := by
  induction n generalizing off with
  | zero => exact ⟨[], rfl, by simp, by simp [All2]⟩
  | succ n ih =>
    obtain ⟨cs, h1, h2, h3⟩ := ih (off + 1) (by omega)
    have hlt : off < b.cells.length := by omega
    obtain ⟨c', hc', hv⟩ := h.cell hi (List.getElem?_eq_getElem hlt)
    refine ⟨c' :: cs, by simp [h1], ?_, ?_⟩
    · intro j v hj
      rw [addr_add]
      cases j with
      | zero => simp at hj; subst hj; simpa [Nat.add_assoc] using hc'
      | succ j =>
        simp at hj
        have := h2 j v hj
        rw [addr_add] at this
        rw [← this]
        congr 2
        omega
    · rw [List.drop_eq_getElem_cons hlt, List.take_succ_cons]
      refine ⟨by simp [← h3.1], fun k c hk => ?_⟩
      cases k with
      | zero => simp at hk; subst hk; exact ⟨c', rfl, hv⟩
      | succ k => simp only [List.getElem?_cons_succ] at hk ⊢; exact h3.2 k c hk

theorem run_loadCells_of (P : Program) {w : World} {a : Addr} {cs : List Value} {n : Nat} (hl : cs.length = n) (h : ∀ (j : Nat) (v : Value), cs[j]? = some v → w.cell? (a.add j) = some v) :
    (loadCells a n).run P w = .ok cs.toArray w := by
  rw [← hl]
  exact run_loadCells_list w a cs h

def aggT (P : Program) (t : TypeId) : Option Bool :=
  match P.underlying t with
  | none => none
  | some (.struct _) | some (.array _ _) => some true
  | some _ => some false

def tsize (P : Program) (t : TypeId) : Option Nat := (P.info? t).map (·.size)

theorem run_isAgg_of {P : Program} {t : TypeId} {b : Bool} (h : aggT P t = some b) (w : World) : (isAgg t).run P w = .ok b w := by
  unfold aggT at h
  cases hu : P.underlying t with
  | none => simp [hu] at h
  | some d =>
    cases d <;> simp [hu] at h <;> subst h <;> simp [isAgg, run_underlying hu]

theorem run_sizeOf_of {P : Program} {t : TypeId} {n : Nat} (h : tsize P t = some n) (w : World) : (sizeOf t).run P w = .ok n w := by
  unfold tsize at h
  cases hi : P.info? t with
  | none => simp [hi] at h
  | some i =>
    simp [hi] at h
    subst h
    simp [sizeOf, typeInfo, hi]

def stepLoad (P : Program) (T : TypeId) (x : Value) (g : Heap) : Option Eff :=
  match x with
  | .pointer (some a) => match rd g a with
    | some b => match aggT P T with
      | some true => match tsize P T with
        | some n => if a.off + n ≤ b.cells.length then some { v := .agg ((b.cells.drop a.off).take n).toArray, r := [a.block] } else none
        | none => none
      | some false => match b.cells[a.off]? with
        | some c => some { v := c, r := [a.block] }
        | none => none
      | none => none
    | none => none
  | _ => none

theorem VV_of_VR {ρ : Ren} {g : Heap} {s : Nat → Prop} {c c' : Value} (h : VR ρ g c c') (hs : SV1 s c) : VV ρ g s c c' := by
  cases c <;> first | exact ⟨h, hs⟩ | exact h.elim

section
variable {P : Program} {o : Oper} {ev : Operand → Value} {g : Heap} {s : Nat → Prop} {f : Eff}

theorem sim_load {T : TypeId} {x : Operand} (ho : o.op = .load T x) (h : stepLoad P T (ev x) g = some f) : OpSim P o ev g s f := by
  unfold stepLoad at h
  split at h
  · rename_i a hx
    split at h
    · rename_i b hb
      obtain ⟨hsp, hg⟩ := rd_spec hb
      split at h
      · rename_i hagg
        split at h
        · rename_i n hn
          split at h
          · rename_i hle
            cases h
            refine sim_pure [a.block] _ fun base w0 ρ w act hR hv => ?_
            have hxv := hv x (by simp [ho, Op.operands])
            rw [hx, VV_ptr] at hxv
            have e := VR_ptr_live hb hxv.1
            obtain ⟨cs, h1, h2, h3⟩ := hR.cells hg a.off n hle
            refine ⟨.agg cs.toArray, ?_, ?_⟩
            · simp [execOp, ho, e, Instr.loadAt, Instr.sureAddr, loadVar, run_isAgg_of hagg, run_sizeOf_of hn, run_loadCells_of P h1 h2]
            · refine ⟨⟨_, rfl, by simpa using h3⟩, ?_⟩
              intro c hc
              refine hR.wf _ b hg c ?_
              have : c ∈ (b.cells.drop a.off).take n := by simpa using hc
              exact List.mem_of_mem_drop (List.mem_of_mem_take this)
          · cases h
        · cases h
      · rename_i hagg
        split at h
        · rename_i c hc
          cases h
          refine sim_pure [a.block] _ fun base w0 ρ w act hR hv => ?_
          have hxv := hv x (by simp [ho, Op.operands])
          rw [hx, VV_ptr] at hxv
          have e := VR_ptr_live hb hxv.1
          obtain ⟨c', hc', hvr⟩ := hR.cell hg hc
          refine ⟨c', ?_, VV_of_VR hvr (hR.wf _ b hg c (List.mem_of_getElem? hc))⟩
          simp [execOp, ho, e, Instr.loadAt, Instr.sureAddr, loadVar, run_isAgg_of hagg, hc']
        · cases h
      · cases h
    · cases h
  · cases h

theorem sim_move {x : Operand} (ho : o.op = .move x ∨ o.op = .assign x) : OpSim P o ev g s { v := ev x } := by
  refine sim_pure [] _ fun base w0 ρ w act hR hv => ⟨act.eval x, ?_, hv x ?_⟩
  · rcases ho with ho | ho <;> simp [execOp, ho]
  · rcases ho with ho | ho <;> simp [ho, Op.operands]

def stepPick (c a b : Value) : Option Eff :=
  match c with
  | .bool t => some { v := if t then a else b }
  | _ => none

theorem sim_pick {c x y : Operand} (ho : o.op = .pick c x y) (h : stepPick (ev c) (ev x) (ev y) = some f) : OpSim P o ev g s f := by
  unfold stepPick at h
  split at h
  · rename_i t hc
    cases h
    refine sim_pure [] _ fun base w0 ρ w act hR hv => ?_
    have h0 := hv c (by simp [ho, Op.operands])
    rw [hc, VV_bool] at h0
    refine ⟨if t then act.eval x else act.eval y, ?_, ?_⟩
    · simp [execOp, ho, h0, asBool]
    · cases t
      · exact hv y (by simp [ho, Op.operands])
      · exact hv x (by simp [ho, Op.operands])
  · cases h

def stepNilCheck (x : Value) : Option Eff :=
  match x with
  | .pointer (some a) => some { v := .pointer (some a) }
  | _ => none

theorem sim_nilCheck {x : Operand} (ho : o.op = .nilCheck x) (h : stepNilCheck (ev x) = some f) : OpSim P o ev g s f := by
  unfold stepNilCheck at h
  split at h
  · rename_i a hx
    cases h
    refine sim_pure [] _ fun base w0 ρ w act hR hv => ?_
    have h0 := hv x (by simp [ho, Op.operands])
    have h1 := h0
    rw [hx, VV_ptr] at h0
    obtain ⟨ver, _, a', e, _⟩ := VR_ptr h0.1
    refine ⟨act.eval x, ?_, by rw [← hx]; exact h1⟩
    simp [execOp, ho, e]
  · cases h

def foff (P : Program) (S : TypeId) (f : Nat) : Option Nat :=
  match P.underlying S with
  | some (.struct fields) => match fields[f]? with
    | some fl => match tsize P fl.type with
      | some n => if n = 0 then none else some fl.offset
      | none => none
    | none => none
  | _ => none

def stepField (P : Program) (S : TypeId) (x : Value) (f : Nat) : Option Eff :=
  match x, foff P S f with
  | .pointer (some a), some n => some { v := .pointer (some { a with off := a.off + n }) }
  | _, _ => none

theorem VR_ptr_move {ρ : Ren} {g : Heap} {a a' : Addr} {n : Nat} (h : VR ρ g (.pointer (some a)) (.pointer (some a'))) :
    VR ρ g (.pointer (some { a with off := a.off + n })) (.pointer (some (a'.add n))) := by
  obtain ⟨ver, hs, a1, e, hk⟩ := VR_ptr h
  cases e
  refine ⟨ver, hs, _, rfl, fun b hb => ⟨(hk b hb).1, fun e => ?_⟩⟩
  rw [(hk b hb).2 e, addr_add]
  simp [Nat.add_assoc]

theorem sim_field {S : TypeId} {x : Operand} {n : Nat} (ho : o.op = .fieldAddr S x n) (h : stepField P S (ev x) n = some f) : OpSim P o ev g s f := by
  unfold stepField at h
  split at h
  · rename_i a off hx hf
    cases h
    refine sim_pure [] _ fun base w0 ρ w act hR hv => ?_
    have h0 := hv x (by simp [ho, Op.operands])
    rw [hx, VV_ptr] at h0
    obtain ⟨ver, _, a', e, _⟩ := VR_ptr h0.1
    refine ⟨.pointer (some (a'.add off)), ?_, ?_⟩
    · unfold foff at hf
      cases hu : P.underlying S with
      | none => simp [hu] at hf
      | some d =>
        cases d <;> simp only [hu, reduceCtorEq] at hf
        rename_i fields
        cases hfl : fields[n]? with
        | none => simp [hfl] at hf
        | some fl =>
          simp only [hfl] at hf
          cases hts : tsize P fl.type with
          | none => simp [hts] at hf
          | some k =>
            simp only [hts] at hf
            by_cases hk : k = 0
            · simp [hk] at hf
            · rw [if_neg hk] at hf
              cases hf
              simp [execOp, ho, e, Instr.fieldAt, run_underlying hu, hfl, Instr.sureAddr, fieldPlace, run_sizeOf_of hts, hk]
    · rw [VV_ptr]
      rw [e] at h0
      exact ⟨VR_ptr_move h0.1, h0.2⟩
  · cases h

def stepIndex (P : Program) (T : TypeId) (x ix : Value) : Option Eff :=
  match ix with
  | .int _ i => match P.underlying T, x with
    | some (.slice e), .slice (some a) len esz => match a.spot with
      | some _ => if 0 ≤ i ∧ i < len ∧ tsize P e = some esz then some { v := .pointer (some { a with off := a.off + i.toNat * esz }) } else none
      | none => none
    | some (.array len e), .pointer (some a) => match tsize P e with
      | some esz => if 0 ≤ i ∧ i < len then some { v := .pointer (some { a with off := a.off + i.toNat * esz }) } else none
      | none => none
    | _, _ => none
  | _ => none

theorem sim_index {T : TypeId} {x ix : Operand} (ho : o.op = .indexAddr T x ix) (h : stepIndex P T (ev x) (ev ix) = some f) : OpSim P o ev g s f := by
  unfold stepIndex at h
  split at h
  · rename_i k i hix
    split at h
    · rename_i e a len esz hu hx
      split at h
      · rename_i ver hsp
        split at h
        · rename_i hc
          obtain ⟨h1, h2, h3⟩ := hc
          cases h
          refine sim_pure [] _ fun base w0 ρ w act hR hv => ?_
          have h0 := hv x (by simp [ho, Op.operands])
          have h4 := hv ix (by simp [ho, Op.operands])
          rw [hix, VV_int] at h4
          rw [hx, VV_slice] at h0
          obtain ⟨a', cap', e', _, _, _, hk⟩ := VR_slice h0.1
          refine ⟨.pointer (some (a'.add (i.toNat * esz))), ?_, ?_⟩
          · simp [execOp, ho, e', h4, Instr.indexAt, asIntOf, run_underlying hu, h1, h2, run_sizeOf_of h3]
          · rw [VV_ptr]
            refine ⟨⟨ver, hsp, _, rfl, fun b hb => ?_⟩, ?_⟩
            · obtain ⟨k1, k2⟩ := hk ver b hsp hb
              refine ⟨k1, fun e => ?_⟩
              rw [(k2 e).1, addr_add]
              simp [Nat.add_assoc]
            · rcases h0.2 with h0' | h0'
              · rw [h0'] at hsp; cases hsp
              · exact h0'
        · cases h
      · cases h
    · rename_i len e a hu hx
      split at h
      · rename_i esz hts
        split at h
        · rename_i hc
          obtain ⟨h1, h2⟩ := hc
          cases h
          refine sim_pure [] _ fun base w0 ρ w act hR hv => ?_
          have h0 := hv x (by simp [ho, Op.operands])
          have h4 := hv ix (by simp [ho, Op.operands])
          rw [hix, VV_int] at h4
          rw [hx, VV_ptr] at h0
          obtain ⟨ver, _, a', e', _⟩ := VR_ptr h0.1
          refine ⟨.pointer (some (a'.add (i.toNat * esz))), ?_, ?_⟩
          · simp [execOp, ho, e', h4, Instr.indexAt, Instr.sureAddr, asIntOf, run_underlying hu, h1, h2, run_sizeOf_of hts]
          · rw [VV_ptr]
            rw [e'] at h0
            exact ⟨VR_ptr_move h0.1, h0.2⟩
        · cases h
      · cases h
    · cases h
  · cases h

def boundOf (v : Option Value) (d : Int) : Option Int :=
  match v with
  | none => some d
  | some (.int _ x) => some x
  | _ => none

def stepSlice (P : Program) (T : TypeId) (x : Value) (lo hi : Option Value) : Option Eff :=
  match P.underlying T, x with
  | some (.slice e), .slice a len esz =>
    match boundOf hi (len : Int), boundOf lo 0 with
    | some h, some l =>
      if 0 ≤ l ∧ l ≤ h ∧ h ≤ len then
        match a with
        | none => if (tsize P e).isSome then some { v := .slice none 0 0 } else none
        | some a => if tsize P e = some esz then some { v := if l = h then .slice (some ⟨0, 0, none⟩) 0 esz else .slice (some { a with off := a.off + l.toNat * esz }) (h - l).toNat esz } else none
      else none
    | _, _ => none
  | _, _ => none
end

theorem run_sliceBounds_of {P : Program} {w : World} {len cap : Nat} {lo hi : Option Value} {h l : Int}
    (hh : boundOf hi (len : Int) = some h) (hl : boundOf lo 0 = some l)
    (h0 : 0 ≤ l) (h1 : l ≤ h) (h2 : h ≤ len) (h3 : len ≤ cap) : (Instr.sliceBounds true len cap lo hi none).run P w = .ok (l.toNat, h.toNat, cap) w := by
  have hb : ∀ (k : IntKind) (i : Int) (y : Nat) (c : BoundsCode), 0 ≤ i → i ≤ y → (Instr.sliceBound (.int k i) y c).run P w = .ok i.toNat w := fun k i y c a b => run_sliceBound w k i y c a b
  unfold boundOf at hh hl
  cases hi with
  | none =>
    simp at hh
    subst hh
    cases lo with
    | none => simp at hl; subst hl; simp [Instr.sliceBounds]
    | some v =>
      cases v <;> simp at hl
      subst hl
      simp [Instr.sliceBounds, hb _ _ len _ h0 (by omega)]
  | some u =>
    cases u <;> simp at hh
    subst hh
    rename_i ku nu
    have hA := hb ku nu cap .sliceAcap (by omega) (by omega)
    cases lo with
    | none => simp at hl; subst hl; simp [Instr.sliceBounds, hA]
    | some v =>
      cases v <;> simp at hl
      subst hl
      rename_i kv nv
      have hB := hb kv nv nu.toNat .sliceB h0 (by omega)
      simp [Instr.sliceBounds, hA, hB]

section
variable {P : Program} {o : Oper} {ev : Operand → Value} {g : Heap} {s : Nat → Prop} {f : Eff}

theorem int_arg {ρ : Ren} {lo : Option Operand} {act : Act} {l : Int} {d : Int} (hv : ∀ x, lo = some x → VV ρ g s (ev x) (act.eval x))
    (h : boundOf (lo.map ev) d = some l) : boundOf (lo.map act.eval) d = some l := by
  cases lo with
  | none => exact h
  | some x =>
    have hx := hv x rfl
    simp only [Option.map_some, boundOf] at h ⊢
    cases hxe : ev x <;> rw [hxe] at h hx <;> simp at h
    rw [VV_int] at hx
    rw [hx]
    simp [h]

theorem sim_slice {T : TypeId} {x : Operand} {lo hi : Option Operand} (ho : o.op = .slice T x lo hi none) (h : stepSlice P T (ev x) (lo.map ev) (hi.map ev) = some f) : OpSim P o ev g s f := by
  unfold stepSlice at h
  split at h
  · rename_i e a len esz hu hx
    split at h
    · rename_i hh l hhi hlo
      split at h
      · rename_i hc
        obtain ⟨c0, c1, c2⟩ := hc
        have hels : P.underlying T = some (.slice (P.elem T)) := by
          have : P.elem T = e := by simp [Program.elem, hu]
          rw [this]; exact hu
        split at h
        · split at h
          · rename_i hts
            cases h
            refine sim_pure [] _ fun base w0 ρ w act hR hv => ?_
            have h0 := hv x (by simp [ho, Op.operands])
            rw [hx, VV_slice] at h0
            obtain ⟨e1, e2, e3⟩ := VR_nilslice h0.1
            subst e2
            have hlo' := int_arg (ρ := ρ) (act := act) (fun y hy => hv y (by simp [ho, Op.operands, hy])) hlo
            have hhi' := int_arg (ρ := ρ) (act := act) (fun y hy => hv y (by simp [ho, Op.operands, hy])) hhi
            have l0 : l = 0 := by omega
            have h00 : hh = 0 := by omega
            subst l0 h00
            obtain ⟨n, hn⟩ := Option.isSome_iff_exists.1 hts
            refine ⟨.slice none 0 0, ?_, ?_⟩
            · have hb := run_sliceBounds_of (P := P) (w := w) (cap := 0) hhi' hlo' (by omega) (by omega) (by omega) (Nat.le_refl _)
              simp [execOp, ho, run_sliceAt_slice w T _ _ _ _ hels, e1, Instr.slice, run_underlying hu, hb, run_sizeOf_of hn]
            · rw [VV_slice]; exact ⟨⟨rfl, rfl, rfl⟩, trivial⟩
          · cases h
        · rename_i a
          split at h
          · rename_i hts
            cases h
            refine sim_pure [] _ fun base w0 ρ w act hR hv => ?_
            have h0 := hv x (by simp [ho, Op.operands])
            rw [hx, VV_slice] at h0
            obtain ⟨a', cap', e', q1, q2, q3, hk⟩ := VR_slice h0.1
            have hlo' := int_arg (ρ := ρ) (act := act) (fun y hy => hv y (by simp [ho, Op.operands, hy])) hlo
            have hhi' := int_arg (ρ := ρ) (act := act) (fun y hy => hv y (by simp [ho, Op.operands, hy])) hhi
            have hb := run_sliceBounds_of (P := P) (w := w) (cap := cap') hhi' hlo' c0 c1 c2 q1
            refine ⟨.slice (if cap' = l.toNat then some a' else some (a'.add (l.toNat * esz))) (hh.toNat - l.toNat) (cap' - l.toNat), ?_, ?_⟩
            · simp [execOp, ho, run_sliceAt_slice w T _ _ _ _ hels, e', Instr.slice, run_underlying hu, hb, run_sizeOf_of hts]
            · by_cases e : l = hh
              · subst e
                rw [if_pos rfl, VV_slice]
                refine ⟨?_, .inl rfl⟩
                rw [Nat.sub_self]
                by_cases ec : cap' = l.toNat
                · rw [if_pos ec]; exact ⟨_, _, rfl, Nat.zero_le _, by omega, fun _ => rfl, fun ver b hv => by cases hv⟩
                · rw [if_neg ec]; exact ⟨_, _, rfl, Nat.zero_le _, by omega, fun _ => rfl, fun ver b hv => by cases hv⟩
              · rw [if_neg e, VV_slice, if_neg (by omega)]
                refine ⟨⟨_, _, by rw [show (hh - l).toNat = hh.toNat - l.toNat by omega], by omega, by omega, fun hs => by have := q3 hs; omega, fun ver b hs hb => ?_⟩, h0.2⟩
                obtain ⟨k1, k2⟩ := hk ver b hs hb
                refine ⟨k1, fun hl => ?_⟩
                obtain ⟨m1, m2, m3⟩ := k2 hl
                refine ⟨by rw [m1, addr_add]; simp [Nat.add_assoc], ?_, fun hr => ?_⟩
                · have : l.toNat * esz + (hh - l).toNat * esz ≤ len * esz := by rw [← Nat.add_mul]; exact Nat.mul_le_mul_right _ (by omega)
                  simp only
                  omega
                · have : l.toNat * esz + (cap' - l.toNat) * esz = cap' * esz := by rw [← Nat.add_mul]; congr 1; omega
                  have := m3 hr
                  simp only
                  omega
          · cases h
      · cases h
    · cases h
  · cases h
end

end Go.Proofs.Ytdpkhijbikbhnaa.Abs

/-
  The abstract machine, part 3: more operations: arithmetic, conversions, what writes and what makes memory.
-/
namespace Go.Proofs.Ytdpkhijbikbhnaa.Abs
open Go Go.RowKit

/-- An operation on two values; d: the operands' type. -/
def abin (op : BinOp) (d : Option TypeDesc) (x y : Value) : Option Value :=
  match x, y with
  | .int k a, .int k' b =>
    match op with
    | .shl => if 0 ≤ b then some (.int k (k.wrap (a * 2 ^ (min b.toNat k.bits)))) else none
    | .shr => if 0 ≤ b then some (.int k (a.fdiv (2 ^ (min b.toNat k.bits)))) else none
    | .add => if k = k' then some (.int k (k.wrap (a + b))) else none
    | .sub => if k = k' then some (.int k (k.wrap (a - b))) else none
    | .mul => if k = k' then some (.int k (k.wrap (a * b))) else none
    | .quo => if k = k' ∧ b ≠ 0 then some (.int k (k.wrap (a.tdiv b))) else none
    | .rem => if k = k' ∧ b ≠ 0 then some (.int k (a.tmod b)) else none
    | .and => if k = k' then some (.int k (bits .and k a b)) else none
    | .or => if k = k' then some (.int k (bits .or k a b)) else none
    | .xor => if k = k' then some (.int k (bits .xor k a b)) else none
    | .andNot => if k = k' then some (.int k (bits .andNot k a b)) else none
    | .eql => if k = k' then some (.bool (a == b)) else none
    | .neq => if k = k' then some (.bool (a != b)) else none
    | .lss => if k = k' then some (.bool (decide (a < b))) else none
    | .leq => if k = k' then some (.bool (decide (a ≤ b))) else none
    | .gtr => if k = k' then some (.bool (decide (a > b))) else none
    | .geq => if k = k' then some (.bool (decide (a ≥ b))) else none
  | .string a, .string b =>
    match op with
    | .eql => some (.bool (a.toList == b.toList))
    | .neq => some (.bool (!(a.toList == b.toList)))
    | _ => none
  | .bool a, .bool b =>
    match op, d with
    | .eql, some .bool => some (.bool (a == b))
    | .neq, some .bool => some (.bool (!(a == b)))
    | _, _ => none
  | .pointer a, .pointer none =>
    match op, d with
    | .eql, some (.pointer _) => some (.bool a.isNone)
    | .neq, some (.pointer _) => some (.bool (!a.isNone))
    | _, _ => none
  | .slice a _ _, .slice none _ _ =>
    match op, d with
    | .eql, some (.slice _) => some (.bool a.isNone)
    | .neq, some (.slice _) => some (.bool (!a.isNone))
    | _, _ => none
  | _, _ => none

def stepBin (P : Program) (op : BinOp) (T : TypeId) (x y : Value) : Option Eff :=
  match abin op (P.underlying T) x y with
  | some v => some { v := v }
  | none => none

section
variable {P : Program} {o : Oper} {ev : Operand → Value} {g : Heap} {s : Nat → Prop} {f : Eff}

theorem guard_free {op : BinOp} {t : TypeId} {x y : Operand} {a b : Value} (w : World) (h1 : ∀ c, a ≠ .agg c) (h2 : a ≠ .nilIface) : (eqGuard op t x y a b).run P w = .ok () w := by
  unfold eqGuard
  cases op <;> simp <;> cases a <;> first | (exact absurd rfl h2) | (exact absurd rfl (h1 _)) | simp

theorem run_equal_slice_nil' (w : World) (t e : TypeId) (a : Option Addr) (n c n' c' : Nat) (h : P.underlying t = some (.slice e)) (op : BinOp) :
    (op = .eql → (binOp op t (.slice a n c) (.slice none n' c')).run P w = .ok (.bool a.isNone) w) ∧ (op = .neq → (binOp op t (.slice a n c) (.slice none n' c')).run P w = .ok (.bool (!a.isNone)) w) :=
  ⟨fun e0 => by subst e0; exact Lib.run_eql_slice_nil w t e a n c n' c' h, fun e0 => by subst e0; exact run_neq_slice_nil_any w t e a n c n' c' h⟩

theorem abin_run {op : BinOp} {T : TypeId} {x y : Value} {v : Value} (h : abin op (P.underlying T) x y = some v) {ρ : Ren} {x' y' : Value} (hx : VV ρ g s x x') (hy : VV ρ g s y y') (w : World) (X Y : Operand) :
    (do eqGuard op T X Y x' y'; binOp op T x' y' : Sem Value).run P w = .ok v w ∧ plain v = true := by
  unfold abin at h
  split at h
  · rename_i k a k' b
    rw [VV_int] at hx hy
    subst hx hy
    have hgf := guard_free (P := P) (op := op) (t := T) (x := X) (y := Y) (a := Value.int k a) (b := Value.int k' b) w (by simp) (by simp)
    simp only [Sem.run_bind, hgf, Result.andThen_ok]
    cases op <;> simp only [] at h <;> split at h <;> first | (cases h; done) | skip
    all_goals (rename_i hc; cases h; try (obtain ⟨rfl, hc2⟩ := hc); try subst hc)
    all_goals first
      | (refine ⟨?_, rfl⟩; simp [binOp, Op.intArith]; done)
      | (refine ⟨?_, rfl⟩; simp [binOp, Op.intDiv, hc2]; done)
      | (refine ⟨?_, rfl⟩; simp [binOp, Op.intCmp]; done)
      | (refine ⟨?_, rfl⟩; simp [binOp, Op.shift, Int.not_lt.2 hc]; done)
      | (refine ⟨?_, rfl⟩; simp [binOp, Op.intBits, bits]; done)
  · rename_i a b
    rw [VV_string] at hx hy
    subst hx hy
    have hgf := guard_free (P := P) (op := op) (t := T) (x := X) (y := Y) (a := Value.string a) (b := Value.string b) w (by simp) (by simp)
    simp only [Sem.run_bind, hgf, Result.andThen_ok]
    cases op <;> simp only [reduceCtorEq] at h <;> cases h <;> exact ⟨by simp [binOp, Op.stringOp], rfl⟩
  · rename_i a b
    rw [VV_bool] at hx hy
    subst hx hy
    have hgf := guard_free (P := P) (op := op) (t := T) (x := X) (y := Y) (a := Value.bool a) (b := Value.bool b) w (by simp) (by simp)
    simp only [Sem.run_bind, hgf, Result.andThen_ok]
    split at h
    · rename_i hd; cases h; exact ⟨run_eql_bool w T a b hd, rfl⟩
    · rename_i hd; cases h; exact ⟨run_neq_bool w T a b hd, rfl⟩
    · cases h
  · rename_i a
    rw [VV_nilptr] at hy
    subst hy
    have hx' : ∃ p, x' = .pointer p ∧ p.isNone = a.isNone := by
      cases a with
      | none => rw [VV_nilptr] at hx; exact ⟨none, hx, rfl⟩
      | some a =>
        rw [VV_ptr] at hx
        obtain ⟨ver, _, a', e, _⟩ := VR_ptr hx.1
        exact ⟨some a', e, rfl⟩
    obtain ⟨p, rfl, hp⟩ := hx'
    have hgf := guard_free (P := P) (op := op) (t := T) (x := X) (y := Y) (a := Value.pointer p) (b := Value.pointer none) w (by simp) (by simp)
    simp only [Sem.run_bind, hgf, Result.andThen_ok]
    rw [← hp] at h
    split at h
    · rename_i q hd; cases h; exact ⟨run_eql_pointer_nil w T p (by simp [Program.pointee, hd]), rfl⟩
    · rename_i q hd; cases h; exact ⟨run_neq_pointer_nil w T p (by simp [Program.pointee, hd]), rfl⟩
    · cases h
  · rename_i a l c l' c'
    rw [VV_slice] at hy
    obtain ⟨rfl, _, _⟩ := VR_nilslice hy.1
    have hx' : ∃ p l1 c1, x' = .slice p l1 c1 ∧ p.isNone = a.isNone := by
      cases a with
      | none => rw [VV_slice] at hx; obtain ⟨e, _, _⟩ := VR_nilslice hx.1; exact ⟨none, 0, 0, e, rfl⟩
      | some a =>
        rw [VV_slice] at hx
        obtain ⟨a', cap', e, _⟩ := VR_slice hx.1
        exact ⟨some a', _, _, e, rfl⟩
    obtain ⟨p, l1, c1, rfl, hp⟩ := hx'
    have hgf := guard_free (P := P) (op := op) (t := T) (x := X) (y := Y) (a := Value.slice p l1 c1) (b := Value.slice none 0 0) w (by simp) (by simp)
    simp only [Sem.run_bind, hgf, Result.andThen_ok]
    rw [← hp] at h
    split at h
    · rename_i q hd; cases h; exact ⟨(run_equal_slice_nil' w T q p l1 c1 0 0 hd .eql).1 rfl, rfl⟩
    · rename_i q hd; cases h; exact ⟨(run_equal_slice_nil' w T q p l1 c1 0 0 hd .neq).2 rfl, rfl⟩
    · cases h
  · cases h

theorem VV_plain {ρ : Ren} {v : Value} (h : plain v = true) : VV ρ g s v v := VV_of_VR (VR_plain h) (SV1_plain h)

theorem sim_bin {op : BinOp} {T T' : TypeId} {x y : Operand} (ho : o.op = .binOp op T x y T') (h : stepBin P op T (ev x) (ev y) = some f) : OpSim P o ev g s f := by
  unfold stepBin at h
  split at h
  · rename_i v hv0
    cases h
    refine sim_pure [] _ fun base w0 ρ w act hR hv => ?_
    obtain ⟨h1, h2⟩ := abin_run hv0 (hv x (by simp [ho, Op.operands])) (hv y (by simp [ho, Op.operands])) w x y
    refine ⟨v, ?_, VV_plain h2⟩
    simp only [execOp, ho, Sem.run_bind] at h1 ⊢
    rw [h1]
    rfl
  · cases h

def stepUn (op : UnOp) (x : Value) : Option Eff :=
  match op, x with
  | .not, .bool b => some { v := .bool (!b) }
  | .neg, .int k n => some { v := .int k (k.wrap (0 - n)) }
  | .xor, .int k n => some { v := .int k (bits .xor k (if k.signed then -1 else k.max) n) }
  | _, _ => none

theorem sim_un {op : UnOp} {T : TypeId} {x : Operand} (ho : o.op = .unOp op T x) (h : stepUn op (ev x) = some f) : OpSim P o ev g s f := by
  unfold stepUn at h
  split at h
  · rename_i b hx
    cases h
    refine sim_pure [] _ fun base w0 ρ w act hR hv => ?_
    have h0 := hv x (by simp [ho, Op.operands])
    rw [hx, VV_bool] at h0
    exact ⟨_, by simp [execOp, ho, h0, Op.unary], VV_plain rfl⟩
  · rename_i k n hx
    cases h
    refine sim_pure [] _ fun base w0 ρ w act hR hv => ?_
    have h0 := hv x (by simp [ho, Op.operands])
    rw [hx, VV_int] at h0
    exact ⟨_, by simp [execOp, ho, h0, Op.unary, Op.intArith], VV_plain rfl⟩
  · rename_i k n hx
    cases h
    refine sim_pure [] _ fun base w0 ρ w act hR hv => ?_
    have h0 := hv x (by simp [ho, Op.operands])
    rw [hx, VV_int] at h0
    exact ⟨_, by simp [execOp, ho, h0, Op.unary, Op.intBits, bits], VV_plain rfl⟩
  · cases h

def stepExtract (x : Value) (i : Nat) : Option Eff :=
  match x with
  | .tuple vs => match vs[i]? with
    | some v => some { v := v }
    | none => none
  | _ => none

theorem sim_extract {x : Operand} {i : Nat} (ho : o.op = .extract x i) (h : stepExtract (ev x) i = some f) : OpSim P o ev g s f := by
  unfold stepExtract at h
  split at h
  · rename_i vs hx
    split at h
    · rename_i v hi
      cases h
      refine sim_pure [] _ fun base w0 ρ w act hR hv => ?_
      have h0 := hv x (by simp [ho, Op.operands])
      rw [hx] at h0
      obtain ⟨⟨vs', e, ha⟩, hs⟩ := h0
      obtain ⟨v', hv', hva⟩ := ha.2 i v (by simpa using hi)
      have hm : v ∈ vs.toList := List.mem_of_getElem? (by simpa using hi)
      refine ⟨v', ?_, ?_⟩
      · have : vs'[i]? = some v' := by simpa using hv'
        simp [execOp, ho, e, Instr.extract, this]
      · have hsv := hs v hm
        cases v <;> first | exact ⟨hva, hsv⟩ | exact hva.elim
    · cases h
  · cases h

/-- Bytes as a string. -/
def bstr (ns : List Int) : ByteArray := ns.foldl (fun r n => r.push (UInt8.ofNat n.toNat)) ByteArray.empty

def intsOf : List Value → Option (List Int)
  | [] => some []
  | .int .u8 n :: l => (intsOf l).map (n :: ·)
  | _ => none

theorem intsOf_spec : ∀ {l : List Value} {ns : List Int}, intsOf l = some ns → l = ns.map (Value.int .u8)
  | [], ns, h => by simp [intsOf] at h; subst h; rfl
  | v :: l, ns, h => by
    unfold intsOf at h
    split at h
    · rename_i heq; cases heq
    · rename_i n l' heq
      cases heq
      cases hl : intsOf l with
      | none => simp [hl] at h
      | some ms =>
        simp [hl] at h
        subst h
        rw [intsOf_spec hl]
        rfl
    · cases h

@[simp] theorem intsOf_map (ns : List Int) : intsOf (ns.map (Value.int .u8)) = some ns := by
  induction ns with
  | nil => rfl
  | cons n ns ih => simp [intsOf, ih]

def stepConv (P : Program) (S D : TypeId) (x : Value) (g : Heap) : Option Eff :=
  match P.underlying S, P.underlying D, x with
  | some _, some (.int k), .int _ n => some { v := .int k (k.wrap n) }
  | some _, some .string, .string t => some { v := .string t }
  | some (.slice e), some .string, .slice a len esz =>
    match P.underlying e with
    | some (.int .u8) =>
      match a with
      | none => some { v := .string .empty }
      | some a =>
        if len = 0 then some { v := .string .empty } else
        match rd g a with
        | some b => if esz = 1 then match intsOf ((b.cells.drop a.off).take len) with
            | some ns => some { v := .string (bstr ns), r := [a.block] }
            | none => none
          else none
        | none => none
    | _ => none
  | some (.slice e), some (.slice e'), .slice (some a) len esz =>
    match P.underlying e with
    | some (.int .u8) => match rd g a with
      | some b => if S = D ∧ e = e' ∧ b.ro = false then some { v := .slice (some a) len esz, r := [a.block], w := [(a.block, ⟨true, b.e, b.cells⟩)] } else none
      | none => none
    | _ => none
  | _, _, _ => none

theorem run_bytesToString_of {w : World} {a : Addr} {len cap : Nat} {ns : List Int} (hl : ns.length = len) (h : ∀ (j : Nat) (v : Value), (ns.map (Value.int .u8))[j]? = some v → w.cell? (a.add j) = some v) :
    (Conv.bytesToString (.slice (some a) len cap)).run P w = .ok (.string (bstr ns)) w :=
  run_bytesToString w a len cap ns (run_loadCells_of P (by simpa using hl) h)

theorem All2_ints {ρ : Ren} {k : IntKind} {ns : List Int} {cs : List Value} (h : All2 (VR ρ g) (ns.map (Value.int k)) cs) : cs = ns.map (Value.int k) := by
  apply List.ext_getElem?
  intro i
  by_cases hi : i < ns.length
  · obtain ⟨b, hb, hv⟩ := h.2 i (.int k ns[i]) (by simp [hi])
    rw [hb, hv]
    simp [hi]
  · have h1 := h.1
    simp only [List.length_map] at h1
    rw [List.getElem?_eq_none (by omega), List.getElem?_eq_none (by simp; omega)]

theorem sim_conv {S D : TypeId} {x : Operand} (ho : o.op = .convert S D x) (h : stepConv P S D (ev x) g = some f) : OpSim P o ev g s f := by
  unfold stepConv at h
  split at h
  · rename_i d k k' n hS hD hx
    cases h
    refine sim_pure [] _ fun base w0 ρ w act hR hv => ?_
    have h0 := hv x (by simp [ho, Op.operands])
    rw [hx, VV_int] at h0
    exact ⟨_, by simp [execOp, ho, h0, convert, run_underlying hS, run_underlying hD, Conv.intToInt], VV_plain rfl⟩
  · rename_i d t hS hD hx
    cases h
    refine sim_pure [] _ fun base w0 ρ w act hR hv => ?_
    have h0 := hv x (by simp [ho, Op.operands])
    rw [hx, VV_string] at h0
    refine ⟨.string t, ?_, VV_plain rfl⟩
    cases d <;> simp [execOp, ho, h0, convert, run_underlying hS, run_underlying hD]
  · rename_i e a len esz hS hD hx
    split at h
    · rename_i he
      split at h
      · cases h
        refine sim_pure [] _ fun base w0 ρ w act hR hv => ?_
        have h0 := hv x (by simp [ho, Op.operands])
        rw [hx, VV_slice] at h0
        obtain ⟨e', _, _⟩ := VR_nilslice h0.1
        exact ⟨_, by simp [execOp, ho, e', run_convert_bytes_string w S D e none 0 0 hS he hD, Conv.bytesToString], VV_plain rfl⟩
      · rename_i a
        split at h
        · rename_i hl
          cases h
          refine sim_pure [] _ fun base w0 ρ w act hR hv => ?_
          have h0 := hv x (by simp [ho, Op.operands])
          rw [hx, VV_slice] at h0
          obtain ⟨a', cap', e', _⟩ := VR_slice h0.1
          subst hl
          have := run_bytesToString_of (P := P) (w := w) (a := a') (len := 0) (cap := cap') (ns := []) rfl (by simp)
          exact ⟨_, by simp [execOp, ho, e', run_convert_bytes_string w S D e _ _ _ hS he hD, this, bstr], VV_plain rfl⟩
        · split at h
          · rename_i b hb
            split at h
            · rename_i hesz
              subst hesz
              split at h
              · rename_i ns hns
                cases h
                obtain ⟨hsp, hg⟩ := rd_spec hb
                refine sim_pure [a.block] _ fun base w0 ρ w act hR hv => ?_
                have h0 := hv x (by simp [ho, Op.operands])
                rw [hx, VV_slice] at h0
                obtain ⟨cap', e', q1, q2, q3, q4⟩ := VR_slice_live hb h0.1
                obtain ⟨cs, c1, c2, c3⟩ := hR.cells hg a.off len (by omega)
                have hns' := intsOf_spec hns
                rw [hns'] at c3
                have hcs := All2_ints c3
                subst hcs
                have hlen : ns.length = len := by simpa using c1
                have := run_bytesToString_of (P := P) (w := w) (cap := cap') hlen c2
                exact ⟨_, by simp [execOp, ho, e', run_convert_bytes_string w S D e _ _ _ hS he hD, this], VV_plain rfl⟩
              · cases h
            · cases h
          · cases h
    · cases h
  · rename_i e e' a len esz hS hD hx
    split at h
    · rename_i he
      split at h
      · rename_i b hb
        split at h
        · rename_i hc
          obtain ⟨rfl, rfl, hro⟩ := hc
          cases h
          obtain ⟨hsp, hg⟩ := rd_spec hb
          intro base w0 ρ w act K Q hR hv hk
          have h0 := hv x (by simp [ho, Op.operands])
          have h1 := h0
          rw [hx, VV_slice] at h0
          obtain ⟨cap', e', q1, q2, q3, q4⟩ := VR_slice_live hb h0.1
          obtain ⟨_, _, cur, hcur, hK, _⟩ := hR.own _ b hg hro
          have hsh : w.shape? (ρ a.block).blk = some (b.e, cur.size) := by simp [World.shape?, hcur]
          obtain ⟨w', hw'⟩ : ∃ w', w' = w.freeze ⟨(ρ a.block).blk, cur.size, none⟩ 1 := ⟨_, rfl⟩
          have hrun : (execOp act.eval o).run P w = .ok (.value (act.eval x)) w' := by
            simp [execOp, ho, e', convert, run_underlying hS, run_underlying he, markStringish, hsh, hw']
          have hfr : w'.heap[(ρ a.block).blk]? = some (.cells cur b.e (cur.size, cur.size + 1)) := by
            simp only [hw', World.freeze, Nat.one_ne_zero, if_false, Array.getElem?_modify, if_true, hcur, Option.map_some]
            simp
          have hoth : ∀ k, k ≠ (ρ a.block).blk → w'.heap[k]? = w.heap[k]? := by
            intro k hk
            simp only [hw', World.freeze, Nat.one_ne_zero, if_false, Array.getElem?_modify]
            rw [if_neg (fun e => hk e.symm)]
          have hgr : w.grownBy w' (some (ρ a.block).blk) := ⟨by rw [hw']; rfl, by rw [hw']; rfl, by rw [hw']; rfl, by simp [hw', World.freeze], fun k _ hne => hoth k (fun e => hne (by rw [e]))⟩
          obtain ⟨r1, r2⟩ := hR.toRo hg hro hgr (fun k => by rw [cell_of_row w' _ k cur _ _ hfr, cell_of_row w _ k cur _ _ hcur])
          refine wp_of_run hrun (hk ρ w' _ (r1.sn0 _) r2 ?_)
          rw [hx] at h1
          exact VV.imp ⟨VT.mono r2 h1.2 h1.1, h1.2⟩ (fun i hi => .inl hi)
        · cases h
      · cases h
    · cases h
  · cases h

def stepLen (P : Program) (T : TypeId) (x : Value) : Option Eff :=
  match P.underlying T, x with
  | some (.slice _), .slice _ n _ => some { v := .int .i64 n }
  | some .string, .string t => some { v := .int .i64 t.size }
  | some (.array n _), _ => some { v := .int .i64 n }
  | _, _ => none

theorem sim_len {T : TypeId} {x : Operand} (ho : o.op = .call { callee := .builtin .len, args := #[x], argTypes := #[T] }) (h : stepLen P T (ev x) = some f) : OpSim P o ev g s f := by
  unfold stepLen at h
  split at h
  · rename_i e a n c hT hx
    cases h
    refine sim_pure [] _ fun base w0 ρ w act hR hv => ?_
    have h0 := hv x (by simp [ho, Op.operands, Call.operands])
    rw [hx, VV_slice] at h0
    have : ∃ a' c', act.eval x = .slice a' n c' := by
      cases a with
      | none => obtain ⟨e, e2, _⟩ := VR_nilslice h0.1; exact ⟨none, 0, by rw [e, e2]⟩
      | some a => obtain ⟨a', c', e, _⟩ := VR_slice h0.1; exact ⟨some a', c', e⟩
    obtain ⟨a', c', e⟩ := this
    exact ⟨_, by simp [execOp, ho, resolve, invoke, builtin, e, Builtin.len_, run_underlying hT, goInt], VV_plain rfl⟩
  · rename_i t hT hx
    cases h
    refine sim_pure [] _ fun base w0 ρ w act hR hv => ?_
    have h0 := hv x (by simp [ho, Op.operands, Call.operands])
    rw [hx, VV_string] at h0
    exact ⟨_, by simp [execOp, ho, resolve, invoke, builtin, h0, Builtin.len_, run_underlying hT, goInt], VV_plain rfl⟩
  · rename_i n e hT
    cases h
    refine sim_pure [] _ fun base w0 ρ w act hR hv => ?_
    exact ⟨_, by simp [execOp, ho, resolve, invoke, builtin, Builtin.len_, run_underlying hT, goInt], VV_plain rfl⟩
  · cases h

def stepIdx (P : Program) (T : TypeId) (x ix : Value) : Option Eff :=
  match P.underlying T, x, ix with
  | some .string, .string t, .int _ i => match (if 0 ≤ i then t[i.toNat]? else none) with
    | some b => some { v := .int .u8 b.toNat }
    | none => none
  | some (.array len e), .agg cs, .int _ i => match (if 0 ≤ i ∧ i < len ∧ tsize P e = some 1 ∧ aggT P e = some false then cs[i.toNat]? else none) with
    | some c => some { v := c }
    | none => none
  | _, _, _ => none

theorem sim_idx {T : TypeId} {x ix : Operand} (ho : o.op = .index T x ix) (h : stepIdx P T (ev x) (ev ix) = some f) : OpSim P o ev g s f := by
  unfold stepIdx at h
  split at h
  · rename_i t k i hT hx hi
    split at h
    · rename_i b hb
      cases h
      refine sim_pure [] _ fun base w0 ρ w act hR hv => ?_
      have h0 := hv x (by simp [ho, Op.operands])
      have h1 := hv ix (by simp [ho, Op.operands])
      rw [hx, VV_string] at h0
      rw [hi, VV_int] at h1
      refine ⟨_, ?_, VV_plain rfl⟩
      simp only [execOp, ho, h0, h1, Instr.index, asIntOf, Sem.run_bind, Sem.run_pure, run_underlying hT, Result.andThen_ok, hb]
    · cases h
  · rename_i len e cs k i hT hx hi
    split at h
    · rename_i c hc
      cases h
      split at hc
      · rename_i hb
        obtain ⟨b1, b2, b3, b4⟩ := hb
        refine sim_pure [] _ fun base w0 ρ w act hR hv => ?_
        have h0 := hv x (by simp [ho, Op.operands])
        have h1 := hv ix (by simp [ho, Op.operands])
        rw [hx] at h0
        rw [hi, VV_int] at h1
        obtain ⟨⟨cs', hx', ha⟩, hsv⟩ := h0
        obtain ⟨c', hc', hvr⟩ := ha.2 i.toNat c (by simpa using hc)
        have hc2 : cs'[i.toNat]? = some c' := by simpa using hc'
        refine ⟨c', ?_, VV_of_VR hvr (hsv c (by have := Array.mem_of_getElem? hc; simpa using this))⟩
        simp [execOp, ho, hx', h1, Instr.index, asIntOf, run_underlying hT, b1, b2, Go.part, run_isAgg_of b4, run_sizeOf_of b3, hc2]
      · cases hc
    · cases h
  · cases h

def stepMin (x y : Value) : Option Eff :=
  match x, y with
  | .int k a, .int _ b => some { v := .int k (if b < a then b else a) }
  | _, _ => none

theorem sim_min {T T' : TypeId} {x y : Operand} (ho : o.op = .call { callee := .builtin .min, args := #[x, y], argTypes := #[T, T'] }) (h : stepMin (ev x) (ev y) = some f) : OpSim P o ev g s f := by
  unfold stepMin at h
  split at h
  · rename_i k a k' b hx hy
    cases h
    refine sim_pure [] _ fun base w0 ρ w act hR hv => ?_
    have h0 := hv x (by simp [ho, Op.operands, Call.operands])
    have h1 := hv y (by simp [ho, Op.operands, Call.operands])
    rw [hx, VV_int] at h0
    rw [hy, VV_int] at h1
    exact ⟨_, by simp [execOp, ho, resolve, invoke, builtin, h0, h1, run_min_int2], VV_plain rfl⟩
  · cases h
def stepMax (x y : Value) : Option Eff :=
  match x, y with
  | .int k a, .int _ b => some { v := .int k (if a < b then b else a) }
  | _, _ => none

theorem sim_max {T T' : TypeId} {x y : Operand} (ho : o.op = .call { callee := .builtin .max, args := #[x, y], argTypes := #[T, T'] }) (h : stepMax (ev x) (ev y) = some f) : OpSim P o ev g s f := by
  unfold stepMax at h
  split at h
  · rename_i k a k' b hx hy
    cases h
    refine sim_pure [] _ fun base w0 ρ w act hR hv => ?_
    have h0 := hv x (by simp [ho, Op.operands, Call.operands])
    have h1 := hv y (by simp [ho, Op.operands, Call.operands])
    rw [hx, VV_int] at h0
    rw [hy, VV_int] at h1
    exact ⟨_, by simp [execOp, ho, resolve, invoke, builtin, h0, h1, run_max_int2], VV_plain rfl⟩
  · cases h
end

end Go.Proofs.Ytdpkhijbikbhnaa.Abs

/-
  The abstract machine, part 4: operations that write memory and that make it.
-/
namespace Go.Proofs.Ytdpkhijbikbhnaa.Abs
open Go Go.RowKit

def putAll : List Value → Nat → List Value → List Value
  | l, _, [] => l
  | l, o, c :: cs => putAll (l.set o c) (o + 1) cs

@[simp] theorem length_putAll : ∀ (cs l : List Value) (o : Nat), (putAll l o cs).length = l.length
  | [], _, _ => rfl
  | c :: cs, l, o => by simp [putAll, length_putAll cs]

def arrPut : Array Value → Nat → List Value → Array Value
  | l, _, [] => l
  | l, o, c :: cs => arrPut (l.setIfInBounds o c) (o + 1) cs

theorem size_arrPut : ∀ (cs : List Value) (l : Array Value) (o : Nat), (arrPut l o cs).size = l.size
  | [], _, _ => rfl
  | c :: cs, l, o => by simp [arrPut, size_arrPut cs]

def PreR {α β : Type} (R : α → β → Prop) (l : List α) (l' : Array β) : Prop :=
  ∀ (k : Nat) (c : α), l[k]? = some c → ∃ c', l'[k]? = some c' ∧ R c c'

theorem PreR.len {R : Value → Value → Prop} {l : List Value} {l' : Array Value} (h : PreR R l l') : l.length ≤ l'.size := by
  rcases Nat.lt_or_ge l'.size l.length with hlt | hge
  · obtain ⟨c', hc', _⟩ := h l'.size l[l'.size] (by simp [hlt])
    simp at hc'
  · exact hge

theorem PreR.put {R : Value → Value → Prop} : ∀ {cs cs' : List Value} {l : List Value} {l' : Array Value} {o : Nat}, PreR R l l' → All2 R cs cs' → o + cs.length ≤ l.length →
    PreR R (putAll l o cs) (arrPut l' o cs')
  | [], cs', l, l', o, h, ha, _ => by
    have : cs' = [] := List.eq_nil_of_length_eq_zero (by simpa using ha.1.symm)
    subst this
    exact h
  | c :: cs, cs', l, l', o, h, ha, hl => by
    cases cs' with
    | nil => simp [All2] at ha
    | cons c' cs' =>
      have h0 : R c c' := by
        obtain ⟨b, hb, hr⟩ := ha.2 0 c rfl
        simp at hb
        subst hb
        exact hr
      have hs : All2 R cs cs' := ⟨by simpa using ha.1, fun i a hi => by
        obtain ⟨b, hb, hr⟩ := ha.2 (i + 1) a (by simpa using hi)
        exact ⟨b, by simpa using hb, hr⟩⟩
      have hlen := h.len
      simp at hl
      refine PreR.put (l := l.set o c) (l' := l'.setIfInBounds o c') ?_ hs (by simp; omega)
      intro k d hk
      rw [List.getElem?_set] at hk
      by_cases e : o = k
      · subst e
        rw [if_pos rfl, if_pos (by omega)] at hk
        cases hk
        exact ⟨c', by rw [Array.getElem?_setIfInBounds_self_of_lt (by omega)], h0⟩
      · rw [if_neg e] at hk
        obtain ⟨d', hd', hr⟩ := h k d hk
        exact ⟨d', by rw [Array.getElem?_setIfInBounds_ne e]; exact hd', hr⟩

theorem heap_setCells (b : Nat) (e : TypeId) : ∀ (vs : List Value) (o : Nat) (w : World) (cur : Array Value), w.heap[b]? = some (.cells cur e (0, 0)) →
    (w.setCells b o vs).heap[b]? = some (.cells (arrPut cur o vs) e (0, 0)) ∧ w.grownBy (w.setCells b o vs) (some b)
  | [], _, w, cur, h => ⟨h, rfl, rfl, rfl, Nat.le_refl _, fun _ _ _ => rfl⟩
  | v :: vs, o, w, cur, h => by
    have h1 := heap_setCell_same w b o cur e v h
    obtain ⟨h2, h3⟩ := heap_setCells b e vs (o + 1) (w.setCell ⟨b, o, none⟩ v) (cur.setIfInBounds o v) h1
    refine ⟨h2, h3.os, h3.tape, h3.output, ?_, fun k hk hne => ?_⟩
    · have := h3.size; simpa [World.setCells, World.setCell] using this
    · have hk' : k < (w.setCell ⟨b, o, none⟩ v).heap.size := by simpa [World.setCell] using hk
      rw [World.setCells, h3.block k hk' hne]
      exact heap_setCell_other w _ k v (fun e => hne (by rw [e]))

def isTup : Value → Bool
  | .tuple _ => true
  | .iface _ _ => true
  | _ => false

theorem VR_one {ρ : Ren} {g : Heap} {c c' : Value} (h : VR ρ g c c') : c.oneCell' = true ∧ c'.oneCell' = true := by
  cases c with
  | pointer a => cases a with
    | none => cases h; exact ⟨rfl, rfl⟩
    | some a => obtain ⟨_, _, a', rfl, _⟩ := VR_ptr h; exact ⟨rfl, rfl⟩
  | slice a l e => cases a with
    | none => obtain ⟨rfl, _, _⟩ := VR_nilslice h; exact ⟨rfl, rfl⟩
    | some a => obtain ⟨a', c', rfl, _⟩ := VR_slice h; exact ⟨rfl, rfl⟩
  | _ => first | exact h.elim | (cases h; exact ⟨rfl, rfl⟩)

theorem VR_of_VV {ρ : Ren} {g : Heap} {s : Nat → Prop} {y y' : Value} (h : VV ρ g s y y') (h1 : y.oneCell' = true) (h2 : isTup y = false) : VR ρ g y y' ∧ SV1 s y := by
  cases y <;> first | exact ⟨h.1, h.2⟩ | (simp [Value.oneCell'] at h1; done) | (simp [isTup] at h2; done)

theorem cells_of_one {v : Value} (h : v.oneCell' = true) : v.cells = #[v] := by
  cases v <;> first | rfl | (simp [Value.oneCell'] at h; done)

theorem All2_one {R : Value → Value → Prop} {a b : Value} (h : R a b) : All2 R [a] [b] :=
  ⟨rfl, fun i x hi => by
    cases i with
    | zero => simp at hi; subst hi; exact ⟨b, rfl, h⟩
    | succ i => simp at hi⟩

theorem VV_cells {ρ : Ren} {g : Heap} {s : Nat → Prop} {y y' : Value} (h : VV ρ g s y y') (ht : isTup y = false) :
    All2 (VR ρ g) y.cells.toList y'.cells.toList ∧ (∀ c ∈ y.cells.toList, SV1 s c) ∧ (∀ c ∈ y'.cells.toList, c.oneCell' = true) ∧ y'.cells.size = y.cells.size := by
  have key : All2 (VR ρ g) y.cells.toList y'.cells.toList ∧ (∀ c ∈ y.cells.toList, SV1 s c) := by
    cases hy : y with
    | tuple vs => rw [hy] at ht; simp [isTup] at ht
    | iface k v => rw [hy] at ht; simp [isTup] at ht
    | agg cs =>
      rw [hy] at h
      obtain ⟨⟨cs', rfl, ha⟩, hs⟩ := h
      exact ⟨ha, hs⟩
    | _ =>
      rw [hy] at h
      obtain ⟨hv, hs⟩ := VR_of_VV h rfl rfl
      obtain ⟨h1, h2⟩ := VR_one hv
      rw [cells_of_one h2, cells_of_one h1]
      exact ⟨All2_one hv, fun c hc => by simp at hc; subst hc; exact hs⟩
  refine ⟨key.1, key.2, fun c hc => ?_, by have := key.1.1; simpa using this.symm⟩
  obtain ⟨i, hi, hci⟩ := List.mem_iff_getElem.1 hc
  have hi' : i < y.cells.toList.length := by rw [key.1.1]; exact hi
  obtain ⟨b, hb, hr⟩ := key.1.2 i _ (List.getElem?_eq_getElem hi')
  rw [List.getElem?_eq_getElem hi] at hb
  cases hb
  rw [← hci]
  exact (VR_one hr).2

section
variable {P : Program} {o : Oper} {a : Act} {w : World} {K : Act → World → Prop} {Q : Exit → Act → World → Prop}
theorem wp_of_skip {w' : World} (h : (execOp a.eval o).run P w = .ok .skip w') (hk : K (a.put o.dst undef) w') : o.wp P a w K Q := by
  unfold Oper.wp
  rw [h]
  exact hk
end

def stepStore (P : Program) (T : TypeId) (x y : Value) (g : Heap) : Option Eff :=
  match x with
  | .pointer (some a) => match rd g a with
    | some b => if b.ro = false ∧ isTup y = false ∧ tsize P T = some y.cells.size ∧ a.off + y.cells.size ≤ b.cells.length then
        some { v := undef, r := [a.block], w := [(a.block, ⟨false, b.e, putAll b.cells a.off y.cells.toList⟩)] } else none
    | none => none
  | _ => none

theorem mem_putAll : ∀ {cs l : List Value} {o : Nat} {c : Value}, c ∈ putAll l o cs → c ∈ l ∨ c ∈ cs
  | [], l, o, c, h => .inl h
  | d :: cs, l, o, c, h => by
    rcases mem_putAll (cs := cs) (l := l.set o d) h with h | h
    · rcases List.mem_or_eq_of_mem_set h with h | h
      · exact .inl h
      · exact .inr (by simp [h])
    · exact .inr (by simp [h])

section
variable {P : Program} {o : Oper} {ev : Operand → Value} {g : Heap} {s : Nat → Prop} {f : Eff}

theorem sim_store {T : TypeId} {x y : Operand} (ho : o.op = .store T x y) (h : stepStore P T (ev x) (ev y) g = some f) : OpSim P o ev g s f := by
  unfold stepStore at h
  split at h
  · rename_i a hx
    split at h
    · rename_i b hb
      split at h
      · rename_i hc
        obtain ⟨hro, ht, hts, hle⟩ := hc
        cases h
        obtain ⟨hsp, hg⟩ := rd_spec hb
        intro base w0 ρ w act K Q hR hv hk
        have h0 := hv x (by simp [ho, Op.operands])
        have h1 := hv y (by simp [ho, Op.operands])
        rw [hx, VV_ptr] at h0
        have e := VR_ptr_live hb h0.1
        obtain ⟨_, h00, cur, hcur, hK, hh⟩ := hR.own _ b hg hro
        obtain ⟨c1, c2, c3, c4⟩ := VV_cells h1 ht
        have hsz : cur.size ≥ b.cells.length := PreR.len hh
        have hlen : (act.eval y).cells.toList.length = (ev y).cells.size := by simpa using c4
        rw [h00, Nat.zero_add] at e
        have hrun := run_storeCells_cells (P := P) (ρ a.block).blk a.off (act.eval y).cells.toList 0 w
          (fun j hj => by rw [cell_of_row w _ _ cur _ _ hcur]; simp; omega) (fun j hj => frozen_of_row w _ _ cur _ hcur) c3
        obtain ⟨q1, q2⟩ := heap_setCells (ρ a.block).blk b.e (act.eval y).cells.toList a.off w cur hcur
        obtain ⟨r1, r2⟩ := hR.change (ri := ρ a.block) (cs := putAll b.cells a.off (ev y).cells.toList) hg hro q2 (.inl rfl) h00 q1 (by rw [size_arrPut, hK]) (by simp) (fun _ => rfl)
          (PreR.put hh c1 (by simpa using hle)) (fun c hc => by
            rcases mem_putAll hc with hc | hc
            · exact hR.wf _ b hg c hc
            · exact c2 c hc)
        refine wp_of_skip (w' := w.setCells (ρ a.block).blk a.off (act.eval y).cells.toList) ?_ (hk (upd ρ a.block (ρ a.block)) _ undef (r1.sn0 _) r2 VV_undef)
        rw [Nat.add_zero] at hrun
        simp [execOp, ho, e, Instr.storeAt, Instr.sureAddr, storeVar, run_sizeOf_of hts, c4, hrun]
      · cases h
    · cases h
  · cases h

theorem HR.added {base : Nat} {w0 : World} {ρ : Ren} {w : World} (hR : HR base w0 ρ g s w) (v : Value) (r : List Nat) {j : Nat} (hj : ¬ s j) {w' : World} {k0 : Nat} {e : TypeId} {cs : List Value} {cur : Array Value}
    (hg : w.grownBy w' none) (hk0 : w.heap.size ≤ k0) (hcur : w'.heap[k0]? = some (.cells cur e (0, 0)))
    (hcs : PreR (VR ρ g) cs cur) (hsv : ∀ c ∈ cs, SV1 s c) (f : Eff) (hf : f = { v := v, r := r, j := j, a := [⟨false, e, cs⟩] }) :
    HR base w0 (upd ρ j ⟨k0, 0, cur.size⟩) (f.ap g) (f.sn s) w' ∧ Mono ρ g s (upd ρ j ⟨k0, 0, cur.size⟩) (f.ap g) := by
  subst hf
  obtain ⟨h1, h2⟩ := hR.add hj hg hk0 hcur hcs hsv
  refine ⟨h1.seenMore (fun i hi => ?_) ?_, h2⟩
  · rcases hi with rfl | hi
    · exact .inr ⟨Nat.le_refl _, by simp⟩
    · exact .inl hi
  · obtain ⟨n, hn⟩ := hR.fin
    refine ⟨max n (j + 1), fun i hi => ?_⟩
    rcases hi with hi | hi
    · have := hn i hi; omega
    · simp at hi; omega

theorem grown_alloc (w : World) (o : Obj) : w.grownBy (w.alloc o) none := World.grownBy_alloc w o none

theorem All2.pre {R : Value → Value → Prop} {l : List Value} {l' : Array Value} (h : All2 R l l'.toList) : PreR R l l' := fun k c hk => by
  obtain ⟨b, hb, hr⟩ := h.2 k c hk
  exact ⟨b, by simpa using hb, hr⟩

def stepBox (T : TypeId) (x : Value) (j : Nat) : Option Eff :=
  if isTup x = false then some { v := .pointer (some ⟨j, 0, some x.cells.size⟩), j := j, a := [⟨false, T, x.cells.toList⟩] } else none

theorem sim_box {T : TypeId} {x : Operand} {j : Nat} (ho : o.op = .box T x) (h : stepBox T (ev x) j = some f) (hj : f.a ≠ [] → ¬ s j) : OpSim P o ev g s f := by
  unfold stepBox at h
  split at h
  · rename_i ht
    cases h
    intro base w0 ρ w act K Q hR hv hk
    have h1 := hv x (by simp [ho, Op.operands])
    obtain ⟨c1, c2, c3, c4⟩ := VV_cells h1 ht
    obtain ⟨r1, r2⟩ := hR.added (.pointer (some ⟨j, 0, some (ev x).cells.size⟩)) [] (hj (by simp)) (grown_alloc w (.cells (act.eval x).cells T)) (Nat.le_refl _) (heap_alloc_new w _) (All2.pre c1) c2 _ rfl
    refine wp_of_run (v' := .pointer (some ⟨w.heap.size, 0, none⟩)) (w' := w.alloc (.cells (act.eval x).cells T)) ?_ (hk _ _ _ r1 r2 ?_)
    · simp only [execOp, ho, Instr.box, newVar, newRow, Sem.run_bind, run_newObj, Result.andThen_ok, Sem.run_pure]
      rfl
    · rw [VV_ptr]
      refine ⟨⟨_, rfl, _, rfl, fun b hb => ?_⟩, .inr ⟨Nat.le_refl _, by simp⟩⟩
      simp only [Eff.ap, setAll, addAll, upd_self, Option.some.injEq] at hb
      subst hb
      exact ⟨by simp, fun _ => by simp⟩
  · cases h

/-- A type's zero value, cell by cell; its cells' number; its bytes. -/
def tinf (P : Program) (e : TypeId) : Option (List Value × Nat × Nat) :=
  match P.info? e with
  | some i => match i.zero with
    | some z => if z.cells.size = i.size ∧ z.cells.toList.all plain = true then some (z.cells.toList, i.size, i.bytes) else none
    | none => none
  | none => none

theorem tinf_spec {e : TypeId} {zs : List Value} {n b : Nat} (h : tinf P e = some (zs, n, b)) : ∃ i z, P.info? e = some i ∧ i.zero = some z ∧ i.size = n ∧ i.bytes = b ∧ z.cells.toList = zs ∧ z.cells.size = n ∧ zs.length = n ∧ ∀ c ∈ zs, plain c = true := by
  unfold tinf at h
  cases hi : P.info? e with
  | none => simp [hi] at h
  | some i =>
    cases hz : i.zero with
    | none => simp [hi, hz] at h
    | some z =>
      simp only [hi, hz] at h
      split at h
      · rename_i hc
        simp only [Option.some.injEq, Prod.mk.injEq] at h
        obtain ⟨h1, h2, h3⟩ := h
        refine ⟨i, z, rfl, hz, h2, h3, h1, by rw [← h2]; exact hc.1, by rw [← h1, ← h2, ← hc.1]; simp, fun c hcm => ?_⟩
        rw [← h1] at hcm
        exact List.all_eq_true.1 hc.2 c hcm
      · cases h

def stepAlloc (P : Program) (T : TypeId) (j : Nat) : Option Eff :=
  match tinf P T with
  | some (zs, n, _) => some { v := .pointer (some ⟨j, 0, some n⟩), j := j, a := [⟨false, T, zs⟩] }
  | none => none

theorem All2_plain {ρ : Ren} {l : List Value} (h : ∀ c ∈ l, plain c = true) : All2 (VR ρ g) l l :=
  ⟨rfl, fun _ a ha => ⟨a, ha, VR_plain (h a (List.mem_of_getElem? ha))⟩⟩

theorem sim_alloc {T : TypeId} {j : Nat} (ho : o.op = .alloc T) (h : stepAlloc P T j = some f) (hj : f.a ≠ [] → ¬ s j) : OpSim P o ev g s f := by
  unfold stepAlloc at h
  split at h
  · rename_i zs n bb hti
    cases h
    obtain ⟨i, z, hi, hz, h1, h2, h3, h4, h5, h6⟩ := tinf_spec hti
    intro base w0 ρ w act K Q hR hv hk
    obtain ⟨r1, r2⟩ := hR.added (.pointer (some ⟨j, 0, some n⟩)) [] (hj (by simp)) (grown_alloc w (.cells z.cells T)) (Nat.le_refl _) (heap_alloc_new w _) (cs := zs) (All2.pre (by rw [h3]; exact All2_plain h6)) (fun c hc => SV1_plain (h6 c hc)) _ rfl
    refine wp_of_run (v' := .pointer (some ⟨w.heap.size, 0, none⟩)) (w' := w.alloc (.cells z.cells T)) ?_ (hk _ _ _ r1 r2 ?_)
    · simp only [execOp, ho, Instr.alloc, zeroValue, typeInfo, newVar, newRow, Sem.run_bind, run_program, run_newObj, Result.andThen_ok, Sem.run_pure, hi, hz]
      rfl
    · rw [VV_ptr]
      refine ⟨⟨_, rfl, _, rfl, fun b hb => ?_⟩, .inr ⟨Nat.le_refl _, by simp⟩⟩
      simp only [Eff.ap, setAll, addAll, upd_self, Option.some.injEq] at hb
      subst hb
      exact ⟨by simp [h5], fun _ => by simp⟩
  · cases h

/-- A literal's parts, laid into its cells. -/
def fillL (place : Nat → Option (Nat × Nat)) (cells : List Value) : List (Nat × Value) → Option (List Value)
  | [] => some cells
  | (i, v) :: rest =>
    match place i with
    | some (off, size) => if v.cells.size = size ∧ off + size ≤ cells.length ∧ isTup v = false then fillL place (putAll cells off v.cells.toList) rest else none
    | none => none

theorem foldl_put (off : Nat) : ∀ (l : List Value) (k : Nat) (cs : Array Value), (l.zipIdx k).foldl (fun cs (x : Value × Nat) => cs.setIfInBounds (off + x.2) x.1) cs = arrPut cs (off + k) l
  | [], _, _ => rfl
  | v :: l, k, cs => by
    rw [List.zipIdx_cons, List.foldl_cons, foldl_put off l (k + 1)]
    rfl

theorem fill_rel {ρ : Ren} {place : Nat → Option (Nat × Nat)} : ∀ {parts parts' : List (Nat × Value)} {cells : List Value} {cells' : Array Value} {out : List Value},
    PreR (VR ρ g) cells cells' → cells.length = cells'.size → All2 (fun p p' => p.1 = p'.1 ∧ VV ρ g s p.2 p'.2) parts parts' → fillL place cells parts = some out →
    ∃ out', Instr.fill place cells' parts' = some out' ∧ PreR (VR ρ g) out out' ∧ out.length = out'.size ∧ ((∀ c ∈ cells, SV1 s c) → ∀ c ∈ out, SV1 s c)
  | [], parts', cells, cells', out, h, hl, ha, hf => by
    have : parts' = [] := List.eq_nil_of_length_eq_zero (by simpa using ha.1.symm)
    subst this
    simp [fillL] at hf
    subst hf
    exact ⟨cells', rfl, h, hl, id⟩
  | (i, v) :: parts, parts', cells, cells', out, h, hl, ha, hf => by
    cases parts' with
    | nil => simp [All2] at ha
    | cons p' parts' =>
      obtain ⟨i', v'⟩ := p'
      have h0 : i = i' ∧ VV ρ g s v v' := by
        obtain ⟨b, hb, hr⟩ := ha.2 0 (i, v) rfl
        simp at hb
        subst hb
        exact hr
      have hs : All2 (fun p p' => p.1 = p'.1 ∧ VV ρ g s p.2 p'.2) parts parts' := ⟨by simpa using ha.1, fun k a hk => by
        obtain ⟨b, hb, hr⟩ := ha.2 (k + 1) a (by simpa using hk)
        exact ⟨b, by simpa using hb, hr⟩⟩
      obtain ⟨rfl, hvv⟩ := h0
      unfold fillL at hf
      cases hp : place i with
      | none => simp [hp] at hf
      | some os =>
        obtain ⟨off, size⟩ := os
        simp only [hp] at hf
        split at hf
        · rename_i hc
          obtain ⟨k1, k2, k3⟩ := hc
          obtain ⟨c1, c2, c3, c4⟩ := VV_cells hvv k3
          have hput : PreR (VR ρ g) (putAll cells off v.cells.toList) (arrPut cells' off v'.cells.toList) := PreR.put h c1 (by simp; omega)
          obtain ⟨out', q1, q2, q3, q4⟩ := fill_rel (ρ := ρ) (place := place) hput (by simp [size_arrPut, hl]) hs hf
          refine ⟨out', ?_, q2, q3, fun hsv => q4 fun c hc => ?_⟩
          · unfold Instr.fill
            simp only [hp]
            rw [if_neg (by simp; omega), ← Array.foldl_toList, Array.toList_zipIdx, foldl_put]
            exact q1
          · rcases mem_putAll hc with hc | hc
            · exact hsv c hc
            · exact c2 c hc
        · cases hf

theorem parts_rel {ρ : Ren} {act : Act} {parts : Array (Nat × Operand)} (hv : ∀ x ∈ (parts.toList.map (·.2)).toArray, VV ρ g s (ev x) (act.eval x)) :
    All2 (fun (p p' : Nat × Value) => p.1 = p'.1 ∧ VV ρ g s p.2 p'.2) (parts.toList.map fun p => (p.1, ev p.2)) (parts.map fun (i, x) => (i, act.eval x)).toList := by
  refine ⟨by simp, fun i a hi => ?_⟩
  simp only [List.getElem?_map, Option.map_eq_some_iff] at hi
  obtain ⟨p, hp, rfl⟩ := hi
  refine ⟨(p.1, act.eval p.2), ?_, rfl, hv p.2 ?_⟩
  · simp only [Array.toList_map, List.getElem?_map, hp, Option.map_some]
  · simp only [List.mem_toArray, List.mem_map]
    exact ⟨p, List.mem_of_getElem? hp, rfl⟩

/-- A struct type's places and zero cells. -/
def binf (P : Program) (T : TypeId) : Option (List (Nat × Nat) × List Value) :=
  match P.info? T, P.underlying T with
  | some it, some (.struct fields) =>
    match it.zero, fields.toList.mapM (fun f => (P.info? f.type).map fun i => (f.offset, i.size)) with
    | some z, some places => if z.cells.toList.all plain = true then some (places, z.cells.toList) else none
    | _, _ => none
  | _, _ => none

/-- An array type's element size and zero cells. -/
def ainf (P : Program) (T : TypeId) : Option (Nat × List Value) :=
  match P.info? T, P.underlying T with
  | some it, some (.array _ e) =>
    match it.zero, P.info? e with
    | some z, some ie => if z.cells.toList.all plain = true then some (ie.size, z.cells.toList) else none
    | _, _ => none
  | _, _ => none

def stepBuild (P : Program) (T : TypeId) (parts : List (Nat × Value)) : Option Eff :=
  match binf P T with
  | some (places, zs) => match fillL (fun i => places[i]?) zs parts with
    | some out => some { v := .agg out.toArray }
    | none => none
  | none => match ainf P T with
    | some (sz, zs) => match fillL (fun i => some (i * sz, sz)) zs parts with
      | some out => some { v := .agg out.toArray }
      | none => none
    | none => none

theorem sim_build {T : TypeId} {parts : Array (Nat × Operand)} (ho : o.op = .build T parts) (h : stepBuild P T (parts.toList.map fun p => (p.1, ev p.2)) = some f) : OpSim P o ev g s f := by
  unfold stepBuild at h
  split at h
  · rename_i places zs hb
    split at h
    · rename_i out hf
      cases h
      refine sim_pure [] _ fun base w0 ρ w act hR hv => ?_
      have hpr := parts_rel (ev := ev) (g := g) (s := s) (ρ := ρ) (act := act) (parts := parts) (by simpa [ho, Op.operands] using hv)
      unfold binf at hb
      split at hb
      · rename_i it fields hi hu
        split at hb
        · rename_i z pl hz hpl
          split at hb
          · rename_i hpn
            simp only [Option.some.injEq, Prod.mk.injEq] at hb
            obtain ⟨rfl, rfl⟩ := hb
            have hpn' : ∀ c ∈ z.cells.toList, plain c = true := fun c hc => List.all_eq_true.1 hpn c hc
            obtain ⟨out', q1, q2, q3, q4⟩ := fill_rel (ρ := ρ) (s := s) (g := g) (cells' := z.cells) (All2.pre (All2_plain hpn')) (by simp) hpr hf
            refine ⟨.agg out', ?_, ⟨⟨out', rfl, ⟨by simpa using q3, fun i a hia => ?_⟩⟩, ?_⟩⟩
            · have hrun := run_build (P := P) w T (parts.map fun (i, x) => (i, act.eval x)) out' (by
                simp only [Program.built, hi, hu, hz, hpl]
                simpa using q1)
              simp only [execOp, ho, Sem.run_bind, hrun, Result.andThen_ok, Sem.run_pure]
            · obtain ⟨b', hb', hr⟩ := q2 i a (by simpa using hia)
              exact ⟨b', by simpa using hb', hr⟩
            · intro c hc
              exact q4 (fun c hc => SV1_plain (hpn' c hc)) c (by simpa using hc)
          · cases hb
        · cases hb
      · cases hb
    · cases h
  · split at h
    · rename_i sz zs hb
      split at h
      · rename_i out hf
        cases h
        refine sim_pure [] _ fun base w0 ρ w act hR hv => ?_
        have hpr := parts_rel (ev := ev) (g := g) (s := s) (ρ := ρ) (act := act) (parts := parts) (by simpa [ho, Op.operands] using hv)
        unfold ainf at hb
        split at hb
        · rename_i it len e hi hu
          split at hb
          · rename_i z ie hz hie
            split at hb
            · rename_i hpn
              simp only [Option.some.injEq, Prod.mk.injEq] at hb
              obtain ⟨rfl, rfl⟩ := hb
              have hpn' : ∀ c ∈ z.cells.toList, plain c = true := fun c hc => List.all_eq_true.1 hpn c hc
              obtain ⟨out', q1, q2, q3, q4⟩ := fill_rel (ρ := ρ) (s := s) (g := g) (cells' := z.cells) (All2.pre (All2_plain hpn')) (by simp) hpr hf
              refine ⟨.agg out', ?_, ⟨⟨out', rfl, ⟨by simpa using q3, fun i a hia => ?_⟩⟩, ?_⟩⟩
              · have hrun := run_build (P := P) w T (parts.map fun (i, x) => (i, act.eval x)) out' (by
                  simp only [Program.built, hi, hu, hz, hie]
                  simpa using q1)
                simp only [execOp, ho, Sem.run_bind, hrun, Result.andThen_ok, Sem.run_pure]
              · obtain ⟨b', hb', hr⟩ := q2 i a (by simpa using hia)
                exact ⟨b', by simpa using hb', hr⟩
              · intro c hc
                exact q4 (fun c hc => SV1_plain (hpn' c hc)) c (by simpa using hc)
            · cases hb
          · cases hb
        · cases hb
      · cases h
    · cases h

def zcells (zs : List Value) (n : Nat) : List Value := (List.range n).map fun i => zs[i % zs.length]?.getD undef

@[simp] theorem zcells_one (z : Value) (n : Nat) : zcells [z] n = List.replicate n z := by
  apply List.ext_getElem?
  intro i
  by_cases hi : i < n
  · simp [zcells, hi, Nat.mod_one]
  · simp [zcells, hi]

@[simp] theorem length_zcells (zs : List Value) (n : Nat) : (zcells zs n).length = n := by simp [zcells]

theorem madeCells_rel {ρ : Ren} {z : Value} {zs : List Value} (h : z.cells.toList = zs) (hp : ∀ c ∈ zs, plain c = true) (n : Nat) (hn : 0 < n → 0 < zs.length) : PreR (VR ρ g) (zcells zs n) (madeCells z.cells n) ∧ ∀ c ∈ zcells zs n, SV1 s c := by
  have key : ∀ (i : Nat) (c : Value), (zcells zs n)[i]? = some c → (madeCells z.cells n)[i]? = some c ∧ plain c = true := by
    intro i c hi
    have hlt : i < n := by
      have := (List.getElem?_eq_some_iff.1 hi).1
      simpa using this
    have hpos := hn (by omega)
    have hmod : i % zs.length < zs.length := Nat.mod_lt _ hpos
    simp only [zcells, List.getElem?_map, List.getElem?_range hlt, Option.map_some, Option.some.injEq] at hi
    rw [List.getElem?_eq_getElem hmod] at hi
    simp only [Option.getD_some] at hi
    have hsz : z.cells.size = zs.length := by rw [← h]; simp
    refine ⟨?_, hp c (by rw [← hi]; exact List.getElem_mem _)⟩
    have hmod' : i % z.cells.size < z.cells.size := by rw [hsz]; exact hmod
    have : z.cells[i % z.cells.size]! = c := by
      rw [getElem!_pos z.cells _ hmod', ← hi]
      simp only [← h, Array.getElem_toList, hsz]
    simp [madeCells, hlt, this]
  refine ⟨fun i c hi => ⟨c, (key i c hi).1, VR_plain (key i c hi).2⟩, fun c hc => ?_⟩
  obtain ⟨i, hi, hci⟩ := List.mem_iff_getElem.1 hc
  exact SV1_plain (key i c (by rw [List.getElem?_eq_getElem hi, hci])).2

def stepBuildSlice (P : Program) (T : TypeId) (len : Nat) (parts : List (Nat × Value)) (j : Nat) : Option Eff :=
  match P.underlying T with
  | some (.slice e) => match tinf P e with
    | some (zs, n, _) => if 0 < n ∧ len * n ≤ 16777216 then match fillL (fun i => some (i * n, n)) (zcells zs (len * n)) parts with
        | some out => some { v := .slice (some ⟨j, 0, some out.length⟩) len n, j := j, a := [⟨false, e, out⟩] }
        | none => none
      else none
    | none => none
  | _ => none

theorem length_fillL {place : Nat → Option (Nat × Nat)} : ∀ {parts : List (Nat × Value)} {cells out : List Value}, fillL place cells parts = some out → out.length = cells.length
  | [], cells, out, h => by simp [fillL] at h; subst h; rfl
  | (i, v) :: parts, cells, out, h => by
    unfold fillL at h
    split at h
    · split at h
      · have := length_fillL h; simpa using this
      · cases h
    · cases h

theorem VV_newSlice {ρ : Ren} {j len n k0 : Nat} {e : TypeId} {cs : List Value} {s' : Nat → Prop} (hs : s' j) (hlen : len * n ≤ cs.length) (cap : Nat) (hcap : len ≤ cap) (hm : cap ≤ maxLen) (K : Nat) (hK : cap * n = K) :
    VV (upd ρ j ⟨k0, 0, K⟩) (upd g j (some ⟨false, e, cs⟩)) s' (.slice (some ⟨j, 0, some cs.length⟩) len n) (.slice (some ⟨k0, 0, none⟩) len cap) := by
  rw [VV_slice]
  refine ⟨⟨_, _, rfl, hcap, hm, fun h => (by cases h), fun ver b hv hb => ?_⟩, .inr hs⟩
  simp only [upd_self, Option.some.injEq] at hb hv
  subst hb hv
  exact ⟨Nat.le_refl _, fun _ => ⟨by simp, by simpa using hlen, fun _ => by simp [hK]⟩⟩

theorem sim_buildSlice {T : TypeId} {len : Nat} {parts : Array (Nat × Operand)} {j : Nat} (ho : o.op = .buildSlice T len parts) (h : stepBuildSlice P T len (parts.toList.map fun p => (p.1, ev p.2)) j = some f) (hj : f.a ≠ [] → ¬ s j) : OpSim P o ev g s f := by
  unfold stepBuildSlice at h
  split at h
  · rename_i e hu
    split at h
    · rename_i zs n bb hti
      split at h
      · rename_i hc
        obtain ⟨hpos, hlim⟩ := hc
        split at h
        · rename_i out hf
          cases h
          obtain ⟨i, z, hi, hz, h1, h2, h3, h4, h5, h6⟩ := tinf_spec hti
          intro base w0 ρ w act K Q hR hv hk
          have hpr := parts_rel (ev := ev) (g := g) (s := s) (ρ := ρ) (act := act) (parts := parts) (by simpa [ho, Op.operands] using hv)
          obtain ⟨m1, m2⟩ := madeCells_rel (ρ := ρ) (g := g) (s := s) h3 h6 (len * n) (fun _ => by omega)
          obtain ⟨out', q1, q2, q3, q4⟩ := fill_rel (ρ := ρ) (s := s) (g := g) m1 (by simp [size_madeCells]) hpr hf
          have hout := length_fillL hf
          rw [length_zcells] at hout
          obtain ⟨r1, r2⟩ := hR.added (.slice (some ⟨j, 0, some out.length⟩) len n) [] (hj (by simp)) (grown_alloc w (.cells out' e)) (Nat.le_refl _) (heap_alloc_new w _) q2 (q4 m2) _ rfl
          have hml : len ≤ maxLen := by
            have : len * 1 ≤ len * n := Nat.mul_le_mul_left _ hpos
            simp only [maxLen]; omega
          refine wp_of_run (v' := .slice (some ⟨w.heap.size, 0, none⟩) len len) (w' := w.alloc (.cells out' e)) ?_ (hk _ _ _ r1 r2 (VV_newSlice (.inr ⟨Nat.le_refl _, by simp⟩) (by omega) len (Nat.le_refl _) hml _ (by omega)))
          have hle : ¬ (len * n > 2 ^ 24) := by omega
          by_cases h0 : len * n = 0
          · have hmk : ((Array.range (len * n)).map ((#[] : Array Value)[· % (#[] : Array Value).size]!)) = madeCells z.cells (len * n) := by simp [h0, madeCells]
            simp only [execOp, ho, Instr.buildSlice, Sem.run_bind, run_underlying hu, Result.andThen_ok, sizeOf, typeInfo, run_program, Sem.run_pure, hi, h1, if_neg hle, if_pos h0, hmk, q1, newRow, Sem.run_bind, run_newObj, Result.andThen_ok, Sem.run_pure]
            rfl
          · have hmk : ((Array.range (len * n)).map (z.cells[· % z.cells.size]!)) = madeCells z.cells (len * n) := rfl
            simp only [execOp, ho, Instr.buildSlice, Sem.run_bind, run_underlying hu, Result.andThen_ok, sizeOf, typeInfo, run_program, Sem.run_pure, hi, h1, if_neg hle, if_neg h0, zeroValue, hz, hmk, q1, newRow, run_newObj]
            rfl
        · cases h
      · cases h
    · cases h
  · cases h

def stepMake (P : Program) (T : TypeId) (l c : Value) (j : Nat) : Option Eff :=
  match P.underlying T, l, c with
  | some (.slice e), .int _ n, .int _ n' => match tinf P e with
    | some (zs, k, bytes) => if 0 < k ∧ n = n' ∧ 0 ≤ n ∧ (bytes : Int) * n ≤ 281474976710656 ∧ n ≤ 281474976710656 then
        some { v := .slice (some ⟨j, 0, some (n.toNat * k)⟩) n.toNat k, j := j, a := [⟨false, e, zcells zs (n.toNat * k)⟩] } else none
    | none => none
  | _, _, _ => none

theorem sim_make {T : TypeId} {l c : Operand} {j : Nat} (ho : o.op = .makeSlice T l c) (h : stepMake P T (ev l) (ev c) j = some f) (hj : f.a ≠ [] → ¬ s j) : OpSim P o ev g s f := by
  unfold stepMake at h
  split at h
  · rename_i e kl n kc n' hu hl hc
    split at h
    · rename_i zs k bytes hti
      split at h
      · rename_i hcc
        obtain ⟨hpos, rfl, h0, hb, hn⟩ := hcc
        cases h
        obtain ⟨i, z, hi, hz, h1, h2, h3, h4, h5, h6⟩ := tinf_spec hti
        intro base w0 ρ w act K Q hR hv hk
        have hv1 := hv l (by simp [ho, Op.operands])
        have hv2 := hv c (by simp [ho, Op.operands])
        rw [hl, VV_int] at hv1
        rw [hc, VV_int] at hv2
        obtain ⟨m1, m2⟩ := madeCells_rel (ρ := ρ) (g := g) (s := s) h3 h6 (n.toNat * k) (fun _ => by omega)
        have hrun := run_make (P := P) w T e i z hu hi hz kl kc n n h0 (Int.le_refl _) (by rw [h2]; exact hb) (by omega)
        rw [h1] at hrun
        obtain ⟨r1, r2⟩ := hR.added (.slice (some ⟨j, 0, some (n.toNat * k)⟩) n.toNat k) [] (hj (by simp)) (grown_alloc w (.cells (madeCells z.cells (n.toNat * k)) e)) (Nat.le_refl _) (heap_alloc_new w _) m1 m2 _ rfl
        refine wp_of_run (v' := .slice (some ⟨w.heap.size, 0, none⟩) n.toNat n.toNat) ?_ (hk _ _ _ r1 r2 ?_)
        · simp only [execOp, ho, hv1, hv2, Sem.run_bind, hrun, Result.andThen_ok, Sem.run_pure]
        · have := VV_newSlice (g := g) (ρ := ρ) (j := j) (len := n.toNat) (n := k) (k0 := w.heap.size) (e := e) (cs := zcells zs (n.toNat * k)) (s' := Eff.sn { v := .slice (some ⟨j, 0, some (n.toNat * k)⟩) n.toNat k, j := j, a := [⟨false, e, zcells zs (n.toNat * k)⟩] } s)
            (.inr ⟨Nat.le_refl _, by simp⟩) (by simp) n.toNat (Nat.le_refl _) (by simp only [maxLen]; omega) (madeCells z.cells (n.toNat * k)).size (by simp [size_madeCells])
          rw [length_zcells] at this
          exact this
      · cases h
    · cases h
  · cases h
end

end Go.Proofs.Ytdpkhijbikbhnaa.Abs
