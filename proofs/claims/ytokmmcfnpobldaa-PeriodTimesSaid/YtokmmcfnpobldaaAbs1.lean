/-
  The abstract machine, part 1: abstract values and heaps, and what it means that a world holds them.
  An abstract value is a value of the model whose addresses name abstract blocks: block, offset, and (in 'spot') how many cells the block had when the address was made. An address of an elder length is dead: nothing is said of it.
  A slice's third number is how many cells an element has.
-/
import Derived.Below
import Derived.Laws.MakeOwn
import Derived.Laws.OwnMore
import Derived.Laws.IdiomCopy
import Derived.Laws.BytesString
import Derived.Laws.Rows
import Derived.Orders
namespace Go.Proofs.Ytokmmcfnpobldaa.Abs
open Go Go.RowKit

structure Blk where
  ro : Bool
  e : TypeId
  cells : List Value

abbrev Heap := Nat → Option Blk

structure RI where
  blk : Nat
  off : Nat
  K : Nat

abbrev Ren := Nat → RI

def All2 {α β : Type} (R : α → β → Prop) (l : List α) (l' : List β) : Prop :=
  l.length = l'.length ∧ ∀ (i : Nat) (a : α), l[i]? = some a → ∃ b, l'[i]? = some b ∧ R a b

/-- One cell's value. -/
def VR (ρ : Ren) (g : Heap) : Value → Value → Prop
  | .bool b, v' => v' = .bool b
  | .int k n, v' => v' = .int k n
  | .string s, v' => v' = .string s
  | .func f x y, v' => v' = .func f x y
  | .nilFunc, v' => v' = .nilFunc
  | .nilIface, v' => v' = .nilIface
  | .pointer none, v' => v' = .pointer none
  | .pointer (some a), v' => ∃ ver, a.spot = some ver ∧ ∃ a', v' = .pointer (some a') ∧ ∀ b, g a.block = some b →
      ver ≤ b.cells.length ∧ (b.cells.length = ver → a' = ⟨(ρ a.block).blk, (ρ a.block).off + a.off, none⟩)
  | .slice none len esz, v' => v' = .slice none 0 0 ∧ len = 0 ∧ esz = 0
  | .slice (some a) len esz, v' => ∃ a' cap', v' = .slice (some a') len cap' ∧ len ≤ cap' ∧ cap' ≤ maxLen ∧ (a.spot = none → len = 0) ∧
      ∀ ver b, a.spot = some ver → g a.block = some b → ver ≤ b.cells.length ∧ (b.cells.length = ver →
        a' = ⟨(ρ a.block).blk, (ρ a.block).off + a.off, none⟩ ∧ a.off + len * esz ≤ ver ∧ (b.ro = false → a.off + cap' * esz = (ρ a.block).K))
  | _, _ => False

def VA (ρ : Ren) (g : Heap) : Value → Value → Prop
  | .agg cs, v' => ∃ cs', v' = .agg cs' ∧ All2 (VR ρ g) cs.toList cs'.toList
  | v, v' => VR ρ g v v'

def VT (ρ : Ren) (g : Heap) : Value → Value → Prop
  | .tuple vs, v' => ∃ vs', v' = .tuple vs' ∧ All2 (VA ρ g) vs.toList vs'.toList
  | v, v' => VA ρ g v v'

/-- All blocks that a value names have been seen. -/
def SV1 (s : Nat → Prop) : Value → Prop
  | .pointer (some a) => s a.block
  | .slice (some a) _ _ => a.spot = none ∨ s a.block
  | _ => True

def SVA (s : Nat → Prop) : Value → Prop
  | .agg cs => ∀ c ∈ cs.toList, SV1 s c
  | v => SV1 s v

def SVT (s : Nat → Prop) : Value → Prop
  | .tuple vs => ∀ c ∈ vs.toList, SVA s c
  | v => SVA s v

structure HR (base : Nat) (w0 : World) (ρ : Ren) (g : Heap) (s : Nat → Prop) (w : World) : Prop where
  below : Below base w0 w
  hb : base ≤ w.heap.size
  seen : ∀ i b, g i = some b → s i
  fin : ∃ n, ∀ i, s i → i < n
  wf : ∀ i b, g i = some b → ∀ c ∈ b.cells, SV1 s c
  ro : ∀ i b, g i = some b → b.ro = true → (ρ i).blk < w.heap.size ∧
    ∀ (k : Nat) (c : Value), b.cells[k]? = some c → ∃ c', w.cell? ⟨(ρ i).blk, (ρ i).off + k, none⟩ = some c' ∧ VR ρ g c c'
  own : ∀ i b, g i = some b → b.ro = false → base ≤ (ρ i).blk ∧ (ρ i).off = 0 ∧
    ∃ cur : Array Value, w.heap[(ρ i).blk]? = some (.cells cur b.e (0, 0)) ∧ cur.size = (ρ i).K ∧
      ∀ (k : Nat) (c : Value), b.cells[k]? = some c → ∃ c', cur[k]? = some c' ∧ VR ρ g c c'
  inj : ∀ i j b b', g i = some b → g j = some b' → b.ro = false → (ρ i).blk = (ρ j).blk → i = j

def Mono (ρ : Ren) (g : Heap) (s : Nat → Prop) (ρ' : Ren) (g' : Heap) : Prop :=
  ∀ i b', s i → g' i = some b' → ∃ b, g i = some b ∧ (b'.ro = false → b.ro = false) ∧ b.cells.length ≤ b'.cells.length ∧
    (b.cells.length = b'.cells.length → ρ' i = ρ i)

theorem Mono.refl (ρ : Ren) (g : Heap) (s : Nat → Prop) : Mono ρ g s ρ g :=
  fun _ b' _ h => ⟨b', h, id, Nat.le_refl _, fun _ => rfl⟩

theorem Mono.trans {ρ ρ' ρ'' : Ren} {g g' g'' : Heap} {s s' : Nat → Prop} (hs : ∀ i, s i → s' i)
    (h : Mono ρ g s ρ' g') (k : Mono ρ' g' s' ρ'' g'') : Mono ρ g s ρ'' g'' := by
  intro i b'' hi hb
  obtain ⟨b', hb', h1, h2, h3⟩ := k i b'' (hs i hi) hb
  obtain ⟨b, hb0, k1, k2, k3⟩ := h i b' hi hb'
  exact ⟨b, hb0, fun e => k1 (h1 e), Nat.le_trans k2 h2, fun e => by rw [h3 (by omega), k3 (by omega)]⟩

theorem VR.mono {ρ ρ' : Ren} {g g' : Heap} {s : Nat → Prop} (hm : Mono ρ g s ρ' g') {v v' : Value} (hs : SV1 s v) (h : VR ρ g v v') :
    VR ρ' g' v v' := by
  cases v with
  | pointer a =>
    cases a with
    | none => exact h
    | some a =>
      obtain ⟨ver, hsp, a', hv, hk⟩ := h
      refine ⟨ver, hsp, a', hv, fun b' hb' => ?_⟩
      obtain ⟨b, hb, h1, h2, h3⟩ := hm a.block b' hs hb'
      obtain ⟨k1, k2⟩ := hk b hb
      exact ⟨by omega, fun e => by rw [h3 (by omega)]; exact k2 (by omega)⟩
  | slice a len esz =>
    cases a with
    | none => exact h
    | some a =>
      obtain ⟨a', cap', hv, h0, hm1, hd, hk⟩ := h
      refine ⟨a', cap', hv, h0, hm1, hd, fun ver b' hsp hb' => ?_⟩
      have hs' : s a.block := by
        rcases hs with hs | hs
        · rw [hs] at hsp; cases hsp
        · exact hs
      obtain ⟨b, hb, h1, h2, h3⟩ := hm a.block b' hs' hb'
      obtain ⟨k1, k2⟩ := hk ver b hsp hb
      refine ⟨by omega, fun e => ?_⟩
      obtain ⟨q1, q2, q3⟩ := k2 (by omega)
      rw [h3 (by omega)]
      exact ⟨q1, q2, fun hr => q3 (h1 hr)⟩
  | _ => exact h

theorem All2.imp {α β : Type} {R R' : α → β → Prop} {l : List α} {l' : List β} (hr : ∀ a ∈ l, ∀ b, R a b → R' a b) (h : All2 R l l') : All2 R' l l' :=
  ⟨h.1, fun i a ha => by
    obtain ⟨b, hb, hR⟩ := h.2 i a ha
    exact ⟨b, hb, hr a (List.mem_of_getElem? ha) b hR⟩⟩

theorem VA.mono {ρ ρ' : Ren} {g g' : Heap} {s : Nat → Prop} (hm : Mono ρ g s ρ' g') {v v' : Value} (hs : SVA s v) (h : VA ρ g v v') :
    VA ρ' g' v v' := by
  cases v with
  | agg cs =>
    obtain ⟨cs', hv, ha⟩ := h
    exact ⟨cs', hv, ha.imp fun a ha b hr => VR.mono hm (hs a ha) hr⟩
  | pointer a => exact VR.mono (v := .pointer a) hm hs h
  | slice a l c => exact VR.mono (v := .slice a l c) hm hs h
  | _ => exact h

theorem VT.mono {ρ ρ' : Ren} {g g' : Heap} {s : Nat → Prop} (hm : Mono ρ g s ρ' g') {v v' : Value} (hs : SVT s v) (h : VT ρ g v v') :
    VT ρ' g' v v' := by
  cases v with
  | tuple cs =>
    obtain ⟨cs', hv, ha⟩ := h
    exact ⟨cs', hv, ha.imp fun a ha b hr => VA.mono hm (hs a ha) hr⟩
  | agg cs => exact VA.mono (v := .agg cs) hm hs h
  | pointer a => exact VR.mono (v := .pointer a) hm hs h
  | slice a l c => exact VR.mono (v := .slice a l c) hm hs h
  | _ => exact h

theorem SV1.imp {s s' : Nat → Prop} (h : ∀ i, s i → s' i) {v : Value} (hv : SV1 s v) : SV1 s' v := by
  cases v with
  | pointer a => cases a with
    | none => exact hv
    | some a => exact h _ hv
  | slice a _ _ => cases a with
    | none => exact hv
    | some a => exact Or.imp id (h _) hv
  | _ => exact hv

theorem SVA.imp {s s' : Nat → Prop} (h : ∀ i, s i → s' i) {v : Value} (hv : SVA s v) : SVA s' v := by
  cases v with
  | agg cs => exact fun c hc => SV1.imp h (hv c hc)
  | pointer a => exact SV1.imp (v := .pointer a) h hv
  | slice a l c => exact SV1.imp (v := .slice a l c) h hv
  | _ => exact hv

theorem SVT.imp {s s' : Nat → Prop} (h : ∀ i, s i → s' i) {v : Value} (hv : SVT s v) : SVT s' v := by
  cases v with
  | tuple cs => exact fun c hc => SVA.imp h (hv c hc)
  | agg cs => exact SVA.imp (v := .agg cs) h hv
  | pointer a => exact SV1.imp (v := .pointer a) h hv
  | slice a l c => exact SV1.imp (v := .slice a l c) h hv
  | _ => exact hv

def upd {α : Type} (f : Nat → α) (i : Nat) (x : α) : Nat → α := fun k => if k = i then x else f k

@[simp] theorem upd_self {α : Type} (f : Nat → α) (i : Nat) (x : α) : upd f i x i = x := by simp [upd]
theorem upd_ne {α : Type} (f : Nat → α) {i k : Nat} (x : α) (h : k ≠ i) : upd f i x k = f k := by simp [upd, h]

section
variable {base : Nat} {w0 : World} {ρ : Ren} {g : Heap} {s : Nat → Prop} {w : World}

theorem HR.blk_lt (h : HR base w0 ρ g s w) {i : Nat} {b : Blk} (hb : g i = some b) : (ρ i).blk < w.heap.size := by
  cases hr : b.ro with
  | true => exact (h.ro i b hb hr).1
  | false =>
    obtain ⟨_, _, cur, hc, _⟩ := h.own i b hb hr
    exact (Array.getElem?_eq_some_iff.1 hc).1

/-- Fewer blocks. -/
theorem HR.sub (h : HR base w0 ρ g s w) {g' : Heap} (hs : ∀ i b, g' i = some b → g i = some b) : HR base w0 ρ g' s w ∧ Mono ρ g s ρ g' := by
  have hm : Mono ρ g s ρ g' := fun i b' _ hb => ⟨b', hs i b' hb, id, Nat.le_refl _, fun _ => rfl⟩
  refine ⟨⟨h.below, h.hb, fun i b hb => h.seen i b (hs i b hb), h.fin, fun i b hb => h.wf i b (hs i b hb), fun i b hb hr => ?_, fun i b hb hr => ?_,
    fun i j b b' hb hb' => h.inj i j b b' (hs i b hb) (hs j b' hb')⟩, hm⟩
  · obtain ⟨h1, h2⟩ := h.ro i b (hs i b hb) hr
    refine ⟨h1, fun k c hc => ?_⟩
    obtain ⟨c', hc', hv⟩ := h2 k c hc
    exact ⟨c', hc', hv.mono hm (h.wf i b (hs i b hb) c (List.mem_of_getElem? hc))⟩
  · obtain ⟨h1, h2, cur, h3, h4, h5⟩ := h.own i b (hs i b hb) hr
    refine ⟨h1, h2, cur, h3, h4, fun k c hc => ?_⟩
    obtain ⟨c', hc', hv⟩ := h5 k c hc
    exact ⟨c', hc', hv.mono hm (h.wf i b (hs i b hb) c (List.mem_of_getElem? hc))⟩

/-- The world may draw. -/
theorem HR.world (h : HR base w0 ρ g s w) {w' : World} (hh : w'.heap = w.heap) (hB : Below base w0 w') : HR base w0 ρ g s w' := by
  refine ⟨hB, by rw [hh]; exact h.hb, h.seen, h.fin, h.wf, fun i b hb hr => ?_, fun i b hb hr => ?_, h.inj⟩
  · obtain ⟨h1, h2⟩ := h.ro i b hb hr
    refine ⟨by rw [hh]; exact h1, fun k c hc => ?_⟩
    obtain ⟨c', hc', hv⟩ := h2 k c hc
    exact ⟨c', by rw [← hc']; simp [World.cell?, hh], hv⟩
  · obtain ⟨h1, h2, cur, h3, h4⟩ := h.own i b hb hr
    exact ⟨h1, h2, cur, by rw [hh]; exact h3, h4⟩

/-- More blocks seen. -/
theorem HR.seenMore (h : HR base w0 ρ g s w) {s' : Nat → Prop} (hs : ∀ i, s i → s' i) (hf : ∃ n, ∀ i, s' i → i < n) : HR base w0 ρ g s' w :=
  ⟨h.below, h.hb, fun i b hb => hs i (h.seen i b hb), hf, fun i b hb c hc => SV1.imp hs (h.wf i b hb c hc), h.ro, h.own, h.inj⟩

/-- A block of the machine's own is changed, in place or moved. -/
theorem HR.change (h : HR base w0 ρ g s w) {i : Nat} {b : Blk} (hi : g i = some b) (hro : b.ro = false) {w' : World} {ri : RI} {cs : List Value} {cur : Array Value}
    (hg : w.grownBy w' (some (ρ i).blk)) (hri : ri.blk = (ρ i).blk ∨ w.heap.size ≤ ri.blk) (hoff : ri.off = 0)
    (hcur : w'.heap[ri.blk]? = some (.cells cur b.e (0, 0))) (hK : cur.size = ri.K) (hlen : b.cells.length ≤ cs.length) (hsame : b.cells.length = cs.length → ri = ρ i)
    (hcs : ∀ (k : Nat) (c : Value), cs[k]? = some c → ∃ c', cur[k]? = some c' ∧ VR ρ g c c') (hsv : ∀ c ∈ cs, SV1 s c) :
    HR base w0 (upd ρ i ri) (upd g i (some ⟨false, b.e, cs⟩)) s w' ∧ Mono ρ g s (upd ρ i ri) (upd g i (some ⟨false, b.e, cs⟩)) := by
  have hm : Mono ρ g s (upd ρ i ri) (upd g i (some ⟨false, b.e, cs⟩)) := by
    intro k b' hk hb'
    by_cases e : k = i
    · subst e
      rw [upd_self] at hb'
      cases hb'
      exact ⟨b, hi, fun _ => hro, hlen, fun e => by simpa using hsame e⟩
    · rw [upd_ne _ _ e] at hb'
      exact ⟨b', hb', id, Nat.le_refl _, fun _ => upd_ne ρ ri e⟩
  have hbase := (h.own i b hi hro).1
  have hold : ∀ k b', g k = some b' → k ≠ i → w'.heap[(ρ k).blk]? = w.heap[(ρ k).blk]? := by
    intro k b' hk hne
    refine hg.block _ (h.blk_lt hk) fun e => hne ?_
    injection e with e
    exact (h.inj i k b b' hi hk hro e.symm).symm
  have hget : ∀ k b', upd g i (some ⟨false, b.e, cs⟩) k = some b' → k ≠ i → g k = some b' := fun k b' hk hne => by rwa [upd_ne _ _ hne] at hk
  have hlt : ∀ k b', g k = some b' → (ρ k).blk < w'.heap.size := fun k b' hk => Nat.lt_of_lt_of_le (h.blk_lt hk) hg.size
  refine ⟨⟨h.below.grown hg h.hb (fun k e => by injection e with e; omega), Nat.le_trans h.hb hg.size, fun k b' hk => ?_, h.fin, fun k b' hk c hc => ?_, fun k b' hk hr => ?_,
    fun k b' hk hr => ?_, fun k j b1 b2 h1 h2 hr e => ?_⟩, hm⟩
  · by_cases e : k = i
    · subst e; exact h.seen _ b hi
    · exact h.seen k b' (hget k b' hk e)
  · by_cases e : k = i
    · subst e
      rw [upd_self] at hk
      cases hk
      exact hsv c hc
    · exact h.wf k b' (hget k b' hk e) c hc
  · have e : k ≠ i := by
      rintro rfl
      rw [upd_self] at hk
      cases hk
      cases hr
    have hk' := hget k b' hk e
    rw [upd_ne ρ ri e]
    obtain ⟨h1, h2⟩ := h.ro k b' hk' hr
    refine ⟨hlt k b' hk', fun q c hc => ?_⟩
    obtain ⟨c', hc', hv⟩ := h2 q c hc
    exact ⟨c', by rw [← hc']; exact World.cell?_of_block (hold k b' hk' e), hv.mono hm (h.wf k b' hk' c (List.mem_of_getElem? hc))⟩
  · by_cases e : k = i
    · subst e
      rw [upd_self] at hk
      cases hk
      rw [upd_self]
      refine ⟨by have := h.hb; rcases hri with e | e <;> omega, hoff, cur, hcur, hK, fun q c hc => ?_⟩
      obtain ⟨c', hc', hv⟩ := hcs q c hc
      exact ⟨c', hc', hv.mono hm (hsv c (List.mem_of_getElem? hc))⟩
    · have hk' := hget k b' hk e
      rw [upd_ne ρ ri e]
      obtain ⟨h1, h2, cur', h3, h4, h5⟩ := h.own k b' hk' hr
      refine ⟨h1, h2, cur', by rw [hold k b' hk' e]; exact h3, h4, fun q c hc => ?_⟩
      obtain ⟨c', hc', hv⟩ := h5 q c hc
      exact ⟨c', hc', hv.mono hm (h.wf k b' hk' c (List.mem_of_getElem? hc))⟩
  · by_cases ek : k = i
    · by_cases ej : j = i
      · rw [ek, ej]
      · exfalso
        have hj' := hget j b2 h2 ej
        rw [ek, upd_self, upd_ne ρ ri ej] at e
        rcases hri with hr' | hr'
        · exact ej (h.inj i j b b2 hi hj' hro (hr'.symm.trans e)).symm
        · have := h.blk_lt hj'; omega
    · have hk' := hget k b1 h1 ek
      by_cases ej : j = i
      · exfalso
        rw [ej, upd_self, upd_ne ρ ri ek] at e
        rcases hri with hr' | hr'
        · exact ek (h.inj i k b b1 hi hk' hro (hr'.symm.trans e.symm)).symm
        · have := h.blk_lt hk'; omega
      · rw [upd_ne ρ ri ek, upd_ne ρ ri ej] at e
        exact h.inj k j b1 b2 hk' (hget j b2 h2 ej) hr e

/-- A new block. -/
theorem HR.add (h : HR base w0 ρ g s w) {j : Nat} (hj : ¬ s j) {w' : World} {k0 : Nat} {e : TypeId} {cs : List Value} {cur : Array Value}
    (hg : w.grownBy w' none) (hk0 : w.heap.size ≤ k0)
    (hcur : w'.heap[k0]? = some (.cells cur e (0, 0)))
    (hcs : ∀ (k : Nat) (c : Value), cs[k]? = some c → ∃ c', cur[k]? = some c' ∧ VR ρ g c c') (hsv : ∀ c ∈ cs, SV1 s c) :
    HR base w0 (upd ρ j ⟨k0, 0, cur.size⟩) (upd g j (some ⟨false, e, cs⟩)) (fun i => i = j ∨ s i) w' ∧ Mono ρ g s (upd ρ j ⟨k0, 0, cur.size⟩) (upd g j (some ⟨false, e, cs⟩)) := by
  have hm : Mono ρ g s (upd ρ j ⟨k0, 0, cur.size⟩) (upd g j (some ⟨false, e, cs⟩)) := by
    intro k b' hk hb'
    have e : k ≠ j := fun e => hj (e ▸ hk)
    rw [upd_ne _ _ e] at hb'
    exact ⟨b', hb', id, Nat.le_refl _, fun _ => upd_ne _ _ e⟩
  have hnj : g j = none := by
    cases hgj : g j with
    | none => rfl
    | some b => exact absurd (h.seen j b hgj) hj
  have hold : ∀ k b', g k = some b' → w'.heap[(ρ k).blk]? = w.heap[(ρ k).blk]? := fun k b' hk => hg.block _ (h.blk_lt hk) (by simp)
  have hget : ∀ k b', upd g j (some ⟨false, e, cs⟩) k = some b' → k ≠ j → g k = some b' := fun k b' hk hne => by rwa [upd_ne _ _ hne] at hk
  refine ⟨⟨h.below.grown hg h.hb (by simp), Nat.le_trans h.hb hg.size, fun k b' hk => ?_, ?_, fun k b' hk c hc => ?_, fun k b' hk hr => ?_,
    fun k b' hk hr => ?_, fun k q b1 b2 h1 h2 hr ee => ?_⟩, hm⟩
  · by_cases e : k = j
    · exact .inl e
    · exact .inr (h.seen k b' (hget k b' hk e))
  · obtain ⟨n, hn⟩ := h.fin
    refine ⟨max n (j + 1), fun i hi => ?_⟩
    rcases hi with rfl | hi
    · omega
    · have := hn i hi; omega
  · by_cases e : k = j
    · subst e
      rw [upd_self] at hk
      cases hk
      exact SV1.imp (fun _ => .inr) (hsv c hc)
    · exact SV1.imp (fun _ => .inr) (h.wf k b' (hget k b' hk e) c hc)
  · have ee : k ≠ j := by
      rintro rfl
      rw [upd_self] at hk
      cases hk
      cases hr
    have hk' := hget k b' hk ee
    rw [upd_ne _ _ ee]
    obtain ⟨h1, h2⟩ := h.ro k b' hk' hr
    refine ⟨Nat.lt_of_lt_of_le h1 hg.size, fun q c hc => ?_⟩
    obtain ⟨c', hc', hv⟩ := h2 q c hc
    exact ⟨c', by rw [← hc']; exact World.cell?_of_block (hold k b' hk'), hv.mono hm (h.wf k b' hk' c (List.mem_of_getElem? hc))⟩
  · by_cases ee : k = j
    · subst ee
      rw [upd_self] at hk
      cases hk
      rw [upd_self]
      refine ⟨Nat.le_trans h.hb hk0, rfl, cur, hcur, rfl, fun q c hc => ?_⟩
      obtain ⟨c', hc', hv⟩ := hcs q c hc
      exact ⟨c', hc', hv.mono hm (hsv c (List.mem_of_getElem? hc))⟩
    · have hk' := hget k b' hk ee
      rw [upd_ne _ _ ee]
      obtain ⟨h1, h2, cur', h3, h4, h5⟩ := h.own k b' hk' hr
      refine ⟨h1, h2, cur', by rw [hold k b' hk']; exact h3, h4, fun q c hc => ?_⟩
      obtain ⟨c', hc', hv⟩ := h5 q c hc
      exact ⟨c', hc', hv.mono hm (h.wf k b' hk' c (List.mem_of_getElem? hc))⟩
  · by_cases ek : k = j
    · by_cases eq : q = j
      · rw [ek, eq]
      · exfalso
        rw [ek, upd_self, upd_ne _ _ eq] at ee
        have := h.blk_lt (hget q b2 h2 eq)
        simp only at ee
        omega
    · have hk' := hget k b1 h1 ek
      by_cases eq : q = j
      · exfalso
        rw [eq, upd_self, upd_ne _ _ ek] at ee
        have := h.blk_lt hk'
        simp only at ee
        omega
      · rw [upd_ne _ _ ek, upd_ne _ _ eq] at ee
        exact h.inj k q b1 b2 hk' (hget q b2 h2 eq) hr ee
/-- A block of the machine's own is written no more: the mark that the run-time lays behind its last cell. -/
theorem HR.toRo (h : HR base w0 ρ g s w) {i : Nat} {b : Blk} (hi : g i = some b) (hro : b.ro = false) {w' : World}
    (hg : w.grownBy w' (some (ρ i).blk)) (hcur : ∀ (k : Nat), w'.cell? ⟨(ρ i).blk, k, none⟩ = w.cell? ⟨(ρ i).blk, k, none⟩) :
    HR base w0 ρ (upd g i (some ⟨true, b.e, b.cells⟩)) s w' ∧ Mono ρ g s ρ (upd g i (some ⟨true, b.e, b.cells⟩)) := by
  have hm : Mono ρ g s ρ (upd g i (some ⟨true, b.e, b.cells⟩)) := by
    intro k b' hk hb'
    by_cases e : k = i
    · subst e
      rw [upd_self] at hb'
      cases hb'
      exact ⟨b, hi, fun e => by simp at e, Nat.le_refl _, fun _ => rfl⟩
    · rw [upd_ne _ _ e] at hb'
      exact ⟨b', hb', id, Nat.le_refl _, fun _ => rfl⟩
  have hbase := (h.own i b hi hro).1
  have hold : ∀ k b', g k = some b' → k ≠ i → w'.heap[(ρ k).blk]? = w.heap[(ρ k).blk]? := by
    intro k b' hk hne
    refine hg.block _ (h.blk_lt hk) fun e => hne ?_
    injection e with e
    exact (h.inj i k b b' hi hk hro e.symm).symm
  have hget : ∀ k b', upd g i (some ⟨true, b.e, b.cells⟩) k = some b' → k ≠ i → g k = some b' := fun k b' hk hne => by rwa [upd_ne _ _ hne] at hk
  have hlt : ∀ k b', g k = some b' → (ρ k).blk < w'.heap.size := fun k b' hk => Nat.lt_of_lt_of_le (h.blk_lt hk) hg.size
  refine ⟨⟨h.below.grown hg h.hb (fun k e => by injection e with e; omega), Nat.le_trans h.hb hg.size, fun k b' hk => ?_, h.fin, fun k b' hk c hc => ?_, fun k b' hk hr => ?_,
    fun k b' hk hr => ?_, fun k j b1 b2 h1 h2 hr e => ?_⟩, hm⟩
  · by_cases e : k = i
    · subst e; exact h.seen _ b hi
    · exact h.seen k b' (hget k b' hk e)
  · by_cases e : k = i
    · subst e
      rw [upd_self] at hk
      cases hk
      exact h.wf _ b hi c hc
    · exact h.wf k b' (hget k b' hk e) c hc
  · by_cases e : k = i
    · subst e
      rw [upd_self] at hk
      cases hk
      refine ⟨hlt _ b hi, fun q c hc => ?_⟩
      obtain ⟨_, h0, cur, h3, _, h5⟩ := h.own _ b hi hro
      obtain ⟨c', hc', hv⟩ := h5 q c hc
      refine ⟨c', ?_, hv.mono hm (h.wf _ b hi c (List.mem_of_getElem? hc))⟩
      rw [h0, Nat.zero_add, hcur, cell_of_row w _ q cur _ _ h3]
      exact hc'
    · have hk' := hget k b' hk e
      obtain ⟨h1, h2⟩ := h.ro k b' hk' hr
      refine ⟨hlt k b' hk', fun q c hc => ?_⟩
      obtain ⟨c', hc', hv⟩ := h2 q c hc
      exact ⟨c', by rw [← hc']; exact World.cell?_of_block (hold k b' hk' e), hv.mono hm (h.wf k b' hk' c (List.mem_of_getElem? hc))⟩
  · have e : k ≠ i := by
      rintro rfl
      rw [upd_self] at hk
      cases hk
      cases hr
    have hk' := hget k b' hk e
    obtain ⟨h1, h2, cur', h3, h4, h5⟩ := h.own k b' hk' hr
    refine ⟨h1, h2, cur', by rw [hold k b' hk' e]; exact h3, h4, fun q c hc => ?_⟩
    obtain ⟨c', hc', hv⟩ := h5 q c hc
    exact ⟨c', hc', hv.mono hm (h.wf k b' hk' c (List.mem_of_getElem? hc))⟩
  · have ek : k ≠ i := by
      rintro rfl
      rw [upd_self] at h1
      cases h1
      cases hr
    by_cases ej : j = i
    · subst ej
      exact h.inj k j b1 b (hget k b1 h1 ek) hi hr e
    · exact h.inj k j b1 b2 (hget k b1 h1 ek) (hget j b2 h2 ej) hr e
end

end Go.Proofs.Ytokmmcfnpobldaa.Abs
