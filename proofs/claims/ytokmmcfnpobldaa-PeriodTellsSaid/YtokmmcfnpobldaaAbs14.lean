/-
  The abstract machine, part 14: from a contract to a call with given arguments.
-/
import Derived.Test.YtokmmcfnpobldaaAbs13
import Derived.OpenShut
namespace Go.Proofs.Ytokmmcfnpobldaa.Abs
open Go Go.RowKit

abbrev Ent := Option (Addr × TypeId × List Value)

def gOf (L : List Ent) : Heap := fun i => match L[i]? with
  | some (some e) => some ⟨true, e.2.1, e.2.2⟩
  | _ => none

def rOf (L : List Ent) : Ren := fun i => match L[i]? with
  | some (some e) => ⟨e.1.block, e.1.off, 0⟩
  | _ => ⟨0, 0, 0⟩

/-- The cells that an entry names stand there. -/
def EntIn (w : World) : Ent → Prop
  | none => True
  | some e => e.2.2 ≠ [] ∧ (∀ c ∈ e.2.2, plain c = true) ∧ ∀ (i : Nat) (c : Value), e.2.2[i]? = some c → w.cell? (e.1.add i) = some c

theorem gOf_some {L : List Ent} {i : Nat} {b : Blk} (h : gOf L i = some b) : ∃ e, L[i]? = some (some e) ∧ b = ⟨true, e.2.1, e.2.2⟩ ∧ rOf L i = ⟨e.1.block, e.1.off, 0⟩ := by
  unfold gOf at h
  split at h
  · rename_i e he
    cases h
    exact ⟨e, he, rfl, by simp [rOf, he]⟩
  · cases h

theorem cell_plain {w : World} {x : Addr} {c : Value} (h : w.cell? (x.add 0) = some c) : x.spot = none ∧ x.block < w.heap.size := by
  have h0 : x.add 0 = x := by simp [Addr.add]
  rw [h0] at h
  unfold World.cell? at h
  split at h
  · rename_i c' t' z' hh
    split at h
    · cases h
    · rename_i hs
      refine ⟨by cases hx : x.spot with
        | none => rfl
        | some s => rw [hx] at hs; simp at hs, ?_⟩
      exact (Array.getElem?_eq_some_iff.1 hh).1
  · cases h

theorem add_plain {x : Addr} (h : x.spot = none) (k : Nat) : x.add k = ⟨x.block, x.off + k, none⟩ := by
  unfold Addr.add
  split
  · rename_i e; subst e; rw [← h]; rfl
  · rfl

theorem hr_args {w : World} {L : List Ent} (h : ∀ e ∈ L, EntIn w e) : HR w.heap.size w (rOf L) (gOf L) (fun i => i < L.length) w := by
  refine ⟨Below.refl _ _, Nat.le_refl _, fun i b hb => ?_, ⟨L.length, fun i hi => hi⟩, fun i b hb c hc => ?_, fun i b hb _ => ?_, fun i b hb hf => ?_, fun i j b b' hb _ hf _ => ?_⟩
  · obtain ⟨e, he, _, _⟩ := gOf_some hb
    exact (List.getElem?_eq_some_iff.1 he).1
  · obtain ⟨e, he, rfl, _⟩ := gOf_some hb
    exact SV1_plain ((h _ (List.mem_of_getElem? he)).2.1 c hc)
  · obtain ⟨e, he, rfl, hr⟩ := gOf_some hb
    obtain ⟨h1, h2, h3⟩ := h _ (List.mem_of_getElem? he)
    rw [hr]
    have key : e.1.spot = none ∧ e.1.block < w.heap.size := by
      cases hcs : e.2.2 with
      | nil => exact absurd hcs h1
      | cons c cs => exact cell_plain (h3 0 c (by rw [hcs]; rfl))
    refine ⟨key.2, fun k c hc => ⟨c, ?_, VR_plain (h2 c (List.mem_of_getElem? hc))⟩⟩
    have := h3 k c hc
    rw [add_plain key.1] at this
    exact this
  · obtain ⟨e, he, rfl, _⟩ := gOf_some hb; cases hf
  · obtain ⟨e, he, rfl, _⟩ := gOf_some hb; cases hf

/-- A slice that came in, in place i of the list. -/
def argV (i : Nat) (a : Option Addr) (len esz : Nat) : Value :=
  match a with
  | none => .slice none 0 0
  | some _ => if len = 0 then .slice (some ⟨0, 0, none⟩) 0 esz else .slice (some ⟨i, 0, some (len * esz)⟩) len esz

def argE (a : Option Addr) (len : Nat) (e : TypeId) (cs : List Value) : Ent :=
  match a with
  | none => none
  | some x => if len = 0 then none else some (x, e, cs)

theorem argV_VV {L : List Ent} {i len cap esz : Nat} {a : Option Addr} {e : TypeId} {cs : List Value} {s : Nat → Prop} (hL : L[i]? = some (argE a len e cs)) (hs : s i) (hcs : cs.length = len * esz) (h1 : len ≤ cap) (h2 : cap ≤ maxLen) (hn : a = none → len = 0 ∧ cap = 0) {w : World} (hE : EntIn w (argE a len e cs)) :
    VV (rOf L) (gOf L) s (argV i a len esz) (.slice a len cap) := by
  cases a with
  | none =>
    obtain ⟨rfl, rfl⟩ := hn rfl
    exact VV_slice.2 ⟨⟨rfl, rfl, rfl⟩, trivial⟩
  | some x =>
    by_cases h0 : len = 0
    · subst h0
      simp only [argV, if_true]
      exact VV_slice.2 ⟨⟨x, cap, rfl, h1, h2, fun _ => rfl, fun ver b hv => by cases hv⟩, .inl rfl⟩
    · simp only [argV, h0, if_false]
      simp only [argE, h0, if_false] at hL hE
      refine VV_slice.2 ⟨⟨x, cap, rfl, h1, h2, fun h => (by simp at h), fun ver b hv hb => ?_⟩, .inr hs⟩
      obtain ⟨e', he', rfl, hr⟩ := gOf_some hb
      rw [hL] at he'
      cases he'
      cases hv
      simp only [hcs, Nat.le_refl, true_and]
      intro _
      rw [hr]
      refine ⟨?_, by omega, fun h => by cases h⟩
      have hx : x.spot = none := by
        cases hcc : cs with
        | nil => exact absurd hcc hE.1
        | cons c cs' => exact (cell_plain (hE.2.2 0 c (by simp [hcc]))).1
      simp only [Nat.add_zero]
      rw [← hx]

theorem argV_src {L : List Ent} {i len esz : Nat} {a : Option Addr} {e : TypeId} {cs : List Value} (hL : L[i]? = some (argE a len e cs)) (hcs : cs.length = len * esz) (hn : a = none → len = 0) : Src (gOf L) (argV i a len esz) esz len cs := by
  cases a with
  | none =>
    have := hn rfl
    subst this
    exact .inl ⟨rfl, rfl, List.eq_nil_of_length_eq_zero (by simpa using hcs)⟩
  | some x =>
    by_cases h0 : len = 0
    · subst h0
      exact .inr (.inl ⟨⟨0, 0, none⟩, by simp [argV], rfl, List.eq_nil_of_length_eq_zero (by simpa using hcs)⟩)
    · simp only [argE, h0, if_false] at hL
      refine .inr (.inr ⟨⟨i, 0, some (len * esz)⟩, ⟨true, e, cs⟩, by simp [argV, h0], by omega, ?_, ?_, ?_⟩)
      · simp [rd, gOf, hL, hcs]
      · simp only [List.drop_zero]; rw [← hcs]; simp
      · simp [hcs]

/-- What a law's walk asks for. -/
theorem law_calls {P : Program} {k : FuncId} {fn : Func} {args : List Value} {args' : Array Value} {g : Heap} {ρ : Ren} {s : Nat → Prop} {r : List Nat} {w : World} (hf : P.funcs[k]? = some fn) (hname : (fn.name == "runtime.NumGoroutine") = false) (hb : fn.body.isNone = false)
    (hspec : FnSpec P k args g { v := .bool true, r := r }) (hR : HR w.heap.size w ρ g s w) (ha : All2 (VV ρ g s) args args'.toList) :
    Calls P k args' w fun e w' => e = .returned (.bool true) ∧ Below w.heap.size w w' := by
  have h := hspec g s (fun _ _ => rfl) (fun i h1 h2 => by simp at h1 h2) w.heap.size w ρ w args' ⟨some 0, .move (.const (.bool true)), 0, "", #[], none⟩ { tmps := #[undef], defers := [] }
    (fun a w' => a.tmps[0]? = some (.bool true) ∧ Below w.heap.size w w') (fun _ _ _ => False) hR ha (fun ρ' w' v' hR' _ hv => by
      have := VV_bool.1 hv
      subst this
      exact ⟨by simp [Act.put], hR'.below⟩)
  have hcall : (callFunc k args').run P w = .ok (.enter k args') w := by
    unfold callFunc
    simp only [Sem.run_bind, run_program, Result.andThen_ok, hf, hname, Bool.false_eq_true, if_false, hb, Sem.run_pure]
  rw [hcall, Oper.upon_enter] at h
  refine h.mono fun e w' he => ?_
  cases e with
  | returned v =>
    obtain ⟨h1, h2⟩ := he
    simp [Act.put] at h1
    exact ⟨by rw [h1], h2⟩
  | panicked c => exact he.elim
  | outgrown => obtain ⟨_, _, h⟩ := he; exact h.elim

/-- A row of integers that came in. -/
def Row (k : IntKind) (w : World) (a : Option Addr) (len cap : Nat) (zs : List Int) : Prop :=
  (a = none ∧ len = 0 ∧ cap = 0 ∧ zs = []) ∨
  ∃ x, a = some x ∧ len ≤ cap ∧ cap ≤ maxLen ∧ zs.length = cap ∧ (∀ i, i < zs.length → w.cell? (x.add i) = some (.int k (zs.getD i 0))) ∧ ∀ n ∈ zs, (Lit.int k n).wf = true

theorem row_in {k : IntKind} {w : World} {a : Option Addr} {len cap : Nat} {zs : List Int} (h : Row k w a len cap zs) (e : TypeId) : EntIn w (argE a len e ((zs.take len).map (Value.int k))) ∧ len ≤ cap ∧ cap ≤ maxLen ∧ (a = none → len = 0 ∧ cap = 0) ∧ ((zs.take len).map (Value.int k)).length = len := by
  rcases h with ⟨rfl, rfl, rfl, rfl⟩ | ⟨x, rfl, h1, h2, h3, h4, h5⟩
  · exact ⟨trivial, Nat.le_refl _, Nat.zero_le _, fun _ => ⟨rfl, rfl⟩, rfl⟩
  · have hl : ((zs.take len).map (Value.int k)).length = len := by simp; omega
    refine ⟨?_, h1, h2, by simp, hl⟩
    unfold argE
    by_cases h0 : len = 0
    · simp only [h0, if_true]; trivial
    · simp only [h0, if_false]
      refine ⟨fun hh => ?_, fun c hc => ?_, fun i c hc => ?_⟩
      · simp only at hh
        rw [hh] at hl; simp at hl; omega
      · obtain ⟨z, _, rfl⟩ := List.mem_map.1 hc; rfl
      · simp only [List.getElem?_map, Option.map_eq_some_iff] at hc
        obtain ⟨z, hz, rfl⟩ := hc
        rw [List.getElem?_take] at hz
        split at hz
        · obtain ⟨hi, e⟩ := List.getElem?_eq_some_iff.1 hz
          rw [h4 i hi]
          simp [List.getD, List.getElem?_eq_getElem hi, e]
        · cases hz

theorem All2_nil {α β : Type} {R : α → β → Prop} : All2 R [] [] := ⟨rfl, by simp⟩
theorem All2_cons {α β : Type} {R : α → β → Prop} {a : α} {b : β} {l : List α} {l' : List β} (h : R a b) (hl : All2 R l l') : All2 R (a :: l) (b :: l') := by
  refine ⟨by simp [hl.1], fun i x hx => ?_⟩
  cases i with
  | zero => simp at hx; subst hx; exact ⟨b, rfl, h⟩
  | succ i => simpa using hl.2 i x (by simpa using hx)

end Go.Proofs.Ytokmmcfnpobldaa.Abs
