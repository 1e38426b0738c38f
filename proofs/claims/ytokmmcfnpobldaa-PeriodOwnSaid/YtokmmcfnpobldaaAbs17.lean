/-
  The abstract machine, part 17: a body's end with one new block, whatever the value.
-/
import Derived.Test.YtokmmcfnpobldaaAbs16
namespace Go.Proofs.Ytokmmcfnpobldaa.Abs
open Go Go.RowKit

section
variable {s2 : Nat → Prop} {g2 g' : Heap} {n : Nat} {v' : Value}

theorem fin_one {v : Value} {e : TypeId} {cs : List Value} {j k : Nat} {r : List Nat} (hv : v' = renT (fun i => if i = j then k else i) v) (hsv : SVT (fun i => s2 i ∨ i = j) v) (hk : n ≤ k) (hg : g' k = some ⟨false, e, cs⟩) (hp : ∀ c ∈ cs, plain c = true)
    (hold : ∀ i b, g2 i = some b → g' i = some b) : Abs.Fin { v := v, r := r, j := j, a := [⟨false, e, cs⟩] } [k] s2 g2 n g' v' := by
  have hsig : (sig ({ v := v, r := r, j := j, a := [⟨false, e, cs⟩] } : Eff) [k]) = fun i => if i = j then k else i := by
    funext i
    unfold sig
    by_cases h : i = j
    · subst h; simp
    · rw [if_neg h]
      show (if j ≤ i then _ else i) = i
      split
      · have : i - j ≠ 0 := by omega
        simp [this]
      · rfl
  refine ⟨rfl, by simpa using hk, by simp, by rw [hsig]; exact hv, fun i b hi => ?_, by simp, by simp, fun i b _ h => hold i b h, ?_, ?_, by simp⟩
  · cases i with
    | zero => simp at hi; subst hi; exact ⟨k, rfl, by rw [hg, renB_plain hp]⟩
    | succ i => simp at hi
  · refine SVT.imp (fun i hi => ?_) hsv
    rcases hi with hi | rfl
    · exact .inl hi
    · exact .inr ⟨Nat.le_refl _, by simp⟩
  · intro b hb c hc
    simp at hb
    subst hb
    exact SV1_plain (hp c hc)
end
end Go.Proofs.Ytokmmcfnpobldaa.Abs
