import Derived.Test.YtahinegnblankaaP37
namespace Go.Proofs.Ytahinegnblankaa
open Go Abs
set_option linter.unusedSimpArgs false
set_option linter.unusedVariables false

theorem binf91 : binf Try.prog 91 = some (#[(0, 1), (1, 1), (2, 1), (3, 1)].toList, [.slice none 0 0, .int .i64 0, .int .u64 0, .int .u64 0]) := by kernel_rfl
theorem binf70 : binf Try.prog 70 = some (#[(0, 1), (1, 1), (2, 1), (3, 1)].toList, [.slice none 0 0, .int .i64 0, .int .u64 0, .int .u64 0]) := by kernel_rfl
theorem mk91 (a : Addr) (m e : Nat) (x : Int) : stepBuild Try.prog 91 [(0, .slice (some a) m e), (3, .int .u64 x)] = some { v := .agg #[.slice (some a) m e, .int .i64 0, .int .u64 0, .int .u64 x] } := by
  simp [stepBuild, binf91, fillL, Value.cells, isTup, putAll]
theorem mk70 (v : Value) (hc : v.cells = #[v]) (ht : isTup v = false) (x y z : Int) : stepBuild Try.prog 70 [(0, v), (1, .int .i64 x), (2, .int .u64 y), (3, .int .u64 z)] = some { v := .agg #[v, .int .i64 x, .int .u64 y, .int .u64 z] } := by
  have h1 : ∀ k n, (Value.int k n).cells = #[Value.int k n] := fun _ _ => rfl
  have h2 : ∀ k n, isTup (Value.int k n) = false := fun _ _ => rfl
  simp [stepBuild, binf70, fillL, hc, ht, h1, h2, putAll]

theorem or_add (v x k : Nat) (hx : x < 2 ^ k) (h : v * 2 ^ k + x < 2 ^ 64) : bits .or .u64 ((v * 2 ^ k : Nat) : Int) (x : Int) = ((v * 2 ^ k + x : Nat) : Int) := by
  rw [u64_or_nat (v * 2 ^ k) x (by omega) (by omega)]
  have h2 := Nat.two_pow_add_eq_or_of_lt (i := k) (b := x) hx v
  rw [Nat.mul_comm v (2 ^ k), h2]

/-- A block that holds places of old blocks is made. -/
theorem fin_oneOld {s2 : Nat → Prop} {g2 g' : Heap} {n : Nat} {v' v : Value} {e : TypeId} {cs : List Value} {j k : Nat} {r : List Nat} (hv : v' = renT (fun i => if i = j then k else i) v) (hsv : SVT (fun i => s2 i ∨ i = j) v) (hk : n ≤ k) (hg : g' k = some ⟨false, e, cs⟩) (hp : ∀ c ∈ cs, SV1 s2 c) (hj : ¬ s2 j)
    (hold : ∀ i b, g2 i = some b → g' i = some b) : Abs.Fin { v := v, r := r, j := j, a := [⟨false, e, cs⟩] } [k] s2 g2 n g' v' := by
  have hsig : (sig ({ v := v, r := r, j := j, a := [⟨false, e, cs⟩] } : Eff) [k]) = fun i => if i = j then k else i := by
    funext i
    unfold sig
    by_cases h : i = j
    · subst h; simp
    · rw [if_neg h]
      show (if j ≤ i then _ else i) = i
      split
      · rw [List.getElem?_eq_none (by simp; omega)]; rfl
      · rfl
  have hup : ∀ i, (s2 i ∨ i = j) → (({ v := v, r := r, j := j, a := [⟨false, e, cs⟩] } : Eff).sn s2) i := fun i hi => by
    rcases hi with hi | rfl
    · exact .inl hi
    · exact .inr ⟨Nat.le_refl _, by simp⟩
  refine ⟨rfl, by simpa using hk, by simp, by rw [hsig]; exact hv, fun i b hi => ?_, by simp, by simp, fun i b _ h => hold i b h, SVT.imp hup hsv, fun b hb c hc => ?_, by simp⟩
  · rw [hsig]
    cases i with
    | zero =>
      simp at hi; subst hi
      exact ⟨k, rfl, by rw [hg, renB_old (s := s2) (fun i hi => if_neg (fun (e : i = j) => hj (by rw [← e]; exact hi))) hp]⟩
    | succ i => simp at hi
  · simp at hb
    subst hb
    exact SV1.imp (fun _ => .inl) (hp c hc)
end Go.Proofs.Ytahinegnblankaa
