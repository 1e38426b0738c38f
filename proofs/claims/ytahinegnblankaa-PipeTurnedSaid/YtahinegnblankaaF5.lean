import Derived.Test.YtahinegnblankaaP4
namespace Go.Proofs.Ytahinegnblankaa
open Go Abs
set_option linter.unusedSimpArgs false
set_option linter.unusedVariables false
theorem told_log (n : Nat) : 2 ^ (told n).length ≤ n + 1 ∧ n + 1 < 2 ^ ((told n).length + 1) := by
  induction n using Nat.strongRecOn with
  | _ n ih =>
    by_cases h : n = 0
    · subst h; simp [told_zero]
    · have := ih ((n - 1) / 2) (by omega)
      rw [told_pos h, List.length_cons, Nat.pow_succ 2 ((told ((n - 1) / 2)).length + 1), Nat.pow_succ] at *
      omega

theorem told_log_eq {n k : Nat} (h1 : 2 ^ k ≤ n + 1) (h2 : n + 1 < 2 ^ (k + 1)) : (told n).length = k := by
  obtain ⟨h3, h4⟩ := told_log n
  have key : ∀ a b : Nat, 2 ^ a ≤ n + 1 → n + 1 < 2 ^ (b + 1) → a ≤ b := fun a b ha hb => by
    rcases Nat.lt_or_ge b a with h | h
    · have := Nat.pow_le_pow_right (n := 2) (by omega) h
      simp only [Nat.succ_eq_add_one] at this
      omega
    · exact h
  exact Nat.le_antisymm (key _ _ h3 h2) (key _ _ h1 h4)

theorem tell_zeros (b : List Nat) (m : Nat) : ∀ z, tell (List.replicate m 0 ++ b) z = tell b (z + m) := by
  induction m with
  | zero => intro z; rfl
  | succ m ih => intro z; rw [List.replicate_succ, List.cons_append, tell, if_pos rfl, ih (z + 1)]; congr 1; omega

end Go.Proofs.Ytahinegnblankaa
