import Derived.Test.YtokmmcfnpobldaaV13
import Derived.Test.YtokmmcfnpobldaaAbs15
namespace Go.Proofs.Ytokmmcfnpobldaa
open Go Abs
set_option linter.unusedSimpArgs false
set_option linter.unusedVariables false

theorem findLow_high (l : List Nat) (k : Nat) (h : ∀ x ∈ l, ¬ x < 128) : findLow l k = -1 := by
  induction l generalizing k with
  | nil => rfl
  | cons c l ih => rw [findLow, if_neg (h c (by simp)), ih _ (fun x hx => h x (by simp [hx]))]

theorem findLow_end (l : List Nat) (k c : Nat) (h : ∀ x ∈ l, ¬ x < 128) (hc : c < 128) : findLow (l ++ [c]) k = ((k + l.length : Nat) : Int) := by
  induction l generalizing k with
  | nil => simp [findLow, hc]
  | cons d l ih =>
    rw [List.cons_append, findLow, if_neg (h d (by simp)), ih _ (fun x hx => h x (by simp [hx]))]
    simp; omega

/-- A number's bytes: of 128 and more, and one below. -/
theorem grp_split {p : List Nat} (h : isGrp p) : ∃ q c, p = q ++ [c] ∧ c < 128 ∧ ∀ x ∈ q, 128 ≤ x ∧ x < 256 := by
  induction p with
  | nil => exact h.elim
  | cons d p ih =>
    rcases h with ⟨h1, rfl⟩ | ⟨h1, h2, h3⟩
    · exact ⟨[], d, rfl, h1, by simp⟩
    · obtain ⟨q, c, rfl, hc, hq⟩ := ih h3
      refine ⟨d :: q, c, rfl, hc, fun x hx => ?_⟩
      rcases List.mem_cons.1 hx with rfl | hx
      · exact ⟨h1, h2⟩
      · exact hq x hx

theorem vget_short (q : List Nat) (h : ∀ x ∈ q, 128 ≤ x) : vget q = none :=
  vget_none q (.inl (findLow_high q 0 fun x hx => by have := h x hx; omega))

theorem vget_idle (q : List Nat) (h : ∀ x ∈ q, 128 ≤ x) (hq : q ≠ []) : vget (q ++ [0]) = none := by
  have hl : 0 < q.length := List.length_pos_iff.2 hq
  rw [vget, if_neg]
  rw [findLow_end q 0 0 (fun x hx => by have := h x hx; omega) (by omega)]
  simp only [Nat.zero_add, Int.toNat_natCast, List.getElem?_append_right (Nat.le_refl _), Nat.sub_self, List.getElem?_cons_zero, Option.getD_some]
  omega

theorem or128_u8 (c : Nat) (hc : c < 128) : bits .or .u8 (c : Int) 128 = ((c + 128 : Nat) : Int) := by
  have := u8_or_nat c 128 (by omega) (by omega)
  rw [Nat.or_comm, nat_join 7 _ _ (by decide) (by omega), Nat.add_comm] at this
  exact this
end Go.Proofs.Ytokmmcfnpobldaa
