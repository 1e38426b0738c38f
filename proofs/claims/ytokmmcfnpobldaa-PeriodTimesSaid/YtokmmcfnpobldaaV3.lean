import Derived.Test.YtokmmcfnpobldaaV2
namespace Go.Proofs.Ytokmmcfnpobldaa
open Go Abs
set_option linter.unusedSimpArgs false
set_option linter.unusedVariables false

def vval : List Nat → Nat
  | [] => 0
  | c :: l => c % 128 + 128 * vval l

theorem vval_snoc (p : List Nat) (c : Nat) : vval (p ++ [c]) = vval p + c % 128 * 128 ^ p.length := by
  induction p with
  | nil => simp [vval]
  | cons d p ih =>
    simp only [List.cons_append, vval, ih, List.length_cons, Nat.pow_succ, Nat.mul_add]
    rw [Nat.mul_comm (128 ^ p.length) 128, ← Nat.mul_assoc 128, ← Nat.mul_assoc, Nat.mul_comm (c % 128) 128]
    omega

theorem vval_lt (p : List Nat) : vval p < 128 ^ p.length := by
  induction p with
  | nil => simp [vval]
  | cons d p ih =>
    simp only [vval, List.length_cons, Nat.pow_succ]
    have := Nat.mod_lt d (show 128 > 0 by omega)
    omega

theorem vval_take (l : List Nat) (k : Nat) (hk : k < l.length) : vval (l.take (k + 1)) = vval (l.take k) + l[k]?.getD 0 % 128 * 128 ^ k := by
  rw [List.take_succ_eq_append_getElem hk, vval_snoc, List.length_take, Nat.min_eq_left (by omega), List.getElem?_eq_getElem hk]
  rfl

theorem vval_take_le (l : List Nat) (k m : Nat) (hkm : k ≤ m) : vval (l.take k) ≤ vval (l.take m) := by
  induction m with
  | zero => have : k = 0 := by omega
            subst this; exact Nat.le_refl _
  | succ m ih =>
    by_cases h : k = m + 1
    · subst h; exact Nat.le_refl _
    · have h1 := ih (by omega)
      by_cases h2 : m < l.length
      · have := vval_take l m h2; omega
      · rw [List.take_of_length_le (show l.length ≤ m + 1 by omega)]
        rw [List.take_of_length_le (show l.length ≤ m by omega)] at h1
        exact h1

theorem len8_pow : ∀ c : Nat, c < 256 → c + 1 ≤ 2 ^ len8 c := by decide +kernel

theorem vval_full (l : List Nat) (e : Nat) (he : e < l.length) (hc : l[e]?.getD 0 < 256) (h : 7 * e + len8 (l[e]?.getD 0) ≤ 64) : vval (l.take (e + 1)) < 2 ^ 64 := by
  rw [vval_take l e he]
  have h1 : vval (l.take e) < 128 ^ e := by
    have := vval_lt (l.take e)
    rwa [List.length_take, Nat.min_eq_left (by omega)] at this
  have h2 := len8_pow _ hc
  have h3 : l[e]?.getD 0 % 128 ≤ l[e]?.getD 0 := Nat.mod_le _ _
  have h4 : (l[e]?.getD 0 % 128 + 1) * 128 ^ e ≤ 2 ^ len8 (l[e]?.getD 0) * 128 ^ e := Nat.mul_le_mul_right _ (by omega)
  have h5 : 2 ^ len8 (l[e]?.getD 0) * 128 ^ e ≤ 2 ^ 64 := by
    rw [show (128 : Nat) = 2 ^ 7 from rfl, ← Nat.pow_mul, ← Nat.pow_add]
    exact Nat.pow_le_pow_right (by omega) (by omega)
  rw [Nat.add_mul, Nat.one_mul] at h4
  omega

/-- One byte more. -/
theorem vval_step (l : List Nat) (k : Nat) (hk : k < l.length) (hc : l[k]?.getD 0 < 256) (hk9 : k ≤ 9) (h : vval (l.take (k + 1)) < 2 ^ 64) :
    bits .or .u64 (vval (l.take k) : Int) (IntKind.u64.wrap (IntKind.u64.wrap (bits .andNot .u8 ((l[k]?.getD 0 : Nat) : Int) 128) * 2 ^ (min ((7 * k : Nat) : Int).toNat IntKind.u64.bits))) = (vval (l.take (k + 1)) : Int) := by
  have h1 := vval_take l k hk
  have h2 : vval (l.take k) < 128 ^ k := by
    have := vval_lt (l.take k)
    rwa [List.length_take, Nat.min_eq_left (by omega)] at this
  have h3 : bits .andNot .u8 ((l[k]?.getD 0 : Nat) : Int) 128 = ((l[k]?.getD 0 % 128 : Nat) : Int) := by
    have := u8_andNot_nat (l[k]?.getD 0) 128 hc (by omega)
    rw [show (255 - 128 : Nat) = 127 from rfl, nat_mask7] at this
    exact this
  have h4 : ((l[k]?.getD 0 % 128 : Nat) : Int) * 2 ^ (min ((7 * k : Nat) : Int).toNat IntKind.u64.bits) = ((l[k]?.getD 0 % 128 * 128 ^ k : Nat) : Int) := by
    have : min ((7 * k : Nat) : Int).toNat IntKind.u64.bits = 7 * k := by rw [Int.toNat_natCast]; exact Nat.min_eq_left (by show 7 * k ≤ 64; omega)
    rw [this, show (128 : Nat) = 2 ^ 7 from rfl, ← Nat.pow_mul]
    simp
  rw [h3, wrapU64_of (x := ((l[k]?.getD 0 % 128 : Nat) : Int)) (by omega) (by have := Nat.mod_lt (l[k]?.getD 0) (show 128 > 0 by omega); omega), h4, wrapU64_of (by omega) (by omega), u64_or_nat _ _ (by omega) (by omega), h1, Nat.or_comm, nat_join (7 * k)]
  · rw [Nat.add_comm]
  · rw [Nat.pow_mul]; exact Nat.mul_mod_left _ _
  · rw [Nat.pow_mul]; exact h2

/-- The number that bytes begin with, and how many they are. -/
def vget (l : List Nat) : Option (Nat × Nat) :=
  if 0 ≤ findLow l 0 ∧ findLow l 0 ≤ 9 ∧ ((findLow l 0).toNat = 0 ∨ l[(findLow l 0).toNat]?.getD 0 ≠ 0) ∧ 7 * (findLow l 0).toNat + len8 (l[(findLow l 0).toNat]?.getD 0) ≤ 64
  then some (vval (l.take ((findLow l 0).toNat + 1)), (findLow l 0).toNat + 1) else none

def gres : Option (Nat × Nat) → Value
  | some (v, n) => .tuple #[.int .u64 v, .int .i64 n, .bool true]
  | none => .tuple #[.int .u64 0, .int .i64 0, .bool false]

theorem findLow_lt (l : List Nat) (k : Nat) : findLow l k = -1 ∨ ∃ e : Nat, e < l.length ∧ findLow l k = ((k + e : Nat) : Int) ∧ l[e]?.getD 0 < 128 ∧ ∀ i, i < e → ¬ l[i]?.getD 0 < 128 := by
  induction l generalizing k with
  | nil => exact .inl rfl
  | cons c l ih =>
    by_cases h : c < 128
    · exact .inr ⟨0, by simp, by simp [findLow, h], by simpa using h, by omega⟩
    · rcases ih (k + 1) with h1 | ⟨e, h1, h2, h3, h4⟩
      · exact .inl (by simp [findLow, h, h1])
      · refine .inr ⟨e + 1, by simpa using h1, by simp [findLow, h, h2]; omega, by simpa using h3, fun i hi => ?_⟩
        cases i with
        | zero => simpa using h
        | succ i => simpa using h4 i (by omega)
end Go.Proofs.Ytokmmcfnpobldaa
