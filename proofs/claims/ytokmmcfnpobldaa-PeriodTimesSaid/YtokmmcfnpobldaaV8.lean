import Derived.Test.YtokmmcfnpobldaaV7
namespace Go.Proofs.Ytokmmcfnpobldaa
open Go Abs
set_option linter.unusedSimpArgs false
set_option linter.unusedVariables false

theorem vval_vput (v : Nat) : vval (vput v) = v := by
  induction v using Nat.strongRecOn with
  | _ v ih =>
    rw [vput]
    split
    · simp [vval]; omega
    · simp only [vval]
      rw [ih _ (by omega)]
      omega

/-- Bytes of 128 and more, and one below. -/
def isGrp : List Nat → Prop
  | [] => False
  | c :: p => (c < 128 ∧ p = []) ∨ (128 ≤ c ∧ c < 256 ∧ isGrp p)

theorem vput_grp (v : Nat) : isGrp (vput v) := by
  induction v using Nat.strongRecOn with
  | _ v ih =>
    rw [vput]
    split
    · exact .inl ⟨by omega, rfl⟩
    · exact .inr ⟨by omega, by omega, ih _ (by omega)⟩

/-- The last byte is no idle nought. -/
def tight : List Nat → Prop
  | [] => False
  | c :: p => p = [] ∨ (p ≠ [0] ∧ tight p)

theorem vput_ne_nil (v : Nat) : vput v ≠ [] := by rw [vput]; split <;> simp

theorem vval_pos {p : List Nat} (h : isGrp p) (ht : p ≠ [0]) (hp : tight p) : 0 < vval p := by
  induction p with
  | nil => exact h.elim
  | cons c p ih =>
    rcases h with ⟨h1, rfl⟩ | ⟨h1, h2, h3⟩
    · have : c ≠ 0 := fun e => ht (by rw [e])
      simp [vval]; omega
    · rcases hp with rfl | ⟨hp1, hp2⟩
      · exact h3.elim
      · have := ih h3 hp1 hp2
        simp only [vval]; omega

theorem vput_vval {p : List Nat} (h : isGrp p) (ht : tight p) : vput (vval p) = p := by
  induction p with
  | nil => exact h.elim
  | cons c p ih =>
    rcases h with ⟨h1, rfl⟩ | ⟨h1, h2, h3⟩
    · have : vval [c] = c := by simp [vval]; omega
      rw [this, vput_low h1]
    · rcases ht with rfl | ⟨ht1, ht2⟩
      · exact h3.elim
      · have h4 := vval_pos h3 ht1 ht2
        have h5 : vval (c :: p) = c % 128 + 128 * vval p := rfl
        rw [vput_high (by omega), show vval (c :: p) / 128 = vval p by omega, show vval (c :: p) % 128 + 128 = c by omega, ih h3 ht2]

theorem vput_tight (v : Nat) : tight (vput v) := by
  induction v using Nat.strongRecOn with
  | _ v ih =>
    rw [vput]
    split
    · exact .inl rfl
    · refine .inr ⟨fun e => ?_, ih _ (by omega)⟩
      have := congrArg vval e
      rw [vval_vput] at this
      simp [vval] at this
      omega

/-- Up to the first byte below 128. -/
theorem take_grp (l : List Nat) (e : Nat) (he : e < l.length) (hlow : l[e]?.getD 0 < 128) (hhigh : ∀ i, i < e → ¬ l[i]?.getD 0 < 128) (hb : ∀ i : Nat, l[i]?.getD 0 < 256) : isGrp (l.take (e + 1)) := by
  induction e generalizing l with
  | zero =>
    cases l with
    | nil => simp at he
    | cons c l => exact .inl ⟨by simpa using hlow, rfl⟩
  | succ e ih =>
    cases l with
    | nil => simp at he
    | cons c l =>
      refine .inr ⟨by have := hhigh 0 (by omega); simp at this; omega, by simpa using hb 0, ?_⟩
      exact ih l (by simpa using he) (by simpa using hlow) (fun i hi => by simpa using hhigh (i + 1) (by omega)) (fun i => by simpa using hb (i + 1))

theorem take_tight (l : List Nat) (e : Nat) (he : e < l.length) : tight (l.take (e + 1)) ↔ e = 0 ∨ l[e]?.getD 0 ≠ 0 := by
  induction e generalizing l with
  | zero =>
    cases l with
    | nil => simp at he
    | cons c l => simp [tight]
  | succ e ih =>
    cases l with
    | nil => simp at he
    | cons c l =>
      have hl : e < l.length := by simpa using he
      have h1 := ih l hl
      have hne : l.take (e + 1) ≠ [] := by simp; intro h; subst h; simp at hl
      simp only [List.take_succ_cons, tight, hne, false_or, h1, List.getElem?_cons_succ, Nat.add_eq_zero_iff, Nat.one_ne_zero, and_false]
      cases l with
      | nil => simp at hl
      | cons d l =>
        cases e with
        | zero => simp
        | succ e =>
          simp only [List.take_succ_cons, Nat.add_eq_zero_iff, Nat.one_ne_zero, and_false, false_or]
          refine and_iff_right ?_
          intro h
          have := congrArg List.length h
          simp only [List.length_cons, List.length_take, List.length_nil] at this
          simp only [List.length_cons] at hl
          omega

theorem len8_one : ∀ c : Nat, c < 2 → len8 c ≤ 1 := by decide
theorem len8_seven : ∀ c : Nat, c < 128 → len8 c ≤ 7 := by decide +kernel

/-- The number that bytes begin with, as the document says it. -/
theorem vget_eq (l : List Nat) (e : Nat) (he : e < l.length) (hf : findLow l 0 = (e : Int)) (h9 : e ≤ 9) (hlow : l[e]?.getD 0 < 128) (hhigh : ∀ i, i < e → ¬ l[i]?.getD 0 < 128) (hb : ∀ i : Nat, l[i]?.getD 0 < 256) :
    vget l = if vput (vval (l.take (e + 1)) % 2 ^ 64) = l.take (e + 1) then some (vval (l.take (e + 1)) % 2 ^ 64, e + 1) else none := by
  have hg := take_grp l e he hlow hhigh hb
  have ht := take_tight l e he
  unfold vget
  rw [hf, Int.toNat_natCast]
  by_cases h1 : (e = 0 ∨ l[e]?.getD 0 ≠ 0) ∧ 7 * e + len8 (l[e]?.getD 0) ≤ 64
  · have h2 := vval_full l e he (by omega) h1.2
    rw [if_pos ⟨by omega, by omega, h1.1, h1.2⟩, Nat.mod_eq_of_lt h2, if_pos (vput_vval hg (ht.2 h1.1))]
  · rw [if_neg (by omega), if_neg]
    intro h3
    apply h1
    have h4 := congrArg vval h3
    rw [vval_vput] at h4
    have h5 : vval (l.take (e + 1)) < 2 ^ 64 := by rw [← h4]; exact Nat.mod_lt _ (by omega)
    have h6 : tight (l.take (e + 1)) := by rw [← h3]; exact vput_tight _
    refine ⟨ht.1 h6, ?_⟩
    by_cases h7 : e ≤ 8
    · have := len8_seven _ hlow; omega
    · have h8 : e = 9 := by omega
      subst h8
      rw [vval_take l 9 he, Nat.mod_eq_of_lt hlow] at h5
      have : l[9]?.getD 0 < 2 := by omega
      have := len8_one _ this
      omega

theorem vget_none (l : List Nat) (h : findLow l 0 = -1 ∨ findLow l 0 > 9) : vget l = none := by
  rw [vget, if_neg]; omega
end Go.Proofs.Ytokmmcfnpobldaa
