import Derived.Test.YtokmmcfnpobldaaV17
namespace Go.Proofs.Ytokmmcfnpobldaa
open Go Abs
set_option linter.unusedSimpArgs false
set_option linter.unusedVariables false

/-- Byte i. -/
def byt (s : List Nat) (i : Nat) : Nat := s[i]?.getD 0

/-- k is a border of the first n bytes. -/
def brd (s : List Nat) (n k : Nat) : Prop := k < n ∧ ∀ i, i < k → byt s i = byt s (n - k + i)

instance (s : List Nat) (n k : Nat) : Decidable (brd s n k) := by unfold brd; infer_instance

theorem brd_zero {s : List Nat} {n : Nat} (h : 0 < n) : brd s n 0 := ⟨h, fun i hi => by omega⟩

/-- The greatest border that is at most k. -/
def down (s : List Nat) (n : Nat) : Nat → Nat
  | 0 => 0
  | k + 1 => if brd s n (k + 1) then k + 1 else down s n k

theorem down_brd {s : List Nat} {n : Nat} (h : 0 < n) (k : Nat) : brd s n (down s n k) := by
  induction k with
  | zero => exact brd_zero h
  | succ k ih =>
    rw [down]
    split
    · assumption
    · exact ih

theorem down_max {s : List Nat} {n : Nat} (k : Nat) : ∀ j, j ≤ k → brd s n j → j ≤ down s n k := by
  induction k with
  | zero => intro j hj _; omega
  | succ k ih =>
    intro j hj hb
    rw [down]
    split
    · exact hj
    · rename_i hn
      by_cases e : j = k + 1
      · subst e; exact absurd hb hn
      · exact ih j (by omega) hb

/-- The last border of the first n bytes. -/
def mx (s : List Nat) (n : Nat) : Nat := down s n (n - 1)

theorem mx_brd {s : List Nat} {n : Nat} (h : 0 < n) : brd s n (mx s n) := down_brd h _
theorem mx_lt {s : List Nat} {n : Nat} (h : 0 < n) : mx s n < n := (mx_brd h).1
theorem mx_max {s : List Nat} {n k : Nat} (h : brd s n k) : k ≤ mx s n := down_max _ _ (by have := h.1; omega) h
theorem mx_eq {s : List Nat} {n k : Nat} (h : brd s n k) (hm : ∀ j, brd s n j → j ≤ k) : mx s n = k := Nat.le_antisymm (hm _ (mx_brd (by have := h.1; omega))) (mx_max h)

theorem brd_succ {s : List Nat} {i k : Nat} : brd s (i + 1) (k + 1) ↔ brd s i k ∧ byt s k = byt s i := by
  constructor
  · rintro ⟨h1, h2⟩
    refine ⟨⟨by omega, fun j hj => ?_⟩, ?_⟩
    · have := h2 j (by omega)
      rwa [show i + 1 - (k + 1) + j = i - k + j by omega] at this
    · have := h2 k (by omega)
      rwa [show i + 1 - (k + 1) + k = i by omega] at this
  · rintro ⟨⟨h1, h2⟩, h3⟩
    refine ⟨by omega, fun j hj => ?_⟩
    rw [show i + 1 - (k + 1) + j = i - k + j by omega]
    by_cases e : j = k
    · subst e; rw [show i - j + j = i by omega]; exact h3
    · exact h2 j (by omega)

theorem brd_down {s : List Nat} {i n k : Nat} (h1 : brd s i n) (h2 : brd s i k) (h : k < n) : brd s n k := by
  refine ⟨h, fun j hj => ?_⟩
  rw [h2.2 j hj, h1.2 (n - k + j) (by omega)]
  have := h1.1
  congr 1; omega

theorem brd_trans {s : List Nat} {i n k : Nat} (h1 : brd s i n) (h2 : brd s n k) : brd s i k := by
  have a := h1.1
  have b := h2.1
  refine ⟨by omega, fun j hj => ?_⟩
  rw [h2.2 j hj, h1.2 (n - k + j) (by omega)]
  congr 1; omega

/-- What the search for the next border keeps: n is a border of the first i bytes, and no greater one goes on. -/
def seek (s : List Nat) (i n : Nat) : Prop := brd s i n ∧ ∀ k, brd s (i + 1) (k + 1) → k ≤ n

theorem seek_start {s : List Nat} {i : Nat} (h : 0 < i) : seek s i (mx s i) := ⟨mx_brd h, fun k hk => mx_max (brd_succ.1 hk).1⟩

theorem seek_step {s : List Nat} {i n : Nat} (h : seek s i n) (hn : 0 < n) (hne : byt s i ≠ byt s n) : seek s i (mx s n) := by
  refine ⟨brd_trans h.1 (mx_brd hn), fun k hk => ?_⟩
  have h1 := h.2 k hk
  obtain ⟨h2, h3⟩ := brd_succ.1 hk
  have h4 : k ≠ n := fun e => hne (by rw [← e, h3])
  exact mx_max (brd_down h.1 h2 (by omega))

theorem seek_end {s : List Nat} {i n : Nat} (h : seek s i n) (he : n = 0 ∨ byt s i = byt s n) : mx s (i + 1) = if byt s i = byt s n then n + 1 else 0 := by
  split
  · rename_i e
    refine mx_eq (brd_succ.2 ⟨h.1, e.symm⟩) fun j hj => ?_
    cases j with
    | zero => omega
    | succ j => have := h.2 j hj; omega
  · rename_i e
    have hn : n = 0 := by rcases he with h | h; exact h; exact absurd h e
    subst hn
    refine mx_eq (brd_zero (by omega)) fun j hj => ?_
    cases j with
    | zero => omega
    | succ j =>
      have := h.2 j hj
      have : j = 0 := by omega
      subst this
      exact absurd (brd_succ.1 hj).2.symm e

/-- A border as an equality of bytes. -/
theorem brd_iff {s : List Nat} {n k : Nat} (hn : n ≤ s.length) (hk : k < n) : brd s n k ↔ s.take k = (s.drop (n - k)).take k := by
  constructor
  · intro h
    apply List.ext_getElem?
    intro i
    by_cases hi : i < k
    · have := h.2 i hi
      rw [List.getElem?_take, if_pos hi, List.getElem?_take, if_pos hi, List.getElem?_drop, List.getElem?_eq_getElem (by omega), List.getElem?_eq_getElem (by omega)]
      unfold byt at this
      rw [List.getElem?_eq_getElem (by omega), List.getElem?_eq_getElem (by omega)] at this
      simpa using this
    · rw [List.getElem?_eq_none (by simp; omega), List.getElem?_eq_none (by simp; omega)]
  · intro h
    refine ⟨hk, fun i hi => ?_⟩
    have := congrArg (fun l => l[i]?.getD 0) h
    simp only [List.getElem?_take, if_pos hi, List.getElem?_drop] at this
    exact this

/-- The last borders of all beginnings. -/
def borders (s : List Nat) : List Nat := (List.range s.length).map fun i => mx s (i + 1)

def least (s : List Nat) : Nat := if s.length = 0 then 0 else s.length - mx s s.length

def rootLen (s : List Nat) : Nat := if s.length % least s = 0 then least s else s.length
end Go.Proofs.Ytokmmcfnpobldaa
