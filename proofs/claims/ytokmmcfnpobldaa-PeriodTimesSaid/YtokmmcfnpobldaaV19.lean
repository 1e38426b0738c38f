import Derived.Test.YtokmmcfnpobldaaV18
namespace Go.Proofs.Ytokmmcfnpobldaa
open Go Abs
set_option linter.unusedSimpArgs false
set_option linter.unusedVariables false

theorem tinf3 : tinf Try.prog 3 = some ([.int .i64 0], 1, 8) := by kernel_rfl
theorem tsize3 : tsize Try.prog 3 = some 1 := by kernel_rfl
theorem aggT3 : aggT Try.prog 3 = some false := by kernel_rfl

abbrev ints (l : List Nat) : List Value := l.map fun (b : Nat) => Value.int .i64 (b : Int)

theorem mkInts (n j : Nat) (h : n ≤ 2 ^ 40) : stepMake Try.prog 36 (.int .i64 n) (.int .i64 n) j = some { v := .slice (some ⟨j, 0, some n⟩) n 1, j := j, a := [⟨false, 3, ints (List.replicate n 0)⟩] } := by
  have hz : zcells [Value.int .i64 0] n = ints (List.replicate n 0) := by
    apply List.ext_getElem?
    intro i
    by_cases hi : i < n
    · simp [zcells, hi, List.getElem?_replicate, Nat.mod_one]
    · rw [List.getElem?_eq_none (by simp [zcells]; omega), List.getElem?_eq_none (by simp; omega)]
  simp only [stepMake, Try.underlying36, tinf3, Nat.mul_one, Int.toNat_natCast, hz]
  rw [if_pos ⟨by omega, trivial, by omega, by omega, by omega⟩]

/-- The row of borders after i rounds. -/
def rowAt (s : List Nat) (i : Nat) : List Nat := (List.range s.length).map fun q => if q < i then mx s (q + 1) else 0

theorem rowAt_one (s : List Nat) : rowAt s 1 = List.replicate s.length 0 := by
  apply List.ext_getElem?
  intro i
  by_cases hi : i < s.length
  · simp only [rowAt, List.getElem?_map, List.getElem?_range hi, Option.map_some, List.getElem?_replicate, hi, if_true, Option.some.injEq]
    split
    · have : i = 0 := by omega
      subst this
      have := mx_lt (s := s) (n := 1) (by omega)
      simp; omega
    · rfl
  · rw [List.getElem?_eq_none (by simp [rowAt]; omega), List.getElem?_eq_none (by simp; omega)]

theorem rowAt_len (s : List Nat) (i : Nat) : (rowAt s i).length = s.length := by simp [rowAt]
theorem rowAt_full (s : List Nat) (i : Nat) (h : s.length ≤ i) : rowAt s i = borders s := by
  refine List.map_congr_left fun q hq => ?_
  have := List.mem_range.1 hq
  rw [if_pos (by omega)]

theorem rowAt_get (s : List Nat) {i q : Nat} (hq : q < s.length) (h : q < i) : (rowAt s i)[q]? = some (mx s (q + 1)) := by
  simp [rowAt, hq, h]

theorem rowAt_set (s : List Nat) {i : Nat} (h : i < s.length) : (ints (rowAt s i)).set i (.int .i64 (mx s (i + 1) : Nat)) = ints (rowAt s (i + 1)) := by
  apply List.ext_getElem?
  intro q
  rw [List.getElem?_set]
  by_cases hq : q < s.length
  · by_cases e : i = q
    · subst e
      simp [rowAt, h]
    · simp only [e, if_false, List.getElem?_map, rowAt, List.getElem?_range hq, Option.map_some]
      by_cases h1 : q < i
      · rw [if_pos h1, if_pos (by omega)]
      · rw [if_neg h1, if_neg (by omega)]
  · rw [if_neg (by omega), List.getElem?_eq_none (by simp [rowAt]; omega), List.getElem?_eq_none (by simp [rowAt]; omega)]

theorem ints_at {l : List Nat} {i x : Nat} (h : l[i]? = some x) : (ints l)[i]? = some (.int .i64 x) := by simp [h]
end Go.Proofs.Ytokmmcfnpobldaa
