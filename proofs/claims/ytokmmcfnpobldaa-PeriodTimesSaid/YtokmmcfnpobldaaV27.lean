import Derived.Test.YtokmmcfnpobldaaV26
namespace Go.Proofs.Ytokmmcfnpobldaa
open Go Abs
set_option linter.unusedSimpArgs false
set_option linter.unusedVariables false

theorem src_blk {g : Heap} {k e : Nat} {ro : Bool} {l : List Nat} (h : g k = some ⟨ro, e, bs l⟩) : Src g (.slice (some ⟨k, 0, some l.length⟩) l.length 1) 1 l.length (bs l) := by
  by_cases h0 : l.length = 0
  · have : l = [] := List.eq_nil_of_length_eq_zero h0
    subst this
    exact .inr (.inl ⟨_, rfl, rfl, rfl⟩)
  · exact .inr (.inr ⟨_, ⟨ro, e, bs l⟩, rfl, by omega, by simp [rd, h], by rw [Nat.mul_one]; exact (List.take_of_length_le (by simp)).symm, by simp⟩)

theorem lit4 (x y z u : Int) (j : Nat) : stepBuildSlice Try.prog 23 4 [(0, .int .u8 x), (1, .int .u8 y), (2, .int .u8 z), (3, .int .u8 u)] j = some { v := .slice (some ⟨j, 0, some 4⟩) 4 1, j := j, a := [⟨false, 5, [.int .u8 x, .int .u8 y, .int .u8 z, .int .u8 u]⟩] } := by
  simp [stepBuildSlice, Try.underlying23, tinf5, fillL, Value.cells, isTup, putAll, List.replicate]

theorem lit36b (x y z u : Int) (j : Nat) : stepBuildSlice Try.prog 36 4 [(0, .int .i64 x), (1, .int .i64 y), (2, .int .i64 z), (3, .int .i64 u)] j = some { v := .slice (some ⟨j, 0, some 4⟩) 4 1, j := j, a := [⟨false, 3, [.int .i64 x, .int .i64 y, .int .i64 z, .int .i64 u]⟩] } := by
  simp [stepBuildSlice, Try.underlying36, tinf3, fillL, Value.cells, isTup, putAll, List.replicate]

/-- Bytes of a literal become a slice. -/
theorem conv_lit {g : Heap} {k : Nat} {cs : List Value} {m : Nat} (h : g k = some ⟨false, 5, cs⟩) (hm : m = cs.length) : stepConv Try.prog 23 23 (.slice (some ⟨k, 0, some m⟩) m 1) g = some { v := .slice (some ⟨k, 0, some m⟩) m 1, r := [k], w := [(k, ⟨true, 5, cs⟩)] } := by
  subst hm
  simp [stepConv, Try.underlying23, Try.underlying5, rd, h]

theorem abab_root : rootLen [97, 98, 97, 98] = 2 := by decide
theorem abab_least : least [97, 98, 97, 98] = 2 := by decide
theorem abab_borders : borders [97, 98, 97, 98] = [0, 0, 1, 2] := by decide
end Go.Proofs.Ytokmmcfnpobldaa
