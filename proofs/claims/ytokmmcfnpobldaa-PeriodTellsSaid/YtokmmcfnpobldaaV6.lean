import Derived.Test.YtokmmcfnpobldaaV5
namespace Go.Proofs.Ytokmmcfnpobldaa
open Go Abs
set_option linter.unusedSimpArgs false
set_option linter.unusedVariables false

theorem vput_256 (v : Nat) : ∀ x ∈ vput v, x < 256 := by
  induction v using Nat.strongRecOn with
  | _ v ih =>
    rw [vput]
    split
    · intro x hx; simp at hx; omega
    · intro x hx
      rcases List.mem_cons.1 hx with rfl | hx
      · omega
      · exact ih _ (by omega) x hx

theorem getD_256 {l : List Nat} (h : ∀ x ∈ l, x < 256) (i : Nat) : l[i]?.getD 0 < 256 := by
  by_cases hi : i < l.length
  · rw [List.getElem?_eq_getElem hi]
    exact h _ (List.getElem_mem hi)
  · rw [List.getElem?_eq_none (by omega)]; simp

/-- A slice over the whole of a block is read. -/
theorem src_own {g : Heap} {k e : Nat} {l : List Nat} (h : g k = some ⟨false, e, bs l⟩) : Src g (.slice (some ⟨k, 0, some l.length⟩) l.length 1) 1 l.length (bs l) :=
  OwnI.toSrc (e := e) (i := some k) (.inr ⟨k, rfl, by simp, h, by simp⟩)

theorem src_str {g : Heap} {v : Value} {l : List Nat} (h : Src g v 1 l.length (bs l)) : ∃ r, stepConv Try.prog 23 9 v g = some { v := .string (nstr l), r := r } ∧ ∀ i ∈ r, i ∈ srcBlk v :=
  Src.str (ns := l.map fun (b : Nat) => (b : Int)) (by rw [← bs_ints]; exact h) Try.underlying23 Try.underlying5 Try.underlying9

theorem lit3 (x y z : Int) (j : Nat) : stepBuildSlice Try.prog 23 3 [(0, .int .u8 x), (1, .int .u8 y), (2, .int .u8 z)] j = some { v := .slice (some ⟨j, 0, some 3⟩) 3 1, j := j, a := [⟨false, 5, [.int .u8 x, .int .u8 y, .int .u8 z]⟩] } := by
  simp [stepBuildSlice, Try.underlying23, tinf5, fillL, Value.cells, isTup, putAll, List.replicate]

theorem vget_known : vget [172, 2, 7] = some (300, 2) := by decide
theorem vput_known : vput 300 = [172, 2] := by rw [vput, if_neg (by omega), vput, if_pos (by omega)]

set_option maxRecDepth 10000 in
theorem known_spec (g : Heap) : FnSpec Try.prog 19 [] g { v := .bool true } := by
  refine spec_of_body [0] follows Try.func19 rfl (by kernel_rfl) (by simp [Try.f19]) (by kernel_rfl) rfl ?_
  intro g2 s2 n hg hfr hs hn hwf hsv
  refine s_run (by simp only [runL, List.drop_succ_cons, List.drop_zero, awant_some, Option.getD_some, List.getElem?_toArray, List.getElem?_cons_succ, List.getElem?_cons_zero, Option.bind_some, b_tt, b_tf, b_ft, b_ff, Bool.not_true, Bool.not_false, List.take_succ_cons, List.take_zero, awant_none, astep, evl, put, ap_none, ap_new, ap_wr, List.length_nil, List.length_cons, Nat.add_zero, Nat.zero_add, upd_app, stepBin, abin, stepUn, stepPick, stepExtract, stepCall, if_true, if_false, reduceCtorEq, ↓reduceIte, Nat.reduceEqDiff, Nat.reduceAdd, List.map_cons, List.map_nil, Option.map_some, Option.map_none, Bool.false_eq_true, Int.reduceLE, Int.reduceToNat, ne_eq, not_false_eq_true, and_self, and_true, true_and, decide_true, decide_false] <;> rfl) ?_
  refine s_take 1 (by simp only [runL, List.drop_succ_cons, List.drop_zero, awant_some, Option.getD_some, List.getElem?_toArray, List.getElem?_cons_succ, List.getElem?_cons_zero, Option.bind_some, b_tt, b_tf, b_ft, b_ff, Bool.not_true, Bool.not_false, List.take_succ_cons, List.take_zero, awant_none, astep, evl, put, ap_none, ap_new, ap_wr, List.length_nil, List.length_cons, Nat.add_zero, Nat.zero_add, upd_app, stepBin, abin, stepUn, stepPick, stepExtract, stepCall, if_true, if_false, reduceCtorEq, ↓reduceIte, Nat.reduceEqDiff, Nat.reduceAdd, List.map_cons, List.map_nil, Option.map_some, Option.map_none, Bool.false_eq_true, Int.reduceLE, Int.reduceToNat, ne_eq, not_false_eq_true, and_self, and_true, true_and, decide_true, decide_false, lit3] <;> rfl) ?_
  refine ops_call 17 _ rfl (get_spec _ [172, 2, 7] _ (by decide) (getD_256 (by decide)) (src_own (k := n) (e := 5) (l := [172, 2, 7]) ?_)) (by simp) ?_
  · simp [upd_app]
  rw [vget_known]
  refine ops_run (by simp only [runL, List.drop_succ_cons, List.drop_zero, awant_some, Option.getD_some, List.getElem?_toArray, List.getElem?_cons_succ, List.getElem?_cons_zero, Option.bind_some, b_tt, b_tf, b_ft, b_ff, Bool.not_true, Bool.not_false, List.take_succ_cons, List.take_zero, awant_none, astep, evl, put, ap_none, ap_new, ap_wr, List.length_nil, List.length_cons, Nat.add_zero, Nat.zero_add, upd_app, stepBin, abin, stepUn, stepPick, stepExtract, stepCall, if_true, if_false, reduceCtorEq, ↓reduceIte, Nat.reduceEqDiff, Nat.reduceAdd, List.map_cons, List.map_nil, Option.map_some, Option.map_none, Bool.false_eq_true, Int.reduceLE, Int.reduceToNat, ne_eq, not_false_eq_true, and_self, and_true, true_and, decide_true, decide_false, gres] <;> rfl) ?_
  refine s_take 0 rfl ?_
  refine ops_call 16 _ rfl (put_spec 300 (by decide) _ _) (by intro _; rfl) (ops_heap fun G hG => ?_)
  obtain ⟨r, hr, _⟩ := src_str (g := G) (src_own (k := n + 1) (e := 5) (l := vput 300) (by simp [hG, ap_new, upd_app]))
  have hs1 : ((nstr (vput 300)).toList == (ByteArray.mk #[172, 2]).toList) = true := by rw [vput_known]; decide +kernel
  refine ops_run (by simp only [runL, List.drop_succ_cons, List.drop_zero, awant_some, Option.getD_some, List.getElem?_toArray, List.getElem?_cons_succ, List.getElem?_cons_zero, Option.bind_some, b_tt, b_tf, b_ft, b_ff, Bool.not_true, Bool.not_false, List.take_succ_cons, List.take_zero, awant_none, astep, evl, put, ap_none, ap_new, ap_wr, List.length_nil, List.length_cons, Nat.add_zero, Nat.zero_add, upd_app, stepBin, abin, stepUn, stepPick, stepExtract, stepCall, if_true, if_false, reduceCtorEq, ↓reduceIte, Nat.reduceEqDiff, Nat.reduceAdd, List.map_cons, List.map_nil, Option.map_some, Option.map_none, Bool.false_eq_true, Int.reduceLE, Int.reduceToNat, ne_eq, not_false_eq_true, and_self, and_true, true_and, decide_true, decide_false, hr, hs1] <;> rfl) ?_
  refine w_ret ⟨.inr rfl, by simp, [], fin_none ?_ trivial ?_⟩
  · simp [resVal, upd_app]
  · intro i b hb
    have := hs i (hwf i b hb).1
    rw [hG]
    simp [ap_new, upd_app, show i ≠ n + 1 by omega, show i ≠ n by omega, hb]
end Go.Proofs.Ytokmmcfnpobldaa
