import Derived.Test.YtokmmcfnpobldaaV15
import Derived.Test.YtokmmcfnpobldaaAbs16
namespace Go.Proofs.Ytokmmcfnpobldaa
open Go Abs
set_option linter.unusedSimpArgs false
set_option linter.unusedVariables false

theorem mk4 (j : Nat) : stepMake Try.prog 23 (.int .i64 4) (.int .i64 4) j = some { v := .slice (some ⟨j, 0, some 4⟩) 4 1, j := j, a := [⟨false, 5, bs [0, 0, 0, 0]⟩] } := by
  simp [stepMake, Try.underlying23, tinf5]

theorem conv40_5 (x : Int) (g : Heap) : stepConv Try.prog 40 5 (.int .u32 x) g = some { v := .int .u8 (IntKind.u8.wrap x) } := by simp [stepConv, Try.underlying40, Try.underlying5]
theorem conv5_40 (x : Int) (g : Heap) : stepConv Try.prog 5 40 (.int .u8 x) g = some { v := .int .u32 (IntKind.u32.wrap x) } := by simp [stepConv, Try.underlying40, Try.underlying5]

def four (v : Nat) : List Nat := [v % 256, v / 256 % 256, v / 65536 % 256, v / 16777216 % 256]

theorem four_step (v k : Nat) (hk : k < 4) : (bs ((four v).take k ++ List.replicate (4 - k) 0)).set k (.int .u8 (IntKind.u8.wrap ((v / 2 ^ (8 * k) : Nat) : Int))) = bs ((four v).take (k + 1) ++ List.replicate (4 - (k + 1)) 0) := by
  rw [wrap_u8]
  obtain rfl | rfl | rfl | rfl : k = 0 ∨ k = 1 ∨ k = 2 ∨ k = 3 := by omega
  all_goals simp [four, bs, List.replicate]

set_option maxRecDepth 10000 in
theorem four_spec (v : Nat) (g : Heap) (j : Nat) : FnSpec Try.prog 29 [.int .u32 v] g { v := .slice (some ⟨j, 0, some 4⟩) 4 1, j := j, a := [⟨false, 5, bs (four v)⟩] } := by
  refine spec_of_body [2] follows Try.func29 rfl (by kernel_rfl) (by simp [Try.f29]) (by kernel_rfl) rfl ?_
  intro g2 s2 n hg hfr hs hn hwf hsv
  refine s_run (by simp only [runL, List.drop_succ_cons, List.drop_zero, awant_some, Option.getD_some, List.getElem?_toArray, List.getElem?_cons_succ, List.getElem?_cons_zero, Option.bind_some, b_tt, b_tf, b_ft, b_ff, Bool.not_true, Bool.not_false, List.take_succ_cons, List.take_zero, awant_none, astep, evl, put, ap_none, ap_new, ap_wr, List.length_nil, List.length_cons, Nat.add_zero, Nat.zero_add, upd_app, stepBin, abin, stepUn, stepPick, stepExtract, stepCall, if_true, if_false, reduceCtorEq, ↓reduceIte, Nat.reduceEqDiff, Nat.reduceAdd, List.map_cons, List.map_nil, Option.map_some, Option.map_none, Bool.false_eq_true, Int.reduceLE, Int.reduceToNat, ne_eq, not_false_eq_true, and_self, and_true, true_and, decide_true, decide_false] <;> rfl) ?_
  refine s_run (by simp only [runL, List.drop_succ_cons, List.drop_zero, awant_some, Option.getD_some, List.getElem?_toArray, List.getElem?_cons_succ, List.getElem?_cons_zero, Option.bind_some, b_tt, b_tf, b_ft, b_ff, Bool.not_true, Bool.not_false, List.take_succ_cons, List.take_zero, awant_none, astep, evl, put, ap_none, ap_new, ap_wr, List.length_nil, List.length_cons, Nat.add_zero, Nat.zero_add, upd_app, stepBin, abin, stepUn, stepPick, stepExtract, stepCall, if_true, if_false, reduceCtorEq, ↓reduceIte, Nat.reduceEqDiff, Nat.reduceAdd, List.map_cons, List.map_nil, Option.map_some, Option.map_none, Bool.false_eq_true, Int.reduceLE, Int.reduceToNat, ne_eq, not_false_eq_true, and_self, and_true, true_and, decide_true, decide_false, mk4] <;> rfl) (w_heap fun G hG => ?_)
  have hGn : G n = some ⟨false, 5, bs [0, 0, 0, 0]⟩ := by rw [hG]; simp [upd_app]
  have hG2 : ∀ i, i < n → G i = g2 i := fun i hi => by rw [hG]; simp [upd_app]; omega
  have hlen := (src_own (g := G) (l := [0, 0, 0, 0]) hGn).len Try.underlying23
  have hl4 : stepLen Try.prog 23 (.slice (some ⟨n, 0, some 4⟩) 4 1) = some { v := .int .i64 4 } := hlen
  refine w_assoc (s_run (by simp only [runL, List.drop_succ_cons, List.drop_zero, awant_some, Option.getD_some, List.getElem?_toArray, List.getElem?_cons_succ, List.getElem?_cons_zero, Option.bind_some, b_tt, b_tf, b_ft, b_ff, Bool.not_true, Bool.not_false, List.take_succ_cons, List.take_zero, awant_none, astep, evl, put, ap_none, ap_new, ap_wr, List.length_nil, List.length_cons, Nat.add_zero, Nat.zero_add, upd_app, stepBin, abin, stepUn, stepPick, stepExtract, stepCall, if_true, if_false, reduceCtorEq, ↓reduceIte, Nat.reduceEqDiff, Nat.reduceAdd, List.map_cons, List.map_nil, Option.map_some, Option.map_none, Bool.false_eq_true, Int.reduceLE, Int.reduceToNat, ne_eq, not_false_eq_true, and_self, and_true, true_and, decide_true, decide_false, hl4] <;> rfl) ?_)
  refine s_range 4 (fun k t g n' => t 3 = .slice (some ⟨n, 0, some 4⟩) 4 1 ∧ t 0 = .int .u32 v ∧ g n = some ⟨false, 5, bs ((four v).take k ++ List.replicate (4 - k) 0)⟩ ∧ ∀ i, i < n → g i = g2 i) (by omega) rfl rfl ⟨by simp [upd_app], by simp [upd_app], by rw [hGn]; rfl, hG2⟩ (by decide) ?_ ?_ ?_
  · rintro k t g n' x y hx ⟨h1, h2, h3, h4⟩
    refine ⟨?_, ?_, h3, h4⟩ <;> rw [upd_ne _ _ (by rcases hx with rfl | rfl | rfl <;> decide)] <;> assumption
  · rintro k t g n' hk t8 t7 ⟨t3, t0, hgn, hgo⟩
    have hl : (bs ((four v).take k ++ List.replicate (4 - k) 0)).length = 4 := by simp [four]; omega
    have hat : (bs ((four v).take k ++ List.replicate (4 - k) 0))[k]? = some (.int .u8 0) := by
      obtain rfl | rfl | rfl | rfl : k = 0 ∨ k = 1 ∨ k = 2 ∨ k = 3 := by omega
      all_goals rfl
    obtain ⟨i1, i2, i4⟩ := own_at (P := Try.prog) (T := 23) hgn hat Try.underlying23 tsize5 aggT5
    rw [hl] at i1 i2 i4
    have w1 : IntKind.i64.wrap (8 * (k : Int)) = ((8 * k : Nat) : Int) := by rw [wrap64_of (by omega) (by omega)]; simp
    have hsh := shr_nat .u32 v (8 * k) (show 8 * k ≤ 32 by omega)
    refine s_run (by simp only [runL, List.drop_succ_cons, List.drop_zero, awant_some, Option.getD_some, List.getElem?_toArray, List.getElem?_cons_succ, List.getElem?_cons_zero, Option.bind_some, b_tt, b_tf, b_ft, b_ff, Bool.not_true, Bool.not_false, List.take_succ_cons, List.take_zero, awant_none, astep, evl, put, ap_none, ap_new, ap_wr, List.length_nil, List.length_cons, Nat.add_zero, Nat.zero_add, upd_app, stepBin, abin, stepUn, stepPick, stepExtract, stepCall, if_true, if_false, reduceCtorEq, ↓reduceIte, Nat.reduceEqDiff, Nat.reduceAdd, List.map_cons, List.map_nil, Option.map_some, Option.map_none, Bool.false_eq_true, Int.reduceLE, Int.reduceToNat, ne_eq, not_false_eq_true, and_self, and_true, true_and, decide_true, decide_false, t8] <;> rfl) ?_
    refine region_run (by simp only [runL, List.drop_succ_cons, List.drop_zero, awant_some, Option.getD_some, List.getElem?_toArray, List.getElem?_cons_succ, List.getElem?_cons_zero, Option.bind_some, b_tt, b_tf, b_ft, b_ff, Bool.not_true, Bool.not_false, List.take_succ_cons, List.take_zero, awant_none, astep, evl, put, ap_none, ap_new, ap_wr, List.length_nil, List.length_cons, Nat.add_zero, Nat.zero_add, upd_app, stepBin, abin, stepUn, stepPick, stepExtract, stepCall, if_true, if_false, reduceCtorEq, ↓reduceIte, Nat.reduceEqDiff, Nat.reduceAdd, List.map_cons, List.map_nil, Option.map_some, Option.map_none, Bool.false_eq_true, Int.reduceLE, Int.reduceToNat, ne_eq, not_false_eq_true, and_self, and_true, true_and, decide_true, decide_false, t3, t0, t8, w1, conv40_5, i1, i4, hsh, four_step v k hk, show (0 : Int) ≤ ((8 * k : Nat) : Int) from Int.natCast_nonneg _] <;> rfl) ?_
    refine ⟨by simp [upd_app, t8], by simp [upd_app, t7], by simp [upd_app, t3], by simp [upd_app, t0], by simp [upd_app], fun i hi => ?_⟩
    simp only [upd_app, if_neg (show i ≠ n by omega)]
    exact hgo i hi
  · rintro t g n' ⟨t3, t0, hgn, hgo⟩
    refine s_run (by simp only [runL, List.drop_succ_cons, List.drop_zero, awant_some, Option.getD_some, List.getElem?_toArray, List.getElem?_cons_succ, List.getElem?_cons_zero, Option.bind_some, b_tt, b_tf, b_ft, b_ff, Bool.not_true, Bool.not_false, List.take_succ_cons, List.take_zero, awant_none, astep, evl, put, ap_none, ap_new, ap_wr, List.length_nil, List.length_cons, Nat.add_zero, Nat.zero_add, upd_app, stepBin, abin, stepUn, stepPick, stepExtract, stepCall, if_true, if_false, reduceCtorEq, ↓reduceIte, Nat.reduceEqDiff, Nat.reduceAdd, List.map_cons, List.map_nil, Option.map_some, Option.map_none, Bool.false_eq_true, Int.reduceLE, Int.reduceToNat, ne_eq, not_false_eq_true, and_self, and_true, true_and, decide_true, decide_false, t3] <;> rfl) ?_
    refine w_ret ⟨.inr rfl, by simp, [n], ?_⟩
    have := fin_slice (s2 := s2) (g2 := g2) (n := n) (j := j) (r := []) (k := n) (e := 5) (cs := bs (four v)) (m := 4) (esz := 1) (v' := .slice (some ⟨n, 0, some 4⟩) 4 1) rfl (Nat.le_refl _) (by simpa [four] using hgn) plain_ints (fun i b hb => by
      rw [hgo i (hs i (hwf i b hb).1)]; exact hb)
    simpa [resVal, upd_app, four] using this
end Go.Proofs.Ytokmmcfnpobldaa
