import Derived.Test.YtokmmcfnpobldaaV14
namespace Go.Proofs.Ytokmmcfnpobldaa
open Go Abs
set_option linter.unusedSimpArgs false
set_option linter.unusedVariables false

set_option maxRecDepth 10000 in
theorem lawLeast_spec (a : Nat) (ha : a < 2 ^ 64) (b : Int) (g : Heap) : FnSpec Try.prog 5 [.int .u64 a, .int .i64 b] g { v := .bool true } := by
  refine spec_of_body [4] follows Try.func5 rfl (by kernel_rfl) (by simp [Try.f5]) (by kernel_rfl) rfl ?_
  intro g2 s2 n hg hfr hs hn hwf hsv
  refine s_run (by simp only [runL, List.drop_succ_cons, List.drop_zero, awant_some, Option.getD_some, List.getElem?_toArray, List.getElem?_cons_succ, List.getElem?_cons_zero, Option.bind_some, b_tt, b_tf, b_ft, b_ff, Bool.not_true, Bool.not_false, List.take_succ_cons, List.take_zero, awant_none, astep, evl, put, ap_none, ap_new, ap_wr, List.length_nil, List.length_cons, Nat.add_zero, Nat.zero_add, upd_app, stepBin, abin, stepUn, stepPick, stepExtract, stepCall, if_true, if_false, reduceCtorEq, ↓reduceIte, Nat.reduceEqDiff, Nat.reduceAdd, List.map_cons, List.map_nil, Option.map_some, Option.map_none, Bool.false_eq_true, Int.reduceLE, Int.reduceToNat, ne_eq, not_false_eq_true, and_self, and_true, true_and, decide_true, decide_false] <;> rfl) ?_
  refine s_take 1 (by simp only [runL, List.drop_succ_cons, List.drop_zero, awant_some, Option.getD_some, List.getElem?_toArray, List.getElem?_cons_succ, List.getElem?_cons_zero, Option.bind_some, b_tt, b_tf, b_ft, b_ff, Bool.not_true, Bool.not_false, List.take_succ_cons, List.take_zero, awant_none, astep, evl, put, ap_none, ap_new, ap_wr, List.length_nil, List.length_cons, Nat.add_zero, Nat.zero_add, upd_app, stepBin, abin, stepUn, stepPick, stepExtract, stepCall, if_true, if_false, reduceCtorEq, ↓reduceIte, Nat.reduceEqDiff, Nat.reduceAdd, List.map_cons, List.map_nil, Option.map_some, Option.map_none, Bool.false_eq_true, Int.reduceLE, Int.reduceToNat, ne_eq, not_false_eq_true, and_self, and_true, true_and, decide_true, decide_false] <;> rfl) ?_
  refine ops_call 18 _ rfl (rput_spec a ha _ _) (by intro _; rfl) (ops_heap fun G1 hG1 => ?_)
  refine ops_run (by simp only [runL, List.drop_succ_cons, List.drop_zero, awant_some, Option.getD_some, List.getElem?_toArray, List.getElem?_cons_succ, List.getElem?_cons_zero, Option.bind_some, b_tt, b_tf, b_ft, b_ff, Bool.not_true, Bool.not_false, List.take_succ_cons, List.take_zero, awant_none, astep, evl, put, ap_none, ap_new, ap_wr, List.length_nil, List.length_cons, Nat.add_zero, Nat.zero_add, upd_app, stepBin, abin, stepUn, stepPick, stepExtract, stepCall, if_true, if_false, reduceCtorEq, ↓reduceIte, Nat.reduceEqDiff, Nat.reduceAdd, List.map_cons, List.map_nil, Option.map_some, Option.map_none, Bool.false_eq_true, Int.reduceLE, Int.reduceToNat, ne_eq, not_false_eq_true, and_self, and_true, true_and, decide_true, decide_false] <;> rfl) ?_
  refine w_gen (fun t => t 1 = .int .i64 b ∧ t 5 = .slice (some ⟨n, 0, some (vput a).length⟩) (vput a).length 1) (by simp [upd_app]) ?_
  rintro t ⟨t1, t5⟩
  have e1n : G1 n = some ⟨false, 5, bs (vput a)⟩ := by simp [hG1, ap_new, upd_app]
  have e1 : ∀ k, k < n → G1 k = g2 k := fun k hk => by simp [hG1, ap_new, upd_app]; omega
  have hlen := (src_own e1n).len Try.underlying23
  have h10 := vput_len10 a ha
  have hpos := vput_pos a
  have hold : ∀ i b, g2 i = some b → G1 i = some b := fun i b hb => by rw [e1 i (hs i (hwf i b hb).1), hb]
  by_cases c1 : b < 1
  · have d1 : decide (b < 1) = true := by simp [c1]
    refine w_assoc (s_run (by simp only [runL, List.drop_succ_cons, List.drop_zero, awant_some, Option.getD_some, List.getElem?_toArray, List.getElem?_cons_succ, List.getElem?_cons_zero, Option.bind_some, b_tt, b_tf, b_ft, b_ff, Bool.not_true, Bool.not_false, List.take_succ_cons, List.take_zero, awant_none, astep, evl, put, ap_none, ap_new, ap_wr, List.length_nil, List.length_cons, Nat.add_zero, Nat.zero_add, upd_app, stepBin, abin, stepUn, stepPick, stepExtract, stepCall, if_true, if_false, reduceCtorEq, ↓reduceIte, Nat.reduceEqDiff, Nat.reduceAdd, List.map_cons, List.map_nil, Option.map_some, Option.map_none, Bool.false_eq_true, Int.reduceLE, Int.reduceToNat, ne_eq, not_false_eq_true, and_self, and_true, true_and, decide_true, decide_false, t1, t5, d1] <;> rfl) ?_)
    refine s_true (by simp [evl, upd_app]) (w_assoc (s_run (by simp only [runL, List.drop_succ_cons, List.drop_zero, awant_some, Option.getD_some, List.getElem?_toArray, List.getElem?_cons_succ, List.getElem?_cons_zero, Option.bind_some, b_tt, b_tf, b_ft, b_ff, Bool.not_true, Bool.not_false, List.take_succ_cons, List.take_zero, awant_none, astep, evl, put, ap_none, ap_new, ap_wr, List.length_nil, List.length_cons, Nat.add_zero, Nat.zero_add, upd_app, stepBin, abin, stepUn, stepPick, stepExtract, stepCall, if_true, if_false, reduceCtorEq, ↓reduceIte, Nat.reduceEqDiff, Nat.reduceAdd, List.map_cons, List.map_nil, Option.map_some, Option.map_none, Bool.false_eq_true, Int.reduceLE, Int.reduceToNat, ne_eq, not_false_eq_true, and_self, and_true, true_and, decide_true, decide_false] <;> rfl) ?_))
    refine s_ret ⟨.inr rfl, by simp, [], fin_none ?_ trivial hold⟩
    simp [resVal, upd_app]
  have d1 : decide (b < 1) = false := by simp; omega
  by_cases c2 : b > 5
  · have d2 : decide (b > 5) = true := by simp; omega
    refine w_assoc (s_run (by simp only [runL, List.drop_succ_cons, List.drop_zero, awant_some, Option.getD_some, List.getElem?_toArray, List.getElem?_cons_succ, List.getElem?_cons_zero, Option.bind_some, b_tt, b_tf, b_ft, b_ff, Bool.not_true, Bool.not_false, List.take_succ_cons, List.take_zero, awant_none, astep, evl, put, ap_none, ap_new, ap_wr, List.length_nil, List.length_cons, Nat.add_zero, Nat.zero_add, upd_app, stepBin, abin, stepUn, stepPick, stepExtract, stepCall, if_true, if_false, reduceCtorEq, ↓reduceIte, Nat.reduceEqDiff, Nat.reduceAdd, List.map_cons, List.map_nil, Option.map_some, Option.map_none, Bool.false_eq_true, Int.reduceLE, Int.reduceToNat, ne_eq, not_false_eq_true, and_self, and_true, true_and, decide_true, decide_false, t1, t5, d1, d2] <;> rfl) ?_)
    refine s_true (by simp [evl, upd_app]) (w_assoc (s_run (by simp only [runL, List.drop_succ_cons, List.drop_zero, awant_some, Option.getD_some, List.getElem?_toArray, List.getElem?_cons_succ, List.getElem?_cons_zero, Option.bind_some, b_tt, b_tf, b_ft, b_ff, Bool.not_true, Bool.not_false, List.take_succ_cons, List.take_zero, awant_none, astep, evl, put, ap_none, ap_new, ap_wr, List.length_nil, List.length_cons, Nat.add_zero, Nat.zero_add, upd_app, stepBin, abin, stepUn, stepPick, stepExtract, stepCall, if_true, if_false, reduceCtorEq, ↓reduceIte, Nat.reduceEqDiff, Nat.reduceAdd, List.map_cons, List.map_nil, Option.map_some, Option.map_none, Bool.false_eq_true, Int.reduceLE, Int.reduceToNat, ne_eq, not_false_eq_true, and_self, and_true, true_and, decide_true, decide_false] <;> rfl) ?_))
    refine s_ret ⟨.inr rfl, by simp, [], fin_none ?_ trivial hold⟩
    simp [resVal, upd_app]
  have d2 : decide (b > 5) = false := by simp; omega
  obtain ⟨k, rfl⟩ : ∃ k : Nat, b = k := ⟨b.toNat, by omega⟩
  have w1 : IntKind.i64.wrap (((vput a).length : Int) + (k : Int)) = (((vput a).length + k : Nat) : Int) := by rw [wrap64_of (by omega) (by omega)]; simp
  by_cases c3 : (vput a).length + k > 12
  · have d3 : decide ((((vput a).length + k : Nat) : Int) > 12) = true := by simp; omega
    refine w_assoc (s_run (by simp only [runL, List.drop_succ_cons, List.drop_zero, awant_some, Option.getD_some, List.getElem?_toArray, List.getElem?_cons_succ, List.getElem?_cons_zero, Option.bind_some, b_tt, b_tf, b_ft, b_ff, Bool.not_true, Bool.not_false, List.take_succ_cons, List.take_zero, awant_none, astep, evl, put, ap_none, ap_new, ap_wr, List.length_nil, List.length_cons, Nat.add_zero, Nat.zero_add, upd_app, stepBin, abin, stepUn, stepPick, stepExtract, stepCall, if_true, if_false, reduceCtorEq, ↓reduceIte, Nat.reduceEqDiff, Nat.reduceAdd, List.map_cons, List.map_nil, Option.map_some, Option.map_none, Bool.false_eq_true, Int.reduceLE, Int.reduceToNat, ne_eq, not_false_eq_true, and_self, and_true, true_and, decide_true, decide_false, t1, t5, d1, d2, hlen, w1, d3] <;> rfl) ?_)
    refine s_true (by simp [evl, upd_app]) (w_assoc (s_run (by simp only [runL, List.drop_succ_cons, List.drop_zero, awant_some, Option.getD_some, List.getElem?_toArray, List.getElem?_cons_succ, List.getElem?_cons_zero, Option.bind_some, b_tt, b_tf, b_ft, b_ff, Bool.not_true, Bool.not_false, List.take_succ_cons, List.take_zero, awant_none, astep, evl, put, ap_none, ap_new, ap_wr, List.length_nil, List.length_cons, Nat.add_zero, Nat.zero_add, upd_app, stepBin, abin, stepUn, stepPick, stepExtract, stepCall, if_true, if_false, reduceCtorEq, ↓reduceIte, Nat.reduceEqDiff, Nat.reduceAdd, List.map_cons, List.map_nil, Option.map_some, Option.map_none, Bool.false_eq_true, Int.reduceLE, Int.reduceToNat, ne_eq, not_false_eq_true, and_self, and_true, true_and, decide_true, decide_false] <;> rfl) ?_))
    refine s_ret ⟨.inr rfl, by simp, [], fin_none ?_ trivial hold⟩
    simp [resVal, upd_app]
  have d3 : decide ((((vput a).length + k : Nat) : Int) > 12) = false := by simp; omega
  refine w_assoc (s_run (by simp only [runL, List.drop_succ_cons, List.drop_zero, awant_some, Option.getD_some, List.getElem?_toArray, List.getElem?_cons_succ, List.getElem?_cons_zero, Option.bind_some, b_tt, b_tf, b_ft, b_ff, Bool.not_true, Bool.not_false, List.take_succ_cons, List.take_zero, awant_none, astep, evl, put, ap_none, ap_new, ap_wr, List.length_nil, List.length_cons, Nat.add_zero, Nat.zero_add, upd_app, stepBin, abin, stepUn, stepPick, stepExtract, stepCall, if_true, if_false, reduceCtorEq, ↓reduceIte, Nat.reduceEqDiff, Nat.reduceAdd, List.map_cons, List.map_nil, Option.map_some, Option.map_none, Bool.false_eq_true, Int.reduceLE, Int.reduceToNat, ne_eq, not_false_eq_true, and_self, and_true, true_and, decide_true, decide_false, t1, t5, d1, d2, hlen, w1, d3] <;> rfl) ?_)
  refine s_false (by simp [evl, upd_app]) (s_skip ?_)
  refine w_gen (fun t => t 1 = .int .i64 k ∧ t 5 = .slice (some ⟨n, 0, some (vput a).length⟩) (vput a).length 1) (by simp [upd_app, t1, t5]) ?_
  clear t1 t5
  rintro t ⟨t1, t5⟩
  obtain ⟨q, c, hqc, hc, hq⟩ := grp_split (vput_grp a)
  have hL : (vput a).length = q.length + 1 := by rw [hqc]; simp
  have w2 : IntKind.i64.wrap (((vput a).length : Int) - 1) = (q.length : Int) := by rw [wrap64_of (by omega) (by omega)]; omega
  obtain ⟨v', hs1, hs2, hs3, hs4⟩ := (src_own e1n).slice Try.underlying23 tsize5 none (some (.int .i64 (q.length : Int))) 0 q.length rfl rfl (by omega) (by omega)
  have hs5 : Src G1 v' 1 q.length (bs q) := by
    have : (vput a).take q.length = q := by rw [hqc]; simp
    simpa [← List.map_take, this] using hs2
  have hq256 : ∀ x ∈ q, x < 256 := fun x hx => (hq x hx).2
  refine s_take 5 (by simp only [runL, List.drop_succ_cons, List.drop_zero, awant_some, Option.getD_some, List.getElem?_toArray, List.getElem?_cons_succ, List.getElem?_cons_zero, Option.bind_some, b_tt, b_tf, b_ft, b_ff, Bool.not_true, Bool.not_false, List.take_succ_cons, List.take_zero, awant_none, astep, evl, put, ap_none, ap_new, ap_wr, List.length_nil, List.length_cons, Nat.add_zero, Nat.zero_add, upd_app, stepBin, abin, stepUn, stepPick, stepExtract, stepCall, if_true, if_false, reduceCtorEq, ↓reduceIte, Nat.reduceEqDiff, Nat.reduceAdd, List.map_cons, List.map_nil, Option.map_some, Option.map_none, Bool.false_eq_true, Int.reduceLE, Int.reduceToNat, ne_eq, not_false_eq_true, and_self, and_true, true_and, decide_true, decide_false, t5, hlen, w2, hs1] <;> rfl) ?_
  refine ops_call 17 _ rfl (get_spec v' q G1 (by omega) (getD_256 hq256) hs5) (by simp) ?_
  rw [vget_short q fun x hx => (hq x hx).1]
  refine ops_run (by simp only [runL, List.drop_succ_cons, List.drop_zero, awant_some, Option.getD_some, List.getElem?_toArray, List.getElem?_cons_succ, List.getElem?_cons_zero, Option.bind_some, b_tt, b_tf, b_ft, b_ff, Bool.not_true, Bool.not_false, List.take_succ_cons, List.take_zero, awant_none, astep, evl, put, ap_none, ap_new, ap_wr, List.length_nil, List.length_cons, Nat.add_zero, Nat.zero_add, upd_app, stepBin, abin, stepUn, stepPick, stepExtract, stepCall, if_true, if_false, reduceCtorEq, ↓reduceIte, Nat.reduceEqDiff, Nat.reduceAdd, List.map_cons, List.map_nil, Option.map_some, Option.map_none, Bool.false_eq_true, Int.reduceLE, Int.reduceToNat, ne_eq, not_false_eq_true, and_self, and_true, true_and, decide_true, decide_false, gres] <;> rfl) ?_
  refine w_gen (fun t => t 1 = .int .i64 k ∧ t 5 = .slice (some ⟨n, 0, some (vput a).length⟩) (vput a).length 1 ∧ t 8 = .bool false) (by simp [upd_app, put, t1, t5]) ?_
  clear t1 t5
  rintro t ⟨t1, t5, t8⟩
  refine s_take 2 (by simp only [runL, List.drop_succ_cons, List.drop_zero, awant_some, Option.getD_some, List.getElem?_toArray, List.getElem?_cons_succ, List.getElem?_cons_zero, Option.bind_some, b_tt, b_tf, b_ft, b_ff, Bool.not_true, Bool.not_false, List.take_succ_cons, List.take_zero, awant_none, astep, evl, put, ap_none, ap_new, ap_wr, List.length_nil, List.length_cons, Nat.add_zero, Nat.zero_add, upd_app, stepBin, abin, stepUn, stepPick, stepExtract, stepCall, if_true, if_false, reduceCtorEq, ↓reduceIte, Nat.reduceEqDiff, Nat.reduceAdd, List.map_cons, List.map_nil, Option.map_some, Option.map_none, Bool.false_eq_true, Int.reduceLE, Int.reduceToNat, ne_eq, not_false_eq_true, and_self, and_true, true_and, decide_true, decide_false, t5, lit0] <;> rfl) (ops_heap fun G2 hG2 => ?_)
  have e2 : ∀ k, k < n → G2 k = g2 k := fun k hk => by rw [hG2]; simp [upd_app, e1 k hk]; omega
  have e2n : G2 n = some ⟨false, 5, bs (vput a)⟩ := by rw [hG2]; simp [upd_app, e1n]
  have o2 : OwnI 5 1 G2 (.slice (some ⟨n + 1, 0, some 0⟩) 0 1) 0 [] (some (n + 1)) := .inr ⟨n + 1, rfl, rfl, by rw [hG2]; simp [upd_app], rfl⟩
  obtain ⟨f3, i3, hf3, o3, hi3, hk3⟩ := own_append (P := Try.prog) (n := n + 1 + 1) (T := 23) o2 (src_own (l := vput a) e2n).cells (by simp) Try.underlying23 tinf5 (by omega) (by omega) (by omega)
  rcases hi3 with ⟨rfl, ha3⟩ | ⟨h, _⟩
  case inr => cases h
  refine ops_step f3 (by simp only [runL, List.drop_succ_cons, List.drop_zero, awant_some, Option.getD_some, List.getElem?_toArray, List.getElem?_cons_succ, List.getElem?_cons_zero, Option.bind_some, b_tt, b_tf, b_ft, b_ff, Bool.not_true, Bool.not_false, List.take_succ_cons, List.take_zero, awant_none, astep, evl, put, ap_none, ap_new, ap_wr, List.length_nil, List.length_cons, Nat.add_zero, Nat.zero_add, upd_app, stepBin, abin, stepUn, stepPick, stepExtract, stepCall, if_true, if_false, reduceCtorEq, ↓reduceIte, Nat.reduceEqDiff, Nat.reduceAdd, List.map_cons, List.map_nil, Option.map_some, Option.map_none, Bool.false_eq_true, Int.reduceLE, Int.reduceToNat, ne_eq, not_false_eq_true, and_self, and_true, true_and, decide_true, decide_false, t5, hf3]) rfl (ops_heap fun G3 hG3 => ?_)
  rw [← hG3] at o3 hk3
  have e3 : ∀ k, k < n → G3 k = g2 k := fun k hk => by rw [hk3 k (by omega) (by simp; omega), e2 k hk]
  rcases o3 with ⟨h, _⟩ | ⟨k3, h3, hv3, hg3, hl3⟩
  · cases h
  cases h3
  rw [List.nil_append] at hv3 hg3
  have hbl : (bs (vput a)).length = (vput a).length := by simp
  rw [hbl, Nat.zero_add] at hv3
  refine ops_run (by simp only [runL, List.drop_succ_cons, List.drop_zero, awant_some, Option.getD_some, List.getElem?_toArray, List.getElem?_cons_succ, List.getElem?_cons_zero, Option.bind_some, b_tt, b_tf, b_ft, b_ff, Bool.not_true, Bool.not_false, List.take_succ_cons, List.take_zero, awant_none, astep, evl, put, ap_none, ap_new, ap_wr, List.length_nil, List.length_cons, Nat.add_zero, Nat.zero_add, upd_app, stepBin, abin, stepUn, stepPick, stepExtract, stepCall, if_true, if_false, reduceCtorEq, ↓reduceIte, Nat.reduceEqDiff, Nat.reduceAdd, List.map_cons, List.map_nil, Option.map_some, Option.map_none, Bool.false_eq_true, Int.reduceLE, Int.reduceToNat, ne_eq, not_false_eq_true, and_self, and_true, true_and, decide_true, decide_false, hv3] <;> rfl) ?_
  refine w_gen (fun t => t 1 = .int .i64 k ∧ t 8 = .bool false ∧ t 9 = .slice (some ⟨n + 1, 0, some (vput a).length⟩) (vput a).length 1) (by simp [upd_app, put, t1, t8]) ?_
  clear t1 t5 t8
  rintro t ⟨t1, t8, t9⟩
  have hat : (bs (vput a))[q.length]? = some (.int .u8 (c : Int)) := by rw [hqc]; simp
  obtain ⟨i1, i2, i4⟩ := own_at (P := Try.prog) (T := 23) hg3 hat Try.underlying23 tsize5 aggT5
  rw [hbl] at i1 i2 i4
  have hlen3 := (src_own (g := G3) (l := vput a) hg3).len Try.underlying23
  have hset : (bs (vput a)).set q.length (.int .u8 ((c + 128 : Nat) : Int)) = bs (q ++ [c + 128]) := by rw [hqc]; simp [bs]
  refine s_run (by simp only [runL, List.drop_succ_cons, List.drop_zero, awant_some, Option.getD_some, List.getElem?_toArray, List.getElem?_cons_succ, List.getElem?_cons_zero, Option.bind_some, b_tt, b_tf, b_ft, b_ff, Bool.not_true, Bool.not_false, List.take_succ_cons, List.take_zero, awant_none, astep, evl, put, ap_none, ap_new, ap_wr, List.length_nil, List.length_cons, Nat.add_zero, Nat.zero_add, upd_app, stepBin, abin, stepUn, stepPick, stepExtract, stepCall, if_true, if_false, reduceCtorEq, ↓reduceIte, Nat.reduceEqDiff, Nat.reduceAdd, List.map_cons, List.map_nil, Option.map_some, Option.map_none, Bool.false_eq_true, Int.reduceLE, Int.reduceToNat, ne_eq, not_false_eq_true, and_self, and_true, true_and, decide_true, decide_false, t9, hlen3, w2, i1, i2, i4, or128_u8 c hc, hset] <;> rfl) (w_heap fun G4 hG4 => ?_)
  have g4 : G4 (n + 1) = some ⟨false, 5, bs (q ++ [c + 128])⟩ := by rw [hG4]; simp [upd_app]
  have e4 : ∀ k, k < n → G4 k = g2 k := fun k hk => by rw [hG4]; simp [upd_app, e3 k hk]; omega
  have hk1 : 1 ≤ k := by omega
  refine w_assoc (s_run (by simp only [runL, List.drop_succ_cons, List.drop_zero, awant_some, Option.getD_some, List.getElem?_toArray, List.getElem?_cons_succ, List.getElem?_cons_zero, Option.bind_some, b_tt, b_tf, b_ft, b_ff, Bool.not_true, Bool.not_false, List.take_succ_cons, List.take_zero, awant_none, astep, evl, put, ap_none, ap_new, ap_wr, List.length_nil, List.length_cons, Nat.add_zero, Nat.zero_add, upd_app, stepBin, abin, stepUn, stepPick, stepExtract, stepCall, if_true, if_false, reduceCtorEq, ↓reduceIte, Nat.reduceEqDiff, Nat.reduceAdd, List.map_cons, List.map_nil, Option.map_some, Option.map_none, Bool.false_eq_true, Int.reduceLE, Int.reduceToNat, ne_eq, not_false_eq_true, and_self, and_true, true_and, decide_true, decide_false] <;> rfl) ?_)
  refine s_block (fun t g n' => ∃ i' : Option Nat, t 8 = .bool false ∧ OwnI 5 1 g (t 9) (q.length + k) (bs (q ++ [c + 128] ++ List.replicate (k - 1) 128)) i' ∧ (∀ x, i' = some x → n ≤ x ∧ x < n') ∧ (∀ x, x < n → g x = g2 x) ∧ n ≤ n') ?_ ?_
  · refine w_loop (fun t g n' => ∃ (i : Nat) (i' : Option Nat), 1 ≤ i ∧ i ≤ k ∧ t 1 = .int .i64 k ∧ t 10 = .int .i64 i ∧ t 8 = .bool false ∧ OwnI 5 1 g (t 9) (q.length + i) (bs (q ++ [c + 128] ++ List.replicate (i - 1) 128)) i' ∧ (∀ x, i' = some x → n ≤ x ∧ x < n') ∧ (∀ x, x < n → g x = g2 x) ∧ n ≤ n')
      (fun t _ _ => match t 10 with | .int _ i => k - i.toNat | _ => 0) ⟨1, some (n + 1), by omega, by omega, by simp [upd_app, t1], by simp [upd_app], by simp [upd_app, t8], .inr ⟨n + 1, rfl, by simp [upd_app, t9, hL], by simp [g4], by simp⟩, fun x hx => by cases hx; omega, e4, by omega⟩ ?_
    rintro t g n' ⟨i, i', hi1, hik, t1, t10, t8, hO, hi', hgk, hnn⟩
    by_cases hlt : i < k
    · have d : decide ((i : Int) < (k : Int)) = true := by simp [hlt]
      refine w_assoc (s_run (by simp only [runL, List.drop_succ_cons, List.drop_zero, awant_some, Option.getD_some, List.getElem?_toArray, List.getElem?_cons_succ, List.getElem?_cons_zero, Option.bind_some, b_tt, b_tf, b_ft, b_ff, Bool.not_true, Bool.not_false, List.take_succ_cons, List.take_zero, awant_none, astep, evl, put, ap_none, ap_new, ap_wr, List.length_nil, List.length_cons, Nat.add_zero, Nat.zero_add, upd_app, stepBin, abin, stepUn, stepPick, stepExtract, stepCall, if_true, if_false, reduceCtorEq, ↓reduceIte, Nat.reduceEqDiff, Nat.reduceAdd, List.map_cons, List.map_nil, Option.map_some, Option.map_none, Bool.false_eq_true, Int.reduceLE, Int.reduceToNat, ne_eq, not_false_eq_true, and_self, and_true, true_and, decide_true, decide_false, t1, t10, d] <;> rfl) ?_)
      refine s_true (by simp [evl, upd_app]) (s_skip (w_seq (w_block ?_)))
      obtain ⟨f, j', hf, hO', hj', hk'⟩ := own_push (P := Try.prog) (n := n') (T := 23) (c := .int .u8 128) hO (fun x hx => (hi' x hx).2) Try.underlying23 tinf5 (by omega) (by omega)
      refine region_run (id := 10) (by simp only [runL, List.drop_succ_cons, List.drop_zero, awant_some, Option.getD_some, List.getElem?_toArray, List.getElem?_cons_succ, List.getElem?_cons_zero, Option.bind_some, b_tt, b_tf, b_ft, b_ff, Bool.not_true, Bool.not_false, List.take_succ_cons, List.take_zero, awant_none, astep, evl, put, ap_none, ap_new, ap_wr, List.length_nil, List.length_cons, Nat.add_zero, Nat.zero_add, upd_app, stepBin, abin, stepUn, stepPick, stepExtract, stepCall, if_true, if_false, reduceCtorEq, ↓reduceIte, Nat.reduceEqDiff, Nat.reduceAdd, List.map_cons, List.map_nil, Option.map_some, Option.map_none, Bool.false_eq_true, Int.reduceLE, Int.reduceToNat, ne_eq, not_false_eq_true, and_self, and_true, true_and, decide_true, decide_false, lit23, hf] <;> rfl) ?_
      have w5 : IntKind.i64.wrap ((i : Int) + 1) = ((i + 1 : Nat) : Int) := by rw [wrap64_of (by omega) (by omega)]; simp
      refine region_run (id := 9) (by simp only [runL, List.drop_succ_cons, List.drop_zero, awant_some, Option.getD_some, List.getElem?_toArray, List.getElem?_cons_succ, List.getElem?_cons_zero, Option.bind_some, b_tt, b_tf, b_ft, b_ff, Bool.not_true, Bool.not_false, List.take_succ_cons, List.take_zero, awant_none, astep, evl, put, ap_none, ap_new, ap_wr, List.length_nil, List.length_cons, Nat.add_zero, Nat.zero_add, upd_app, stepBin, abin, stepUn, stepPick, stepExtract, stepCall, if_true, if_false, reduceCtorEq, ↓reduceIte, Nat.reduceEqDiff, Nat.reduceAdd, List.map_cons, List.map_nil, Option.map_some, Option.map_none, Bool.false_eq_true, Int.reduceLE, Int.reduceToNat, ne_eq, not_false_eq_true, and_self, and_true, true_and, decide_true, decide_false, t10, w5] <;> rfl) ?_
      have hrep : bs (q ++ [c + 128] ++ List.replicate (i - 1) 128) ++ [Value.int .u8 128] = bs (q ++ [c + 128] ++ List.replicate (i + 1 - 1) 128) := by
        obtain ⟨m, rfl⟩ : ∃ m, i = m + 1 := ⟨i - 1, by omega⟩
        simp only [Nat.add_sub_cancel, List.replicate_succ' (n := m)]
        simp [bs]
      rw [hrep] at hO'
      refine ⟨⟨i + 1, j', by omega, by omega, by simp [upd_app, t1], by simp [upd_app], by simp [upd_app, t8], by simpa [upd_app, Nat.add_assoc] using hO', fun x hx => ?_, fun x hx => ?_, by omega⟩, ?_⟩
      · have := hj' x hx
        rcases this.1 with h | h
        · have := hi' x h; omega
        · omega
      · rw [hk' x (by omega) (fun e => by have := hi' x e.symm; omega)]
        exact hgk x hx
      · rw [t10]
        simp only [upd_app, if_true, Int.toNat_natCast]
        omega
    · have d : decide ((i : Int) < (k : Int)) = false := by simp; omega
      have : i = k := by omega
      subst this
      refine w_assoc (s_run (by simp only [runL, List.drop_succ_cons, List.drop_zero, awant_some, Option.getD_some, List.getElem?_toArray, List.getElem?_cons_succ, List.getElem?_cons_zero, Option.bind_some, b_tt, b_tf, b_ft, b_ff, Bool.not_true, Bool.not_false, List.take_succ_cons, List.take_zero, awant_none, astep, evl, put, ap_none, ap_new, ap_wr, List.length_nil, List.length_cons, Nat.add_zero, Nat.zero_add, upd_app, stepBin, abin, stepUn, stepPick, stepExtract, stepCall, if_true, if_false, reduceCtorEq, ↓reduceIte, Nat.reduceEqDiff, Nat.reduceAdd, List.map_cons, List.map_nil, Option.map_some, Option.map_none, Bool.false_eq_true, Int.reduceLE, Int.reduceToNat, ne_eq, not_false_eq_true, and_self, and_true, true_and, decide_true, decide_false, t1, t10, d] <;> rfl) ?_)
      refine s_false (by simp [evl, upd_app]) (s_exit ?_)
      exact ⟨i', by simpa [upd_app] using t8, by simpa [upd_app] using hO, hi', hgk, hnn⟩
  · rintro t g n' ⟨i', t8, hO, hi', hgk, hnn⟩
    obtain ⟨f, j', hf, hO', hj', hk'⟩ := own_push (P := Try.prog) (n := n') (T := 23) (c := .int .u8 0) hO (fun x hx => (hi' x hx).2) Try.underlying23 tinf5 (by omega) (by omega)
    refine s_take 3 (by simp only [runL, List.drop_succ_cons, List.drop_zero, awant_some, Option.getD_some, List.getElem?_toArray, List.getElem?_cons_succ, List.getElem?_cons_zero, Option.bind_some, b_tt, b_tf, b_ft, b_ff, Bool.not_true, Bool.not_false, List.take_succ_cons, List.take_zero, awant_none, astep, evl, put, ap_none, ap_new, ap_wr, List.length_nil, List.length_cons, Nat.add_zero, Nat.zero_add, upd_app, stepBin, abin, stepUn, stepPick, stepExtract, stepCall, if_true, if_false, reduceCtorEq, ↓reduceIte, Nat.reduceEqDiff, Nat.reduceAdd, List.map_cons, List.map_nil, Option.map_some, Option.map_none, Bool.false_eq_true, Int.reduceLE, Int.reduceToNat, ne_eq, not_false_eq_true, and_self, and_true, true_and, decide_true, decide_false, lit23, hf] <;> rfl) (ops_heap fun G5 hG5 => ?_)
    rw [← hG5] at hO' hk'
    have hy : bs (q ++ [c + 128] ++ List.replicate (k - 1) 128) ++ [Value.int .u8 0] = bs (q ++ [c + 128] ++ List.replicate (k - 1) 128 ++ [0]) := by simp [bs]
    have hyl : q.length + k + 1 = (q ++ [c + 128] ++ List.replicate (k - 1) 128 ++ [0]).length := by simp; omega
    rw [hy, hyl] at hO'
    have hbig : ∀ x ∈ q ++ [c + 128] ++ List.replicate (k - 1) 128, 128 ≤ x ∧ x < 256 := fun x hx => by
      simp only [List.mem_append, List.mem_singleton, List.mem_replicate] at hx
      rcases hx with (h | h) | h
      · exact hq x h
      · omega
      · omega
    have hb5 : ∀ x ∈ q ++ [c + 128] ++ List.replicate (k - 1) 128 ++ [0], x < 256 := fun x hx => by
      rcases List.mem_append.1 hx with h | h
      · exact (hbig x h).2
      · simp at h; omega
    refine ops_call 17 _ rfl (get_spec f.v _ G5 (by rw [← hyl]; omega) (getD_256 hb5) hO'.toSrc) (by simp) ?_
    rw [vget_idle _ (fun x hx => (hbig x hx).1) (by simp)]
    refine ops_run (by simp only [runL, List.drop_succ_cons, List.drop_zero, awant_some, Option.getD_some, List.getElem?_toArray, List.getElem?_cons_succ, List.getElem?_cons_zero, Option.bind_some, b_tt, b_tf, b_ft, b_ff, Bool.not_true, Bool.not_false, List.take_succ_cons, List.take_zero, awant_none, astep, evl, put, ap_none, ap_new, ap_wr, List.length_nil, List.length_cons, Nat.add_zero, Nat.zero_add, upd_app, stepBin, abin, stepUn, stepPick, stepExtract, stepCall, if_true, if_false, reduceCtorEq, ↓reduceIte, Nat.reduceEqDiff, Nat.reduceAdd, List.map_cons, List.map_nil, Option.map_some, Option.map_none, Bool.false_eq_true, Int.reduceLE, Int.reduceToNat, ne_eq, not_false_eq_true, and_self, and_true, true_and, decide_true, decide_false, gres] <;> rfl) ?_
    refine s_take 7 (by simp only [runL, List.drop_succ_cons, List.drop_zero, awant_some, Option.getD_some, List.getElem?_toArray, List.getElem?_cons_succ, List.getElem?_cons_zero, Option.bind_some, b_tt, b_tf, b_ft, b_ff, Bool.not_true, Bool.not_false, List.take_succ_cons, List.take_zero, awant_none, astep, evl, put, ap_none, ap_new, ap_wr, List.length_nil, List.length_cons, Nat.add_zero, Nat.zero_add, upd_app, stepBin, abin, stepUn, stepPick, stepExtract, stepCall, if_true, if_false, reduceCtorEq, ↓reduceIte, Nat.reduceEqDiff, Nat.reduceAdd, List.map_cons, List.map_nil, Option.map_some, Option.map_none, Bool.false_eq_true, Int.reduceLE, Int.reduceToNat, ne_eq, not_false_eq_true, and_self, and_true, true_and, decide_true, decide_false, t8] <;> rfl) ?_
    refine g_call 19 _ (by simp only [runL, List.drop_succ_cons, List.drop_zero, awant_some, Option.getD_some, List.getElem?_toArray, List.getElem?_cons_succ, List.getElem?_cons_zero, Option.bind_some, b_tt, b_tf, b_ft, b_ff, Bool.not_true, Bool.not_false, List.take_succ_cons, List.take_zero, awant_none, astep, evl, put, ap_none, ap_new, ap_wr, List.length_nil, List.length_cons, Nat.add_zero, Nat.zero_add, upd_app, stepBin, abin, stepUn, stepPick, stepExtract, stepCall, if_true, if_false, reduceCtorEq, ↓reduceIte, Nat.reduceEqDiff, Nat.reduceAdd, List.map_cons, List.map_nil, Option.map_some, Option.map_none, Bool.false_eq_true, Int.reduceLE, Int.reduceToNat, ne_eq, not_false_eq_true, and_self, and_true, true_and, decide_true, decide_false] <;> rfl) rfl (known_spec _) (by simp) ?_
    refine ops_run (by simp only [runL, List.drop_succ_cons, List.drop_zero, awant_some, Option.getD_some, List.getElem?_toArray, List.getElem?_cons_succ, List.getElem?_cons_zero, Option.bind_some, b_tt, b_tf, b_ft, b_ff, Bool.not_true, Bool.not_false, List.take_succ_cons, List.take_zero, awant_none, astep, evl, put, ap_none, ap_new, ap_wr, List.length_nil, List.length_cons, Nat.add_zero, Nat.zero_add, upd_app, stepBin, abin, stepUn, stepPick, stepExtract, stepCall, if_true, if_false, reduceCtorEq, ↓reduceIte, Nat.reduceEqDiff, Nat.reduceAdd, List.map_cons, List.map_nil, Option.map_some, Option.map_none, Bool.false_eq_true, Int.reduceLE, Int.reduceToNat, ne_eq, not_false_eq_true, and_self, and_true, true_and, decide_true, decide_false] <;> rfl) ?_
    refine w_ret ⟨.inr rfl, by simp, [], fin_none ?_ trivial ?_⟩
    · simp [resVal, upd_app]
    · intro x b hb
      have := hs x (hwf x b hb).1
      show G5 x = some b
      rw [hk' x (by omega) (fun e => by have := hi' x e.symm; omega), hgk x this, hb]
end Go.Proofs.Ytokmmcfnpobldaa
