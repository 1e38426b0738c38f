import Derived.Test.YtahinegnblankaaP8
namespace Go.Proofs.Ytahinegnblankaa
open Go Abs
set_option linter.unusedSimpArgs false
set_option linter.unusedVariables false

/-- What Back's answer is good for. -/
theorem backE_use (o : Option (List Nat)) (r : List Nat) (j : Nat) (G : Heap) : ∃ v b, (backE o r j).v = .tuple #[v, .bool b] ∧ b = o.isSome ∧ Src ((backE o r j).ap G) v 1 (o.getD []).length (bs (o.getD [])) ∧ (∀ i ∈ srcBlk v, i < j + (backE o r j).a.length) ∧ Kp j G ((backE o r j).ap G) := by
  cases o with
  | none => exact ⟨_, _, rfl, rfl, .inl ⟨rfl, rfl, rfl⟩, by simp [srcBlk], Kp.refl _ _⟩
  | some b => exact ⟨_, _, rfl, rfl, src_bs (ro := false) (e := 5) (by simp [backE, ap_new, upd_app]) rfl, fun i hi => by have := srcBlk_own i hi; simp [backE]; omega, kp_ap (Kp.refl _ _) rfl (fun _ => Nat.le_refl _)⟩

theorem rbackE_use (o : Option (List Nat)) (r : List Nat) (j : Nat) (G : Heap) : ∃ v b, (rbackE o r j).v = .tuple #[v, .bool b] ∧ b = o.isSome ∧ Src ((rbackE o r j).ap G) v 1 (o.getD []).length (bs (o.getD [])) ∧ (∀ i ∈ srcBlk v, i < j + (rbackE o r j).a.length) ∧ Kp j G ((rbackE o r j).ap G) := by
  cases o with
  | none => exact ⟨_, _, rfl, rfl, .inl ⟨rfl, rfl, rfl⟩, by simp [srcBlk], Kp.refl _ _⟩
  | some b =>
    have hap : (rbackE (some b) r j).ap G = (newE 5 (bs b) r j).ap G := by simp [Eff.ap, rbackE, newE_w, newE_j]
    refine ⟨_, _, rfl, rfl, ?_, fun i hi => ?_, by rw [hap]; exact newE_kp (e := 5) (cs := bs b) (r := r) (j := j) (Kp.refl j G) (Nat.le_refl _)⟩
    · rw [hap]
      simpa using newE_src 5 (bs b) r j G
    · have h := newE_blk _ _ _ _ i hi
      show i < j + (newE 5 (bs b) r j).a.length
      omega

set_option maxRecDepth 10000 in
theorem lawRBacks_spec (v : Value) (l : List Int) (most : Int) (g : Heap) (hv : Src g v 1 l.length (l.map (Value.int .i64))) : FnSpec Try.prog 11 [v, .int .i64 most] g { v := .bool true, r := srcBlk v } := by
  refine spec_of_body [4] follows Try.func11 rfl (by kernel_rfl) (by simp [Try.f11]) (by kernel_rfl) rfl ?_
  intro g2 s2 n hg hfr hs hn hwf hsv
  have hv2 : Src g2 v 1 l.length (l.map (Value.int .i64)) := hv.congr fun i hi => hg i (by simp [Eff.fp, hi])
  have hlen := hv2.len Try.underlying22
  have hdom : ∀ i ∈ srcBlk v, i < n := fun i hi => by
    obtain ⟨b, hb⟩ := Option.isSome_iff_exists.1 (hv2.dom i hi)
    exact hs i (hwf i b hb).1
  refine s_run (by simp only [runL, List.drop_succ_cons, List.drop_zero, awant_some, Option.getD_some, List.getElem?_toArray, List.getElem?_cons_succ, List.getElem?_cons_zero, Option.bind_some, b_tt, b_tf, b_ft, b_ff, Bool.not_true, Bool.not_false, List.take_succ_cons, List.take_zero, awant_none, astep, evl, put, ap_none, ap_new, ap_wr, List.length_nil, List.length_cons, Nat.add_zero, Nat.zero_add, upd_app, stepBin, abin, stepUn, stepPick, stepExtract, stepCall, if_true, if_false, reduceCtorEq, ↓reduceIte, Nat.reduceEqDiff, Nat.reduceAdd, List.map_cons, List.map_nil, Option.map_some, Option.map_none, Bool.false_eq_true, Int.reduceLE, Int.reduceToNat, ne_eq, not_false_eq_true, and_self, and_true, true_and, decide_true, decide_false, Int.reduceEq, Int.reduceLT, Int.reduceBEq, Int.reduceBNe, not_true_eq_false, undef] <;> rfl) ?_
  by_cases ea1 : (l.length : Int) > 100
  · have ed1 : (decide ((l.length : Int) > 100)) = true := decide_eq_true ea1
    refine w_assoc (s_run (by simp only [runL, List.drop_succ_cons, List.drop_zero, awant_some, Option.getD_some, List.getElem?_toArray, List.getElem?_cons_succ, List.getElem?_cons_zero, Option.bind_some, b_tt, b_tf, b_ft, b_ff, Bool.not_true, Bool.not_false, List.take_succ_cons, List.take_zero, awant_none, astep, evl, put, ap_none, ap_new, ap_wr, List.length_nil, List.length_cons, Nat.add_zero, Nat.zero_add, upd_app, stepBin, abin, stepUn, stepPick, stepExtract, stepCall, if_true, if_false, reduceCtorEq, ↓reduceIte, Nat.reduceEqDiff, Nat.reduceAdd, List.map_cons, List.map_nil, Option.map_some, Option.map_none, Bool.false_eq_true, Int.reduceLE, Int.reduceToNat, ne_eq, not_false_eq_true, and_self, and_true, true_and, decide_true, decide_false, Int.reduceEq, Int.reduceLT, Int.reduceBEq, Int.reduceBNe, not_true_eq_false, undef, hlen, ed1] <;> rfl) ?_)
    refine s_true (by simp [evl, upd_app]) (w_assoc (s_run (by simp only [runL, List.drop_succ_cons, List.drop_zero, awant_some, Option.getD_some, List.getElem?_toArray, List.getElem?_cons_succ, List.getElem?_cons_zero, Option.bind_some, b_tt, b_tf, b_ft, b_ff, Bool.not_true, Bool.not_false, List.take_succ_cons, List.take_zero, awant_none, astep, evl, put, ap_none, ap_new, ap_wr, List.length_nil, List.length_cons, Nat.add_zero, Nat.zero_add, upd_app, stepBin, abin, stepUn, stepPick, stepExtract, stepCall, if_true, if_false, reduceCtorEq, ↓reduceIte, Nat.reduceEqDiff, Nat.reduceAdd, List.map_cons, List.map_nil, Option.map_some, Option.map_none, Bool.false_eq_true, Int.reduceLE, Int.reduceToNat, ne_eq, not_false_eq_true, and_self, and_true, true_and, decide_true, decide_false, Int.reduceEq, Int.reduceLT, Int.reduceBEq, Int.reduceBNe, not_true_eq_false, undef] <;> rfl) ?_))
    refine s_ret ⟨.inr rfl, by simp, [], fin_none ?_ trivial (fun _ _ h => h)⟩
    simp [resVal, upd_app]
  have ed1 : (decide ((l.length : Int) > 100)) = false := decide_eq_false ea1
  by_cases ea2 : most > 5000
  · have ed2 : (decide (most > 5000)) = true := decide_eq_true ea2
    refine w_assoc (s_run (by simp only [runL, List.drop_succ_cons, List.drop_zero, awant_some, Option.getD_some, List.getElem?_toArray, List.getElem?_cons_succ, List.getElem?_cons_zero, Option.bind_some, b_tt, b_tf, b_ft, b_ff, Bool.not_true, Bool.not_false, List.take_succ_cons, List.take_zero, awant_none, astep, evl, put, ap_none, ap_new, ap_wr, List.length_nil, List.length_cons, Nat.add_zero, Nat.zero_add, upd_app, stepBin, abin, stepUn, stepPick, stepExtract, stepCall, if_true, if_false, reduceCtorEq, ↓reduceIte, Nat.reduceEqDiff, Nat.reduceAdd, List.map_cons, List.map_nil, Option.map_some, Option.map_none, Bool.false_eq_true, Int.reduceLE, Int.reduceToNat, ne_eq, not_false_eq_true, and_self, and_true, true_and, decide_true, decide_false, Int.reduceEq, Int.reduceLT, Int.reduceBEq, Int.reduceBNe, not_true_eq_false, undef, hlen, ed1, ed2] <;> rfl) ?_)
    refine s_true (by simp [evl, upd_app]) (w_assoc (s_run (by simp only [runL, List.drop_succ_cons, List.drop_zero, awant_some, Option.getD_some, List.getElem?_toArray, List.getElem?_cons_succ, List.getElem?_cons_zero, Option.bind_some, b_tt, b_tf, b_ft, b_ff, Bool.not_true, Bool.not_false, List.take_succ_cons, List.take_zero, awant_none, astep, evl, put, ap_none, ap_new, ap_wr, List.length_nil, List.length_cons, Nat.add_zero, Nat.zero_add, upd_app, stepBin, abin, stepUn, stepPick, stepExtract, stepCall, if_true, if_false, reduceCtorEq, ↓reduceIte, Nat.reduceEqDiff, Nat.reduceAdd, List.map_cons, List.map_nil, Option.map_some, Option.map_none, Bool.false_eq_true, Int.reduceLE, Int.reduceToNat, ne_eq, not_false_eq_true, and_self, and_true, true_and, decide_true, decide_false, Int.reduceEq, Int.reduceLT, Int.reduceBEq, Int.reduceBNe, not_true_eq_false, undef] <;> rfl) ?_))
    refine s_ret ⟨.inr rfl, by simp, [], fin_none ?_ trivial (fun _ _ h => h)⟩
    simp [resVal, upd_app]
  have ed2 : (decide (most > 5000)) = false := decide_eq_false ea2
  refine w_assoc (s_run (by simp only [runL, List.drop_succ_cons, List.drop_zero, awant_some, Option.getD_some, List.getElem?_toArray, List.getElem?_cons_succ, List.getElem?_cons_zero, Option.bind_some, b_tt, b_tf, b_ft, b_ff, Bool.not_true, Bool.not_false, List.take_succ_cons, List.take_zero, awant_none, astep, evl, put, ap_none, ap_new, ap_wr, List.length_nil, List.length_cons, Nat.add_zero, Nat.zero_add, upd_app, stepBin, abin, stepUn, stepPick, stepExtract, stepCall, if_true, if_false, reduceCtorEq, ↓reduceIte, Nat.reduceEqDiff, Nat.reduceAdd, List.map_cons, List.map_nil, Option.map_some, Option.map_none, Bool.false_eq_true, Int.reduceLE, Int.reduceToNat, ne_eq, not_false_eq_true, and_self, and_true, true_and, decide_true, decide_false, Int.reduceEq, Int.reduceLT, Int.reduceBEq, Int.reduceBNe, not_true_eq_false, undef, hlen, ed1, ed2] <;> rfl) ?_)
  refine s_false (by simp [evl, upd_app]) (s_skip ?_)
  refine w_gen (fun t => t 0 = v ∧ t 1 = .int .i64 most) (by simp [upd_app]) ?_
  rintro t ⟨t0, t1⟩
  have kz : Kp n g2 (upd g2 n (some ⟨false, 3, []⟩)) := kp_upd (Kp.refl _ _) (Nat.le_refl _)
  have hz : OwnB 3 (upd g2 n (some ⟨false, 3, []⟩)) (.slice (some ⟨n, 0, some 0⟩) 0 1) [] n := ⟨rfl, by simp⟩
  obtain ⟨f, hf, hfa, hO, hk⟩ := hz.append (P := Try.prog) (T := 22) (j := n + 1) (y := v) (news := l.map (Value.int .i64)) (by simpa using kz.src hv2 hdom) Try.underlying22 tinf3 (by simp; omega) (by omega)
  rw [List.nil_append] at hO
  refine s_take 4 (by simp only [runL, List.drop_succ_cons, List.drop_zero, awant_some, Option.getD_some, List.getElem?_toArray, List.getElem?_cons_succ, List.getElem?_cons_zero, Option.bind_some, b_tt, b_tf, b_ft, b_ff, Bool.not_true, Bool.not_false, List.take_succ_cons, List.take_zero, awant_none, astep, evl, put, ap_none, ap_new, ap_wr, List.length_nil, List.length_cons, Nat.add_zero, Nat.zero_add, upd_app, stepBin, abin, stepUn, stepPick, stepExtract, stepCall, if_true, if_false, reduceCtorEq, ↓reduceIte, Nat.reduceEqDiff, Nat.reduceAdd, List.map_cons, List.map_nil, Option.map_some, Option.map_none, Bool.false_eq_true, Int.reduceLE, Int.reduceToNat, ne_eq, not_false_eq_true, and_self, and_true, true_and, decide_true, decide_false, Int.reduceEq, Int.reduceLT, Int.reduceBEq, Int.reduceBNe, not_true_eq_false, undef, t0, t1, lit22_0, hf] <;> rfl) (ops_heap fun G1 hG1 => ?_)
  rw [← hG1] at hO
  have k1 : Kp n g2 G1 := fun i hi => by rw [hG1, hk i (by omega), upd_ne _ _ (by omega)]
  simp only [hfa, List.length_nil, Nat.add_zero]
  refine ops_call 37 _ rfl (back_spec f.v l most G1 (n + 1) (by omega) (by omega) (by simpa using hO.src)) (by intro _; rw [backE_j]) (ops_heap fun G2 hG2 => ops_num fun N2 hN2 => ?_)
  obtain ⟨x, ok, e1, e2, e3, e4, e5⟩ := backE_use (if most < 0 then none else rback l most.toNat [] 1) (srcBlk f.v) (n + 1) G1
  rw [← hG2] at e3 e5
  rw [e1]
  rw [← hN2] at e4
  have hN2' : n + 1 ≤ N2 := by omega
  clear hN2
  refine ops_run (by simp only [runL, List.drop_succ_cons, List.drop_zero, awant_some, Option.getD_some, List.getElem?_toArray, List.getElem?_cons_succ, List.getElem?_cons_zero, Option.bind_some, b_tt, b_tf, b_ft, b_ff, Bool.not_true, Bool.not_false, List.take_succ_cons, List.take_zero, awant_none, astep, evl, put, ap_none, ap_new, ap_wr, List.length_nil, List.length_cons, Nat.add_zero, Nat.zero_add, upd_app, stepBin, abin, stepUn, stepPick, stepExtract, stepCall, if_true, if_false, reduceCtorEq, ↓reduceIte, Nat.reduceEqDiff, Nat.reduceAdd, List.map_cons, List.map_nil, Option.map_some, Option.map_none, Bool.false_eq_true, Int.reduceLE, Int.reduceToNat, ne_eq, not_false_eq_true, and_self, and_true, true_and, decide_true, decide_false, Int.reduceEq, Int.reduceLT, Int.reduceBEq, Int.reduceBNe, not_true_eq_false, undef] <;> rfl) ?_
  refine w_gen (fun t => t 0 = v ∧ t 1 = .int .i64 most ∧ t 5 = x ∧ t 6 = .bool ok) (by simp [upd_app, put, t0, t1]) ?_
  clear t0 t1
  rintro t ⟨t0, t1, t5, t6⟩
  refine s_take 2 (by simp only [runL, List.drop_succ_cons, List.drop_zero, awant_some, Option.getD_some, List.getElem?_toArray, List.getElem?_cons_succ, List.getElem?_cons_zero, Option.bind_some, b_tt, b_tf, b_ft, b_ff, Bool.not_true, Bool.not_false, List.take_succ_cons, List.take_zero, awant_none, astep, evl, put, ap_none, ap_new, ap_wr, List.length_nil, List.length_cons, Nat.add_zero, Nat.zero_add, upd_app, stepBin, abin, stepUn, stepPick, stepExtract, stepCall, if_true, if_false, reduceCtorEq, ↓reduceIte, Nat.reduceEqDiff, Nat.reduceAdd, List.map_cons, List.map_nil, Option.map_some, Option.map_none, Bool.false_eq_true, Int.reduceLE, Int.reduceToNat, ne_eq, not_false_eq_true, and_self, and_true, true_and, decide_true, decide_false, Int.reduceEq, Int.reduceLT, Int.reduceBEq, Int.reduceBNe, not_true_eq_false, undef, t0, t1] <;> rfl) ?_
  have k2 : Kp n g2 G2 := k1.trans e5 (by omega)
  refine ops_call 40 _ rfl (refback_spec v l most G2 N2 (by omega) (by omega) (k2.src hv2 hdom)) (by intro _; rw [rbackE_j]) (ops_heap fun G3 hG3 => ops_num fun N3 hN3 => ?_)
  obtain ⟨y, is, q1, q2, q3, q4, q5⟩ := rbackE_use (if most < 0 then none else rback l most.toNat [] 1) (srcBlk v) N2 G2
  rw [← hG3] at q3 q5
  rw [q1]
  refine ops_run (by simp only [runL, List.drop_succ_cons, List.drop_zero, awant_some, Option.getD_some, List.getElem?_toArray, List.getElem?_cons_succ, List.getElem?_cons_zero, Option.bind_some, b_tt, b_tf, b_ft, b_ff, Bool.not_true, Bool.not_false, List.take_succ_cons, List.take_zero, awant_none, astep, evl, put, ap_none, ap_new, ap_wr, List.length_nil, List.length_cons, Nat.add_zero, Nat.zero_add, upd_app, stepBin, abin, stepUn, stepPick, stepExtract, stepCall, if_true, if_false, reduceCtorEq, ↓reduceIte, Nat.reduceEqDiff, Nat.reduceAdd, List.map_cons, List.map_nil, Option.map_some, Option.map_none, Bool.false_eq_true, Int.reduceLE, Int.reduceToNat, ne_eq, not_false_eq_true, and_self, and_true, true_and, decide_true, decide_false, Int.reduceEq, Int.reduceLT, Int.reduceBEq, Int.reduceBNe, not_true_eq_false, undef] <;> rfl) ?_
  refine w_gen (fun t => t 5 = x ∧ t 6 = .bool ok ∧ t 7 = y ∧ t 8 = .bool ok) (by simp [upd_app, put, t5, t6, e2, q2]) ?_
  clear t0 t1 t5 t6
  rintro t ⟨t5, t6, t7, t8⟩
  obtain ⟨r1, x1, _⟩ := src_str (q5.src e3 e4)
  obtain ⟨r2, x2, _⟩ := src_str q3
  refine s_take 11 (by simp only [runL, List.drop_succ_cons, List.drop_zero, awant_some, Option.getD_some, List.getElem?_toArray, List.getElem?_cons_succ, List.getElem?_cons_zero, Option.bind_some, b_tt, b_tf, b_ft, b_ff, Bool.not_true, Bool.not_false, List.take_succ_cons, List.take_zero, awant_none, astep, evl, put, ap_none, ap_new, ap_wr, List.length_nil, List.length_cons, Nat.add_zero, Nat.zero_add, upd_app, stepBin, abin, stepUn, stepPick, stepExtract, stepCall, if_true, if_false, reduceCtorEq, ↓reduceIte, Nat.reduceEqDiff, Nat.reduceAdd, List.map_cons, List.map_nil, Option.map_some, Option.map_none, Bool.false_eq_true, Int.reduceLE, Int.reduceToNat, ne_eq, not_false_eq_true, and_self, and_true, true_and, decide_true, decide_false, Int.reduceEq, Int.reduceLT, Int.reduceBEq, Int.reduceBNe, not_true_eq_false, undef, t5, t6, t7, t8, x1, x2, Try.underlying4, beq_self_eq_true] <;> rfl) ?_
  refine g_call 25 _ (by simp only [runL, List.drop_succ_cons, List.drop_zero, awant_some, Option.getD_some, List.getElem?_toArray, List.getElem?_cons_succ, List.getElem?_cons_zero, Option.bind_some, b_tt, b_tf, b_ft, b_ff, Bool.not_true, Bool.not_false, List.take_succ_cons, List.take_zero, awant_none, astep, evl, put, ap_none, ap_new, ap_wr, List.length_nil, List.length_cons, Nat.add_zero, Nat.zero_add, upd_app, stepBin, abin, stepUn, stepPick, stepExtract, stepCall, if_true, if_false, reduceCtorEq, ↓reduceIte, Nat.reduceEqDiff, Nat.reduceAdd, List.map_cons, List.map_nil, Option.map_some, Option.map_none, Bool.false_eq_true, Int.reduceLE, Int.reduceToNat, ne_eq, not_false_eq_true, and_self, and_true, true_and, decide_true, decide_false, Int.reduceEq, Int.reduceLT, Int.reduceBEq, Int.reduceBNe, not_true_eq_false, undef] <;> rfl) rfl (rknown_spec _) (by simp) ?_
  refine ops_run (by simp only [runL, List.drop_succ_cons, List.drop_zero, awant_some, Option.getD_some, List.getElem?_toArray, List.getElem?_cons_succ, List.getElem?_cons_zero, Option.bind_some, b_tt, b_tf, b_ft, b_ff, Bool.not_true, Bool.not_false, List.take_succ_cons, List.take_zero, awant_none, astep, evl, put, ap_none, ap_new, ap_wr, List.length_nil, List.length_cons, Nat.add_zero, Nat.zero_add, upd_app, stepBin, abin, stepUn, stepPick, stepExtract, stepCall, if_true, if_false, reduceCtorEq, ↓reduceIte, Nat.reduceEqDiff, Nat.reduceAdd, List.map_cons, List.map_nil, Option.map_some, Option.map_none, Bool.false_eq_true, Int.reduceLE, Int.reduceToNat, ne_eq, not_false_eq_true, and_self, and_true, true_and, decide_true, decide_false, Int.reduceEq, Int.reduceLT, Int.reduceBEq, Int.reduceBNe, not_true_eq_false, undef] <;> rfl) ?_
  refine w_ret ⟨.inr rfl, by simp, [], fin_plain hs hwf (k2.trans q5 (by omega)) ?_ trivial⟩
  simp [resVal, upd_app]

set_option maxRecDepth 10000 in
theorem lawRTells_spec (v : Value) (l : List Nat) (g : Heap) (hb : ∀ x ∈ l, x < 256) (hv : Src g v 1 l.length (bs l)) : FnSpec Try.prog 10 [v] g { v := .bool true, r := srcBlk v } := by
  refine spec_of_body [2] follows Try.func10 rfl (by kernel_rfl) (by simp [Try.f10]) (by kernel_rfl) rfl ?_
  intro g2 s2 n hg hfr hs hn hwf hsv
  have hv2 : Src g2 v 1 l.length (bs l) := hv.congr fun i hi => hg i (by simp [Eff.fp, hi])
  have hlen := hv2.len Try.underlying24
  have hdom : ∀ i ∈ srcBlk v, i < n := fun i hi => by
    obtain ⟨b, hb⟩ := Option.isSome_iff_exists.1 (hv2.dom i hi)
    exact hs i (hwf i b hb).1
  refine s_run (by simp only [runL, List.drop_succ_cons, List.drop_zero, awant_some, Option.getD_some, List.getElem?_toArray, List.getElem?_cons_succ, List.getElem?_cons_zero, Option.bind_some, b_tt, b_tf, b_ft, b_ff, Bool.not_true, Bool.not_false, List.take_succ_cons, List.take_zero, awant_none, astep, evl, put, ap_none, ap_new, ap_wr, List.length_nil, List.length_cons, Nat.add_zero, Nat.zero_add, upd_app, stepBin, abin, stepUn, stepPick, stepExtract, stepCall, if_true, if_false, reduceCtorEq, ↓reduceIte, Nat.reduceEqDiff, Nat.reduceAdd, List.map_cons, List.map_nil, Option.map_some, Option.map_none, Bool.false_eq_true, Int.reduceLE, Int.reduceToNat, ne_eq, not_false_eq_true, and_self, and_true, true_and, decide_true, decide_false, Int.reduceEq, Int.reduceLT, Int.reduceBEq, Int.reduceBNe, not_true_eq_false, undef] <;> rfl) ?_
  by_cases ea1 : (l.length : Int) > 500
  · have ed1 : (decide ((l.length : Int) > 500)) = true := decide_eq_true ea1
    refine w_assoc (s_run (by simp only [runL, List.drop_succ_cons, List.drop_zero, awant_some, Option.getD_some, List.getElem?_toArray, List.getElem?_cons_succ, List.getElem?_cons_zero, Option.bind_some, b_tt, b_tf, b_ft, b_ff, Bool.not_true, Bool.not_false, List.take_succ_cons, List.take_zero, awant_none, astep, evl, put, ap_none, ap_new, ap_wr, List.length_nil, List.length_cons, Nat.add_zero, Nat.zero_add, upd_app, stepBin, abin, stepUn, stepPick, stepExtract, stepCall, if_true, if_false, reduceCtorEq, ↓reduceIte, Nat.reduceEqDiff, Nat.reduceAdd, List.map_cons, List.map_nil, Option.map_some, Option.map_none, Bool.false_eq_true, Int.reduceLE, Int.reduceToNat, ne_eq, not_false_eq_true, and_self, and_true, true_and, decide_true, decide_false, Int.reduceEq, Int.reduceLT, Int.reduceBEq, Int.reduceBNe, not_true_eq_false, undef, hlen, ed1] <;> rfl) ?_)
    refine s_true (by simp [evl, upd_app]) (w_assoc (s_run (by simp only [runL, List.drop_succ_cons, List.drop_zero, awant_some, Option.getD_some, List.getElem?_toArray, List.getElem?_cons_succ, List.getElem?_cons_zero, Option.bind_some, b_tt, b_tf, b_ft, b_ff, Bool.not_true, Bool.not_false, List.take_succ_cons, List.take_zero, awant_none, astep, evl, put, ap_none, ap_new, ap_wr, List.length_nil, List.length_cons, Nat.add_zero, Nat.zero_add, upd_app, stepBin, abin, stepUn, stepPick, stepExtract, stepCall, if_true, if_false, reduceCtorEq, ↓reduceIte, Nat.reduceEqDiff, Nat.reduceAdd, List.map_cons, List.map_nil, Option.map_some, Option.map_none, Bool.false_eq_true, Int.reduceLE, Int.reduceToNat, ne_eq, not_false_eq_true, and_self, and_true, true_and, decide_true, decide_false, Int.reduceEq, Int.reduceLT, Int.reduceBEq, Int.reduceBNe, not_true_eq_false, undef] <;> rfl) ?_))
    refine s_ret ⟨.inr rfl, by simp, [], fin_none ?_ trivial (fun _ _ h => h)⟩
    simp [resVal, upd_app]
  have ed1 : (decide ((l.length : Int) > 500)) = false := decide_eq_false ea1
  refine w_assoc (s_run (by simp only [runL, List.drop_succ_cons, List.drop_zero, awant_some, Option.getD_some, List.getElem?_toArray, List.getElem?_cons_succ, List.getElem?_cons_zero, Option.bind_some, b_tt, b_tf, b_ft, b_ff, Bool.not_true, Bool.not_false, List.take_succ_cons, List.take_zero, awant_none, astep, evl, put, ap_none, ap_new, ap_wr, List.length_nil, List.length_cons, Nat.add_zero, Nat.zero_add, upd_app, stepBin, abin, stepUn, stepPick, stepExtract, stepCall, if_true, if_false, reduceCtorEq, ↓reduceIte, Nat.reduceEqDiff, Nat.reduceAdd, List.map_cons, List.map_nil, Option.map_some, Option.map_none, Bool.false_eq_true, Int.reduceLE, Int.reduceToNat, ne_eq, not_false_eq_true, and_self, and_true, true_and, decide_true, decide_false, Int.reduceEq, Int.reduceLT, Int.reduceBEq, Int.reduceBNe, not_true_eq_false, undef, hlen, ed1] <;> rfl) ?_)
  refine s_false (by simp [evl, upd_app]) (s_skip ?_)
  refine w_gen (fun t => t 0 = v) (by simp [upd_app]) ?_
  intro t t0
  refine s_take 1 (by simp only [runL, List.drop_succ_cons, List.drop_zero, awant_some, Option.getD_some, List.getElem?_toArray, List.getElem?_cons_succ, List.getElem?_cons_zero, Option.bind_some, b_tt, b_tf, b_ft, b_ff, Bool.not_true, Bool.not_false, List.take_succ_cons, List.take_zero, awant_none, astep, evl, put, ap_none, ap_new, ap_wr, List.length_nil, List.length_cons, Nat.add_zero, Nat.zero_add, upd_app, stepBin, abin, stepUn, stepPick, stepExtract, stepCall, if_true, if_false, reduceCtorEq, ↓reduceIte, Nat.reduceEqDiff, Nat.reduceAdd, List.map_cons, List.map_nil, Option.map_some, Option.map_none, Bool.false_eq_true, Int.reduceLE, Int.reduceToNat, ne_eq, not_false_eq_true, and_self, and_true, true_and, decide_true, decide_false, Int.reduceEq, Int.reduceLT, Int.reduceBEq, Int.reduceBNe, not_true_eq_false, undef, t0] <;> rfl) ?_
  refine ops_call 24 _ rfl (tell_spec v l g2 n (by omega) hb hv2) (by intro _; rw [newE_j]) (ops_heap fun G1 hG1 => ops_num fun N1 hN1 => ?_)
  have k1 : Kp n g2 G1 := by rw [hG1]; exact newE_kp (Kp.refl _ _) (Nat.le_refl _)
  have s1 := newE_src 3 (ints (tell l 0)) (srcBlk v) n g2
  have b1 : ∀ i ∈ srcBlk (newE 3 (ints (tell l 0)) (srcBlk v) n).v, i < N1 := fun i hi => by have := newE_blk _ _ _ _ i hi; omega
  rw [← hG1] at s1
  generalize (newE 3 (ints (tell l 0)) (srcBlk v) n).v = u1 at s1 b1 ⊢
  have hN1' : n ≤ N1 := by omega
  clear hN1 hG1
  have hT := tell_len l 0
  have s1' : Src G1 u1 1 (zs (tell l 0)).length ((zs (tell l 0)).map (Value.int .i64)) := src_intsI s1
  refine ops_run (by simp only [runL, List.drop_succ_cons, List.drop_zero, awant_some, Option.getD_some, List.getElem?_toArray, List.getElem?_cons_succ, List.getElem?_cons_zero, Option.bind_some, b_tt, b_tf, b_ft, b_ff, Bool.not_true, Bool.not_false, List.take_succ_cons, List.take_zero, awant_none, astep, evl, put, ap_none, ap_new, ap_wr, List.length_nil, List.length_cons, Nat.add_zero, Nat.zero_add, upd_app, stepBin, abin, stepUn, stepPick, stepExtract, stepCall, if_true, if_false, reduceCtorEq, ↓reduceIte, Nat.reduceEqDiff, Nat.reduceAdd, List.map_cons, List.map_nil, Option.map_some, Option.map_none, Bool.false_eq_true, Int.reduceLE, Int.reduceToNat, ne_eq, not_false_eq_true, and_self, and_true, true_and, decide_true, decide_false, Int.reduceEq, Int.reduceLT, Int.reduceBEq, Int.reduceBNe, not_true_eq_false, undef] <;> rfl) ?_
  refine w_gen (fun t => t 0 = v ∧ t 3 = u1) (by simp [upd_app, put, t0]) ?_
  clear t0
  rintro t ⟨t0, t3⟩
  refine s_take 3 (by simp only [runL, List.drop_succ_cons, List.drop_zero, awant_some, Option.getD_some, List.getElem?_toArray, List.getElem?_cons_succ, List.getElem?_cons_zero, Option.bind_some, b_tt, b_tf, b_ft, b_ff, Bool.not_true, Bool.not_false, List.take_succ_cons, List.take_zero, awant_none, astep, evl, put, ap_none, ap_new, ap_wr, List.length_nil, List.length_cons, Nat.add_zero, Nat.zero_add, upd_app, stepBin, abin, stepUn, stepPick, stepExtract, stepCall, if_true, if_false, reduceCtorEq, ↓reduceIte, Nat.reduceEqDiff, Nat.reduceAdd, List.map_cons, List.map_nil, Option.map_some, Option.map_none, Bool.false_eq_true, Int.reduceLE, Int.reduceToNat, ne_eq, not_false_eq_true, and_self, and_true, true_and, decide_true, decide_false, Int.reduceEq, Int.reduceLT, Int.reduceBEq, Int.reduceBNe, not_true_eq_false, undef, t0, t3, hlen] <;> rfl) ?_
  have hb1 := back_spec u1 (zs (tell l 0)) (l.length : Int) G1 N1 (by simp; omega) (by omega) s1'
  have hv0 : (if (l.length : Int) < 0 then none else rback (zs (tell l 0)) (l.length : Int).toNat [] 1) = some l := by
    rw [if_neg (by omega), Int.toNat_natCast, rback_tell l [] 0 hb (by simp)]
    simp
  rw [hv0] at hb1
  refine ops_call 37 _ rfl hb1 (by intro _; rfl) (ops_heap fun G2 hG2 => ?_)
  have k2 : Kp N1 G1 G2 := by rw [hG2]; exact kp_ap (Kp.refl _ _) (backE_w _ _ _) (fun _ => Nat.le_refl _)
  have g2n : G2 N1 = some ⟨false, 5, bs l⟩ := by rw [hG2]; simp [backE, ap_new, upd_app]
  refine ops_run (by simp only [runL, List.drop_succ_cons, List.drop_zero, awant_some, Option.getD_some, List.getElem?_toArray, List.getElem?_cons_succ, List.getElem?_cons_zero, Option.bind_some, b_tt, b_tf, b_ft, b_ff, Bool.not_true, Bool.not_false, List.take_succ_cons, List.take_zero, awant_none, astep, evl, put, ap_none, ap_new, ap_wr, List.length_nil, List.length_cons, Nat.add_zero, Nat.zero_add, upd_app, stepBin, abin, stepUn, stepPick, stepExtract, stepCall, if_true, if_false, reduceCtorEq, ↓reduceIte, Nat.reduceEqDiff, Nat.reduceAdd, List.map_cons, List.map_nil, Option.map_some, Option.map_none, Bool.false_eq_true, Int.reduceLE, Int.reduceToNat, ne_eq, not_false_eq_true, and_self, and_true, true_and, decide_true, decide_false, Int.reduceEq, Int.reduceLT, Int.reduceBEq, Int.reduceBNe, not_true_eq_false, undef, backE] <;> rfl) ?_
  refine w_gen (fun t => t 0 = v ∧ t 3 = u1 ∧ t 4 = .slice (some ⟨N1, 0, some l.length⟩) l.length 1 ∧ t 5 = .bool true) (by simp [upd_app, put, t0, t3]) ?_
  clear t0 t3
  rintro t ⟨t0, t3, t4, t5⟩
  have s2' := k2.src s1' b1
  have w1 : IntKind.i64.wrap ((l.length : Int) - 1) = (l.length : Int) - 1 := wrap64_of (by omega) (by omega)
  refine s_take 4 (by simp only [runL, List.drop_succ_cons, List.drop_zero, awant_some, Option.getD_some, List.getElem?_toArray, List.getElem?_cons_succ, List.getElem?_cons_zero, Option.bind_some, b_tt, b_tf, b_ft, b_ff, Bool.not_true, Bool.not_false, List.take_succ_cons, List.take_zero, awant_none, astep, evl, put, ap_none, ap_new, ap_wr, List.length_nil, List.length_cons, Nat.add_zero, Nat.zero_add, upd_app, stepBin, abin, stepUn, stepPick, stepExtract, stepCall, if_true, if_false, reduceCtorEq, ↓reduceIte, Nat.reduceEqDiff, Nat.reduceAdd, List.map_cons, List.map_nil, Option.map_some, Option.map_none, Bool.false_eq_true, Int.reduceLE, Int.reduceToNat, ne_eq, not_false_eq_true, and_self, and_true, true_and, decide_true, decide_false, Int.reduceEq, Int.reduceLT, Int.reduceBEq, Int.reduceBNe, not_true_eq_false, undef, t0, t3, hlen, w1] <;> rfl) ?_
  have hb2 := back_spec u1 (zs (tell l 0)) ((l.length : Int) - 1) G2 (N1 + 1) (by simp; omega) (by omega) s2'
  have hv1 : (if (l.length : Int) - 1 < 0 then none else rback (zs (tell l 0)) ((l.length : Int) - 1).toNat [] 1) = none := by
    by_cases h : (l.length : Int) - 1 < 0
    · rw [if_pos h]
    · rw [if_neg h, rback_tell l [] 0 hb (by simp), if_pos (by simp; omega)]
  rw [hv1] at hb2
  refine ops_call 37 _ rfl hb2 (by intro h; exact (h rfl).elim) ?_
  refine ops_run (by simp only [runL, List.drop_succ_cons, List.drop_zero, awant_some, Option.getD_some, List.getElem?_toArray, List.getElem?_cons_succ, List.getElem?_cons_zero, Option.bind_some, b_tt, b_tf, b_ft, b_ff, Bool.not_true, Bool.not_false, List.take_succ_cons, List.take_zero, awant_none, astep, evl, put, ap_none, ap_new, ap_wr, List.length_nil, List.length_cons, Nat.add_zero, Nat.zero_add, upd_app, stepBin, abin, stepUn, stepPick, stepExtract, stepCall, if_true, if_false, reduceCtorEq, ↓reduceIte, Nat.reduceEqDiff, Nat.reduceAdd, List.map_cons, List.map_nil, Option.map_some, Option.map_none, Bool.false_eq_true, Int.reduceLE, Int.reduceToNat, ne_eq, not_false_eq_true, and_self, and_true, true_and, decide_true, decide_false, Int.reduceEq, Int.reduceLT, Int.reduceBEq, Int.reduceBNe, not_true_eq_false, undef, backE] <;> rfl) ?_
  refine w_gen (fun t => t 0 = v ∧ t 3 = u1 ∧ t 4 = .slice (some ⟨N1, 0, some l.length⟩) l.length 1 ∧ t 5 = .bool true ∧ t 7 = .bool false) (by simp [upd_app, put, t0, t3, t4, t5]) ?_
  clear t0 t3 t4 t5
  rintro t ⟨t0, t3, t4, t5, t7⟩
  have kk2 : Kp n g2 G2 := k1.trans k2 (by omega)
  refine s_take 2 (by simp only [runL, List.drop_succ_cons, List.drop_zero, awant_some, Option.getD_some, List.getElem?_toArray, List.getElem?_cons_succ, List.getElem?_cons_zero, Option.bind_some, b_tt, b_tf, b_ft, b_ff, Bool.not_true, Bool.not_false, List.take_succ_cons, List.take_zero, awant_none, astep, evl, put, ap_none, ap_new, ap_wr, List.length_nil, List.length_cons, Nat.add_zero, Nat.zero_add, upd_app, stepBin, abin, stepUn, stepPick, stepExtract, stepCall, if_true, if_false, reduceCtorEq, ↓reduceIte, Nat.reduceEqDiff, Nat.reduceAdd, List.map_cons, List.map_nil, Option.map_some, Option.map_none, Bool.false_eq_true, Int.reduceLE, Int.reduceToNat, ne_eq, not_false_eq_true, and_self, and_true, true_and, decide_true, decide_false, Int.reduceEq, Int.reduceLT, Int.reduceBEq, Int.reduceBNe, not_true_eq_false, undef, t0, t3] <;> rfl) ?_
  refine ops_call 39 _ rfl (rtell_spec v l G2 (N1 + 1) (by omega) hb (kk2.src hv2 hdom)) (by intro _; rw [newE_j]) (ops_heap fun G3 hG3 => ops_num fun N3 hN3 => ?_)
  have k3 : Kp (N1 + 1) G2 G3 := by rw [hG3]; exact newE_kp (Kp.refl _ _) (Nat.le_refl _)
  have s3 := newE_src 3 (ints (tell l 0)) (srcBlk v) (N1 + 1) G2
  rw [← hG3] at s3
  generalize (newE 3 (ints (tell l 0)) (srcBlk v) (N1 + 1)).v = u3 at s3 ⊢
  have hi := ints_spec u1 u3 (zs (tell l 0)) (zs (tell l 0)) G3 (by simp; omega) (by simp; omega) ((k3.le (by omega)).src s2' b1) (src_intsI s3)
  rw [decide_eq_true rfl] at hi
  refine ops_call 38 _ rfl hi (by simp) ?_
  obtain ⟨r1, x1, _⟩ := src_str (src_bs (k3.at (by omega) g2n) rfl)
  obtain ⟨r2, x2, _⟩ := src_str ((kk2.trans k3 (by omega)).src hv2 hdom)
  refine ops_take 15 (by simp only [runL, List.drop_succ_cons, List.drop_zero, awant_some, Option.getD_some, List.getElem?_toArray, List.getElem?_cons_succ, List.getElem?_cons_zero, Option.bind_some, b_tt, b_tf, b_ft, b_ff, Bool.not_true, Bool.not_false, List.take_succ_cons, List.take_zero, awant_none, astep, evl, put, ap_none, ap_new, ap_wr, List.length_nil, List.length_cons, Nat.add_zero, Nat.zero_add, upd_app, stepBin, abin, stepUn, stepPick, stepExtract, stepCall, if_true, if_false, reduceCtorEq, ↓reduceIte, Nat.reduceEqDiff, Nat.reduceAdd, List.map_cons, List.map_nil, Option.map_some, Option.map_none, Bool.false_eq_true, Int.reduceLE, Int.reduceToNat, ne_eq, not_false_eq_true, and_self, and_true, true_and, decide_true, decide_false, Int.reduceEq, Int.reduceLT, Int.reduceBEq, Int.reduceBNe, not_true_eq_false, undef, t0, t4, t5, t7, x1, x2, beq_self_eq_true] <;> rfl) ?_
  refine g_call 25 _ (by simp only [runL, List.drop_succ_cons, List.drop_zero, awant_some, Option.getD_some, List.getElem?_toArray, List.getElem?_cons_succ, List.getElem?_cons_zero, Option.bind_some, b_tt, b_tf, b_ft, b_ff, Bool.not_true, Bool.not_false, List.take_succ_cons, List.take_zero, awant_none, astep, evl, put, ap_none, ap_new, ap_wr, List.length_nil, List.length_cons, Nat.add_zero, Nat.zero_add, upd_app, stepBin, abin, stepUn, stepPick, stepExtract, stepCall, if_true, if_false, reduceCtorEq, ↓reduceIte, Nat.reduceEqDiff, Nat.reduceAdd, List.map_cons, List.map_nil, Option.map_some, Option.map_none, Bool.false_eq_true, Int.reduceLE, Int.reduceToNat, ne_eq, not_false_eq_true, and_self, and_true, true_and, decide_true, decide_false, Int.reduceEq, Int.reduceLT, Int.reduceBEq, Int.reduceBNe, not_true_eq_false, undef] <;> rfl) rfl (rknown_spec _) (by simp) ?_
  refine ops_run (by simp only [runL, List.drop_succ_cons, List.drop_zero, awant_some, Option.getD_some, List.getElem?_toArray, List.getElem?_cons_succ, List.getElem?_cons_zero, Option.bind_some, b_tt, b_tf, b_ft, b_ff, Bool.not_true, Bool.not_false, List.take_succ_cons, List.take_zero, awant_none, astep, evl, put, ap_none, ap_new, ap_wr, List.length_nil, List.length_cons, Nat.add_zero, Nat.zero_add, upd_app, stepBin, abin, stepUn, stepPick, stepExtract, stepCall, if_true, if_false, reduceCtorEq, ↓reduceIte, Nat.reduceEqDiff, Nat.reduceAdd, List.map_cons, List.map_nil, Option.map_some, Option.map_none, Bool.false_eq_true, Int.reduceLE, Int.reduceToNat, ne_eq, not_false_eq_true, and_self, and_true, true_and, decide_true, decide_false, Int.reduceEq, Int.reduceLT, Int.reduceBEq, Int.reduceBNe, not_true_eq_false, undef] <;> rfl) ?_
  refine w_ret ⟨.inr rfl, by simp, [], fin_plain hs hwf (kk2.trans k3 (by omega)) ?_ trivial⟩
  simp [resVal, upd_app]
end Go.Proofs.Ytahinegnblankaa
