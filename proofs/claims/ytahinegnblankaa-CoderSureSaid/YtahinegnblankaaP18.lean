import Derived.Test.YtahinegnblankaaP17
namespace Go.Proofs.Ytahinegnblankaa
open Go Abs
set_option linter.unusedSimpArgs false
set_option linter.unusedVariables false

def cl : Code → Code
  | .seq a _ => a
  | c => c
def cr : Code → Code
  | .seq _ b => b
  | c => c
def cb : Code → Code
  | .block _ c => c
  | .loop c => c
  | c => c
def ct : Code → Code
  | .cond _ x _ => x
  | c => c
def ce : Code → Code
  | .cond _ _ y => y
  | c => c

theorem bool_ieq {a b : Int} {p : Prop} [Decidable p] (h : a = b ↔ p) : (a == b) = decide p := by
  by_cases hp : p
  · rw [decide_eq_true hp]; exact ieq_t (h.2 hp)
  · rw [decide_eq_false hp]; exact ieq_f fun e => hp (h.1 e)

set_option maxRecDepth 10000 in
theorem lawFRuns_spec (v : Value) (l : List Nat) (g : Heap) (hb : ∀ x ∈ l, x < 256) (hv : Src g v 1 l.length (bs l)) : FnSpec Try.prog 5 [v] g { v := .bool true, r := srcBlk v } := by
  refine spec_of_body [2] follows Try.func5 rfl (by kernel_rfl) (by simp [Try.f5]) (by kernel_rfl) rfl ?_
  intro g2 s2 n hg hfr hs hn hwf hsv
  have hv2 : Src g2 v 1 l.length (bs l) := hv.congr fun i hi => hg i (by simp [Eff.fp, hi])
  have hlen := hv2.len Try.underlying24
  have hdom : ∀ i ∈ srcBlk v, i < n := fun i hi => by
    obtain ⟨b, hb⟩ := Option.isSome_iff_exists.1 (hv2.dom i hi)
    exact hs i (hwf i b hb).1
  refine s_run (by simp only [runL, List.drop_succ_cons, List.drop_zero, awant_some, Option.getD_some, List.getElem?_toArray, List.getElem?_cons_succ, List.getElem?_cons_zero, Option.bind_some, b_tt, b_tf, b_ft, b_ff, Bool.not_true, Bool.not_false, List.take_succ_cons, List.take_zero, awant_none, astep, evl, put, ap_none, ap_new, ap_wr, List.length_nil, List.length_cons, Nat.add_zero, Nat.zero_add, upd_app, stepBin, abin, stepUn, stepPick, stepExtract, stepCall, if_true, if_false, reduceCtorEq, ↓reduceIte, Nat.reduceEqDiff, Nat.reduceAdd, List.map_cons, List.map_nil, Option.map_some, Option.map_none, Bool.false_eq_true, Int.reduceLE, Int.reduceToNat, ne_eq, not_false_eq_true, and_self, and_true, true_and, decide_true, decide_false, Int.reduceEq, Int.reduceLT, Int.reduceBEq, Int.reduceBNe, not_true_eq_false, undef] <;> rfl) ?_
  by_cases ea1 : (l.length : Int) > 300
  · have ed1 : (decide ((l.length : Int) > 300)) = true := decide_eq_true ea1
    refine w_assoc (s_run (by simp only [runL, List.drop_succ_cons, List.drop_zero, awant_some, Option.getD_some, List.getElem?_toArray, List.getElem?_cons_succ, List.getElem?_cons_zero, Option.bind_some, b_tt, b_tf, b_ft, b_ff, Bool.not_true, Bool.not_false, List.take_succ_cons, List.take_zero, awant_none, astep, evl, put, ap_none, ap_new, ap_wr, List.length_nil, List.length_cons, Nat.add_zero, Nat.zero_add, upd_app, stepBin, abin, stepUn, stepPick, stepExtract, stepCall, if_true, if_false, reduceCtorEq, ↓reduceIte, Nat.reduceEqDiff, Nat.reduceAdd, List.map_cons, List.map_nil, Option.map_some, Option.map_none, Bool.false_eq_true, Int.reduceLE, Int.reduceToNat, ne_eq, not_false_eq_true, and_self, and_true, true_and, decide_true, decide_false, Int.reduceEq, Int.reduceLT, Int.reduceBEq, Int.reduceBNe, not_true_eq_false, undef, hlen, ed1] <;> rfl) ?_)
    refine s_true (by simp [evl, upd_app]) (w_assoc (s_run (by simp only [runL, List.drop_succ_cons, List.drop_zero, awant_some, Option.getD_some, List.getElem?_toArray, List.getElem?_cons_succ, List.getElem?_cons_zero, Option.bind_some, b_tt, b_tf, b_ft, b_ff, Bool.not_true, Bool.not_false, List.take_succ_cons, List.take_zero, awant_none, astep, evl, put, ap_none, ap_new, ap_wr, List.length_nil, List.length_cons, Nat.add_zero, Nat.zero_add, upd_app, stepBin, abin, stepUn, stepPick, stepExtract, stepCall, if_true, if_false, reduceCtorEq, ↓reduceIte, Nat.reduceEqDiff, Nat.reduceAdd, List.map_cons, List.map_nil, Option.map_some, Option.map_none, Bool.false_eq_true, Int.reduceLE, Int.reduceToNat, ne_eq, not_false_eq_true, and_self, and_true, true_and, decide_true, decide_false, Int.reduceEq, Int.reduceLT, Int.reduceBEq, Int.reduceBNe, not_true_eq_false, undef] <;> rfl) ?_))
    refine s_ret ⟨.inr rfl, by simp, [], fin_none ?_ trivial (fun _ _ h => h)⟩
    simp [resVal, upd_app]
  have ed1 : (decide ((l.length : Int) > 300)) = false := decide_eq_false ea1
  refine w_assoc (s_run (by simp only [runL, List.drop_succ_cons, List.drop_zero, awant_some, Option.getD_some, List.getElem?_toArray, List.getElem?_cons_succ, List.getElem?_cons_zero, Option.bind_some, b_tt, b_tf, b_ft, b_ff, Bool.not_true, Bool.not_false, List.take_succ_cons, List.take_zero, awant_none, astep, evl, put, ap_none, ap_new, ap_wr, List.length_nil, List.length_cons, Nat.add_zero, Nat.zero_add, upd_app, stepBin, abin, stepUn, stepPick, stepExtract, stepCall, if_true, if_false, reduceCtorEq, ↓reduceIte, Nat.reduceEqDiff, Nat.reduceAdd, List.map_cons, List.map_nil, Option.map_some, Option.map_none, Bool.false_eq_true, Int.reduceLE, Int.reduceToNat, ne_eq, not_false_eq_true, and_self, and_true, true_and, decide_true, decide_false, Int.reduceEq, Int.reduceLT, Int.reduceBEq, Int.reduceBNe, not_true_eq_false, undef, hlen, ed1] <;> rfl) ?_)
  refine s_false (by simp [evl, upd_app]) (s_skip ?_)
  have hml := move_len l row0
  refine w_gen (fun t => t 0 = v) (by simp [upd_app]) ?_
  intro t t0
  refine s_take 1 (by simp only [runL, List.drop_succ_cons, List.drop_zero, awant_some, Option.getD_some, List.getElem?_toArray, List.getElem?_cons_succ, List.getElem?_cons_zero, Option.bind_some, b_tt, b_tf, b_ft, b_ff, Bool.not_true, Bool.not_false, List.take_succ_cons, List.take_zero, awant_none, astep, evl, put, ap_none, ap_new, ap_wr, List.length_nil, List.length_cons, Nat.add_zero, Nat.zero_add, upd_app, stepBin, abin, stepUn, stepPick, stepExtract, stepCall, if_true, if_false, reduceCtorEq, ↓reduceIte, Nat.reduceEqDiff, Nat.reduceAdd, List.map_cons, List.map_nil, Option.map_some, Option.map_none, Bool.false_eq_true, Int.reduceLE, Int.reduceToNat, ne_eq, not_false_eq_true, and_self, and_true, true_and, decide_true, decide_false, Int.reduceEq, Int.reduceLT, Int.reduceBEq, Int.reduceBNe, not_true_eq_false, undef, t0] <;> rfl) ?_
  refine ops_call 26 _ rfl (move_spec v l g2 n (by omega) hb hv2) (by intro _; rfl) (ops_heap fun G1 hG1 => ?_)
  have k1 : Kp n g2 G1 := by rw [hG1]; exact kp_ap (Kp.refl _ _) rfl (fun _ => Nat.le_refl _)
  have b1 : G1 n = some ⟨false, 5, bs (move l row0)⟩ := by rw [hG1]; simp [ap_new, upd_app]
  refine ops_run (by simp only [runL, List.drop_succ_cons, List.drop_zero, awant_some, Option.getD_some, List.getElem?_toArray, List.getElem?_cons_succ, List.getElem?_cons_zero, Option.bind_some, b_tt, b_tf, b_ft, b_ff, Bool.not_true, Bool.not_false, List.take_succ_cons, List.take_zero, awant_none, astep, evl, put, ap_none, ap_new, ap_wr, List.length_nil, List.length_cons, Nat.add_zero, Nat.zero_add, upd_app, stepBin, abin, stepUn, stepPick, stepExtract, stepCall, if_true, if_false, reduceCtorEq, ↓reduceIte, Nat.reduceEqDiff, Nat.reduceAdd, List.map_cons, List.map_nil, Option.map_some, Option.map_none, Bool.false_eq_true, Int.reduceLE, Int.reduceToNat, ne_eq, not_false_eq_true, and_self, and_true, true_and, decide_true, decide_false, Int.reduceEq, Int.reduceLT, Int.reduceBEq, Int.reduceBNe, not_true_eq_false, undef] <;> rfl) ?_
  refine w_gen (fun t => t 0 = v ∧ t 3 = .slice (some ⟨n, 0, some l.length⟩) l.length 1) (by simp [upd_app, put, t0]) ?_
  clear t0
  rintro t ⟨t0, t3⟩
  have hv3 := k1.src hv2 hdom
  have hms := src_bs (m := l.length) b1 hml.symm
  have hlm : stepLen Try.prog 24 (.slice (some ⟨n, 0, some l.length⟩) l.length 1) = some { v := .int .i64 l.length } := by simp [stepLen, Try.underlying24]
  have dn : ((l.length : Int) != (l.length : Int)) = false := ine_f rfl
  refine w_assoc (s_run (by simp only [runL, List.drop_succ_cons, List.drop_zero, awant_some, Option.getD_some, List.getElem?_toArray, List.getElem?_cons_succ, List.getElem?_cons_zero, Option.bind_some, b_tt, b_tf, b_ft, b_ff, Bool.not_true, Bool.not_false, List.take_succ_cons, List.take_zero, awant_none, astep, evl, put, ap_none, ap_new, ap_wr, List.length_nil, List.length_cons, Nat.add_zero, Nat.zero_add, upd_app, stepBin, abin, stepUn, stepPick, stepExtract, stepCall, if_true, if_false, reduceCtorEq, ↓reduceIte, Nat.reduceEqDiff, Nat.reduceAdd, List.map_cons, List.map_nil, Option.map_some, Option.map_none, Bool.false_eq_true, Int.reduceLE, Int.reduceToNat, ne_eq, not_false_eq_true, and_self, and_true, true_and, decide_true, decide_false, Int.reduceEq, Int.reduceLT, Int.reduceBEq, Int.reduceBNe, not_true_eq_false, undef, t0, t3, hlen, hlm, dn] <;> rfl) ?_)
  refine s_false (by simp [evl, upd_app]) (s_skip ?_)
  refine w_assoc (s_run (by simp only [runL, List.drop_succ_cons, List.drop_zero, awant_some, Option.getD_some, List.getElem?_toArray, List.getElem?_cons_succ, List.getElem?_cons_zero, Option.bind_some, b_tt, b_tf, b_ft, b_ff, Bool.not_true, Bool.not_false, List.take_succ_cons, List.take_zero, awant_none, astep, evl, put, ap_none, ap_new, ap_wr, List.length_nil, List.length_cons, Nat.add_zero, Nat.zero_add, upd_app, stepBin, abin, stepUn, stepPick, stepExtract, stepCall, if_true, if_false, reduceCtorEq, ↓reduceIte, Nat.reduceEqDiff, Nat.reduceAdd, List.map_cons, List.map_nil, Option.map_some, Option.map_none, Bool.false_eq_true, Int.reduceLE, Int.reduceToNat, ne_eq, not_false_eq_true, and_self, and_true, true_and, decide_true, decide_false, Int.reduceEq, Int.reduceLT, Int.reduceBEq, Int.reduceBNe, not_true_eq_false, undef] <;> rfl) ?_)
  have fin : ∀ (t : Nat → Value) (m : Nat), t 0 = v → t 3 = .slice (some ⟨n, 0, some l.length⟩) l.length 1 →
      awp Try.prog (Try.f5.body.getD .skip |> cr |> cr |> cr |> cr |> cr) (fun e t' g' _ => (e = .normal ∨ e = .ret) ∧ (([2] : List Tmp).length ≠ 1 → ∀ r ∈ ([2] : List Tmp), isTup (t' r) = false) ∧ ∃ ids, Abs.Fin { v := .bool true, r := srcBlk v } ids s2 g2 n g' (resVal [2] t')) t G1 m := by
    intro t m t0 t3
    show awp Try.prog (.seq _ _) _ t G1 m
    by_cases h0 : l = []
    · have d0 : ((l.length : Int) == 0) = true := by rw [h0]; rfl
      refine s_drawn #[0, 1, 3, 7, 15, 31, 63, 15, 143, 399, 1023, 2047, 4095, 8191, 16383, 32767] (by decide +kernel) ?_
      refine d_reads 13 (by simp) (by simp only [runR, List.drop_succ_cons, List.drop_zero, awant_some, Option.getD_some, List.getElem?_toArray, List.getElem?_cons_succ, List.getElem?_cons_zero, Option.bind_some, b_tt, b_tf, b_ft, b_ff, Bool.not_true, Bool.not_false, List.take_succ_cons, List.take_zero, awant_none, astep, evl, put, ap_none, ap_new, ap_wr, List.length_nil, List.length_cons, Nat.add_zero, Nat.zero_add, upd_app, stepBin, abin, stepUn, stepPick, stepExtract, stepCall, if_true, if_false, reduceCtorEq, ↓reduceIte, Nat.reduceEqDiff, Nat.reduceAdd, List.map_cons, List.map_nil, Option.map_some, Option.map_none, Bool.false_eq_true, Int.reduceLE, Int.reduceToNat, ne_eq, not_false_eq_true, and_self, and_true, true_and, decide_true, decide_false, Int.reduceEq, Int.reduceLT, Int.reduceBEq, Int.reduceBNe, not_true_eq_false, undef, List.isEmpty_nil, Bool.and_self, Bool.and_true, t0, t3, hlen, d0] <;> rfl) fun a1 ha1 => ?_
      refine d_call 30 _ rfl rfl rfl (by simp [awant, upd_app, put]) (fknown_spec _) (by simp) (d_free ha1 rfl) ?_
      refine d_pure 2 (by simp only [runP, List.drop_succ_cons, List.drop_zero, awant_some, Option.getD_some, List.getElem?_toArray, List.getElem?_cons_succ, List.getElem?_cons_zero, Option.bind_some, b_tt, b_tf, b_ft, b_ff, Bool.not_true, Bool.not_false, List.take_succ_cons, List.take_zero, awant_none, astep, evl, put, ap_none, ap_new, ap_wr, List.length_nil, List.length_cons, Nat.add_zero, Nat.zero_add, upd_app, stepBin, abin, stepUn, stepPick, stepExtract, stepCall, if_true, if_false, reduceCtorEq, ↓reduceIte, Nat.reduceEqDiff, Nat.reduceAdd, List.map_cons, List.map_nil, Option.map_some, Option.map_none, Bool.false_eq_true, Int.reduceLE, Int.reduceToNat, ne_eq, not_false_eq_true, and_self, and_true, true_and, decide_true, decide_false, Int.reduceEq, Int.reduceLT, Int.reduceBEq, Int.reduceBNe, not_true_eq_false, undef, List.isEmpty_nil, Bool.and_self, Bool.and_true] <;> rfl) ?_
      exact w_ret ⟨.inr rfl, by simp, [], fin_plain hs hwf k1 (by simp [resVal, upd_app, put]) trivial⟩
    · have hl0 : 0 < l.length := List.length_pos_iff.2 h0
      have d0 : ((l.length : Int) == 0) = false := ieq_f (by omega)
      have hz := move_zero hb h0
      obtain ⟨p1, a1, b1', _⟩ := hms.at1 (P := Try.prog) (i := 0) (c := .int .u8 (byt l 0)) (by rw [← hz]; exact bs_at (by omega)) Try.underlying24 tsize5 aggT5
      obtain ⟨p2, a2, b2', _⟩ := hv3.at1 (P := Try.prog) (i := 0) (c := .int .u8 (byt l 0)) (bs_at hl0) Try.underlying24 tsize5 aggT5
      have a1z : stepIndex Try.prog 24 (.slice (some ⟨n, 0, some l.length⟩) l.length 1) (.int .i64 0) = some { v := .pointer (some p1) } := a1 .i64
      have a2z : stepIndex Try.prog 24 v (.int .i64 0) = some { v := .pointer (some p2) } := a2 .i64
      refine s_drawn #[0, 1, 3, 7, 15, 31, 63, 15, 143, 399, 1023, 2047, 4095, 8191, 16383, 32767] (by decide +kernel) ?_
      refine d_reads 13 (by simp) (by simp only [runR, List.drop_succ_cons, List.drop_zero, awant_some, Option.getD_some, List.getElem?_toArray, List.getElem?_cons_succ, List.getElem?_cons_zero, Option.bind_some, b_tt, b_tf, b_ft, b_ff, Bool.not_true, Bool.not_false, List.take_succ_cons, List.take_zero, awant_none, astep, evl, put, ap_none, ap_new, ap_wr, List.length_nil, List.length_cons, Nat.add_zero, Nat.zero_add, upd_app, stepBin, abin, stepUn, stepPick, stepExtract, stepCall, if_true, if_false, reduceCtorEq, ↓reduceIte, Nat.reduceEqDiff, Nat.reduceAdd, List.map_cons, List.map_nil, Option.map_some, Option.map_none, Bool.false_eq_true, Int.reduceLE, Int.reduceToNat, ne_eq, not_false_eq_true, and_self, and_true, true_and, decide_true, decide_false, Int.reduceEq, Int.reduceLT, Int.reduceBEq, Int.reduceBNe, not_true_eq_false, undef, List.isEmpty_nil, Bool.and_self, Bool.and_true, t0, t3, hlen, d0, a1z, a2z, b1', b2', beq_self_eq_true] <;> rfl) fun a1 ha1 => ?_
      refine d_call 30 _ rfl rfl rfl (by simp [awant, upd_app, put]) (fknown_spec _) (by simp) (d_free ha1 rfl) ?_
      refine d_pure 2 (by simp only [runP, List.drop_succ_cons, List.drop_zero, awant_some, Option.getD_some, List.getElem?_toArray, List.getElem?_cons_succ, List.getElem?_cons_zero, Option.bind_some, b_tt, b_tf, b_ft, b_ff, Bool.not_true, Bool.not_false, List.take_succ_cons, List.take_zero, awant_none, astep, evl, put, ap_none, ap_new, ap_wr, List.length_nil, List.length_cons, Nat.add_zero, Nat.zero_add, upd_app, stepBin, abin, stepUn, stepPick, stepExtract, stepCall, if_true, if_false, reduceCtorEq, ↓reduceIte, Nat.reduceEqDiff, Nat.reduceAdd, List.map_cons, List.map_nil, Option.map_some, Option.map_none, Bool.false_eq_true, Int.reduceLE, Int.reduceToNat, ne_eq, not_false_eq_true, and_self, and_true, true_and, decide_true, decide_false, Int.reduceEq, Int.reduceLT, Int.reduceBEq, Int.reduceBNe, not_true_eq_false, undef, List.isEmpty_nil, Bool.and_self, Bool.and_true] <;> rfl) ?_
      exact w_ret ⟨.inr rfl, by simp, [], fin_plain hs hwf k1 (by simp [resVal, upd_app, put]) trivial⟩
  by_cases h1 : l.length = 0
  · refine s_block (fun t g _ => g = G1 ∧ t 0 = v ∧ t 3 = .slice (some ⟨n, 0, some l.length⟩) l.length 1) ?_ ?_
    · refine w_loop (fun t g _ => g = G1 ∧ t 0 = v ∧ t 3 = .slice (some ⟨n, 0, some l.length⟩) l.length 1 ∧ t 4 = .int .i64 1) (fun _ _ _ => 0) ⟨rfl, by simp [upd_app, t0], by simp [upd_app, t3], by simp [upd_app]⟩ ?_
      clear t0 t3
      rintro t g m ⟨rfl, t0, t3, t4⟩
      have dl : decide ((1 : Int) < (l.length : Int)) = false := decide_eq_false (by omega)
      refine w_assoc (s_run (by simp only [runL, List.drop_succ_cons, List.drop_zero, awant_some, Option.getD_some, List.getElem?_toArray, List.getElem?_cons_succ, List.getElem?_cons_zero, Option.bind_some, b_tt, b_tf, b_ft, b_ff, Bool.not_true, Bool.not_false, List.take_succ_cons, List.take_zero, awant_none, astep, evl, put, ap_none, ap_new, ap_wr, List.length_nil, List.length_cons, Nat.add_zero, Nat.zero_add, upd_app, stepBin, abin, stepUn, stepPick, stepExtract, stepCall, if_true, if_false, reduceCtorEq, ↓reduceIte, Nat.reduceEqDiff, Nat.reduceAdd, List.map_cons, List.map_nil, Option.map_some, Option.map_none, Bool.false_eq_true, Int.reduceLE, Int.reduceToNat, ne_eq, not_false_eq_true, and_self, and_true, true_and, decide_true, decide_false, Int.reduceEq, Int.reduceLT, Int.reduceBEq, Int.reduceBNe, not_true_eq_false, undef, t0, t4, hlen, dl] <;> rfl) ?_)
      exact s_false (by simp [evl, upd_app]) (s_exit ⟨rfl, by simp [upd_app, t0], by simp [upd_app, t3]⟩)
    · rintro t g m ⟨rfl, q0, q3⟩
      exact fin t m q0 q3
  · refine s_for 1 l.length (fun k t g _ => 1 ≤ k ∧ g = G1 ∧ t 0 = v ∧ t 3 = .slice (some ⟨n, 0, some l.length⟩) l.length 1) (by omega) (by omega) (by simp [upd_app]) ⟨by omega, rfl, by simp [upd_app, t0], by simp [upd_app, t3]⟩ ?_ ?_ ?_
    · clear t0 t3
      rintro k t g m hk t4 ⟨hk1, rfl, t0, t3⟩
      have dl : decide ((k : Int) < (l.length : Int)) = decide (k < l.length) := by simp
      exact ⟨_, (by simp only [runL, List.drop_succ_cons, List.drop_zero, awant_some, Option.getD_some, List.getElem?_toArray, List.getElem?_cons_succ, List.getElem?_cons_zero, Option.bind_some, b_tt, b_tf, b_ft, b_ff, Bool.not_true, Bool.not_false, List.take_succ_cons, List.take_zero, awant_none, astep, evl, put, ap_none, ap_new, ap_wr, List.length_nil, List.length_cons, Nat.add_zero, Nat.zero_add, upd_app, stepBin, abin, stepUn, stepPick, stepExtract, stepCall, if_true, if_false, reduceCtorEq, ↓reduceIte, Nat.reduceEqDiff, Nat.reduceAdd, List.map_cons, List.map_nil, Option.map_some, Option.map_none, Bool.false_eq_true, Int.reduceLE, Int.reduceToNat, ne_eq, not_false_eq_true, and_self, and_true, true_and, decide_true, decide_false, Int.reduceEq, Int.reduceLT, Int.reduceBEq, Int.reduceBNe, not_true_eq_false, undef, t4, t0, hlen, dl] <;> rfl), by simp [upd_app], by simp [upd_app, t4], hk1, rfl, by simp [upd_app, t0], by simp [upd_app, t3]⟩
    · clear t0 t3
      rintro k t g m hk t4 ⟨hk1, rfl, t0, t3⟩
      obtain ⟨k, rfl⟩ : ∃ q, k = q + 1 := ⟨k - 1, by omega⟩
      have hrun : byt (move l row0) (k + 1) = 0 ↔ byt l (k + 1) = byt l k := move_run hb full_row k hk
      obtain ⟨p1, a1, b1', _⟩ := hms.at1 (P := Try.prog) (i := k + 1) (c := .int .u8 (byt (move l row0) (k + 1))) (bs_at (by omega)) Try.underlying24 tsize5 aggT5
      obtain ⟨p2, a2, b2', _⟩ := hv3.at1 (P := Try.prog) (i := k + 1) (c := .int .u8 (byt l (k + 1))) (bs_at hk) Try.underlying24 tsize5 aggT5
      obtain ⟨p3, a3, b3', _⟩ := hv3.at1 (P := Try.prog) (i := k) (c := .int .u8 (byt l k)) (bs_at (by omega)) Try.underlying24 tsize5 aggT5
      have w1 : IntKind.i64.wrap (((k + 1 : Nat) : Int) - 1) = (k : Int) := by rw [wrap64_of (by omega) (by omega)]; omega
      have e1 : ((byt (move l row0) (k + 1) : Int) == 0) = decide (byt l (k + 1) = byt l k) := bool_ieq ⟨fun h => hrun.1 (by omega), fun h => by have := hrun.2 h; omega⟩
      have e2 : ((byt l (k + 1) : Int) == (byt l k : Int)) = decide (byt l (k + 1) = byt l k) := bool_ieq (by omega)
      refine s_draw #[0, 0, 3, 7, 15, 0, 0, 96, 224, 0, 0, 1024, 3584, 7680, 16352, 32767] (by decide +kernel) (by simp only [runR, List.drop_succ_cons, List.drop_zero, awant_some, Option.getD_some, List.getElem?_toArray, List.getElem?_cons_succ, List.getElem?_cons_zero, Option.bind_some, b_tt, b_tf, b_ft, b_ff, Bool.not_true, Bool.not_false, List.take_succ_cons, List.take_zero, awant_none, astep, evl, put, ap_none, ap_new, ap_wr, List.length_nil, List.length_cons, Nat.add_zero, Nat.zero_add, upd_app, stepBin, abin, stepUn, stepPick, stepExtract, stepCall, if_true, if_false, reduceCtorEq, ↓reduceIte, Nat.reduceEqDiff, Nat.reduceAdd, List.map_cons, List.map_nil, Option.map_some, Option.map_none, Bool.false_eq_true, Int.reduceLE, Int.reduceToNat, ne_eq, not_false_eq_true, and_self, and_true, true_and, decide_true, decide_false, Int.reduceEq, Int.reduceLT, Int.reduceBEq, Int.reduceBNe, not_true_eq_false, undef, List.isEmpty_nil, Bool.and_self, Bool.and_true, t0, t3, t4, a1, b1', a2, b2', w1, a3, b3', e1, e2, Try.underlying4, beq_self_eq_true] <;> rfl) ?_
      refine w_false (by simp [evl, upd_app]) (w_skip ?_)
      simp only [rangePost]
      exact ⟨by simp [upd_app, t4], fun _ _ _ => ⟨by omega, by trivial, by simp [upd_app, t0], by simp [upd_app, t3]⟩⟩
    · rintro t g m ⟨_, rfl, q0, q3⟩
      exact fin t m q0 q3

theorem xor255_lt : ∀ b : Nat, b < 256 → bits .xor .u8 (b : Int) 255 = ((255 - b : Nat) : Int) := by decide +kernel

set_option maxRecDepth 10000 in
theorem lawFOwn_spec (v : Value) (l : List Nat) (g : Heap) (hb : ∀ x ∈ l, x < 256) (hv : Src g v 1 l.length (bs l)) : FnSpec Try.prog 6 [v] g { v := .bool true, r := srcBlk v } := by
  refine spec_of_body [2] follows Try.func6 rfl (by kernel_rfl) (by simp [Try.f6]) (by kernel_rfl) rfl ?_
  intro g2 s2 n hg hfr hs hn hwf hsv
  have hv2 : Src g2 v 1 l.length (bs l) := hv.congr fun i hi => hg i (by simp [Eff.fp, hi])
  have hlen := hv2.len Try.underlying24
  have hdom : ∀ i ∈ srcBlk v, i < n := fun i hi => by
    obtain ⟨b, hb⟩ := Option.isSome_iff_exists.1 (hv2.dom i hi)
    exact hs i (hwf i b hb).1
  refine s_run (by simp only [runL, List.drop_succ_cons, List.drop_zero, awant_some, Option.getD_some, List.getElem?_toArray, List.getElem?_cons_succ, List.getElem?_cons_zero, Option.bind_some, b_tt, b_tf, b_ft, b_ff, Bool.not_true, Bool.not_false, List.take_succ_cons, List.take_zero, awant_none, astep, evl, put, ap_none, ap_new, ap_wr, List.length_nil, List.length_cons, Nat.add_zero, Nat.zero_add, upd_app, stepBin, abin, stepUn, stepPick, stepExtract, stepCall, if_true, if_false, reduceCtorEq, ↓reduceIte, Nat.reduceEqDiff, Nat.reduceAdd, List.map_cons, List.map_nil, Option.map_some, Option.map_none, Bool.false_eq_true, Int.reduceLE, Int.reduceToNat, ne_eq, not_false_eq_true, and_self, and_true, true_and, decide_true, decide_false, Int.reduceEq, Int.reduceLT, Int.reduceBEq, Int.reduceBNe, not_true_eq_false, undef] <;> rfl) ?_
  by_cases ea1 : (l.length : Int) < 1
  · have ed1 : (decide ((l.length : Int) < 1)) = true := decide_eq_true ea1
    refine w_assoc (s_run (by simp only [runL, List.drop_succ_cons, List.drop_zero, awant_some, Option.getD_some, List.getElem?_toArray, List.getElem?_cons_succ, List.getElem?_cons_zero, Option.bind_some, b_tt, b_tf, b_ft, b_ff, Bool.not_true, Bool.not_false, List.take_succ_cons, List.take_zero, awant_none, astep, evl, put, ap_none, ap_new, ap_wr, List.length_nil, List.length_cons, Nat.add_zero, Nat.zero_add, upd_app, stepBin, abin, stepUn, stepPick, stepExtract, stepCall, if_true, if_false, reduceCtorEq, ↓reduceIte, Nat.reduceEqDiff, Nat.reduceAdd, List.map_cons, List.map_nil, Option.map_some, Option.map_none, Bool.false_eq_true, Int.reduceLE, Int.reduceToNat, ne_eq, not_false_eq_true, and_self, and_true, true_and, decide_true, decide_false, Int.reduceEq, Int.reduceLT, Int.reduceBEq, Int.reduceBNe, not_true_eq_false, undef, hlen, ed1] <;> rfl) ?_)
    refine s_true (by simp [evl, upd_app]) (w_assoc (s_run (by simp only [runL, List.drop_succ_cons, List.drop_zero, awant_some, Option.getD_some, List.getElem?_toArray, List.getElem?_cons_succ, List.getElem?_cons_zero, Option.bind_some, b_tt, b_tf, b_ft, b_ff, Bool.not_true, Bool.not_false, List.take_succ_cons, List.take_zero, awant_none, astep, evl, put, ap_none, ap_new, ap_wr, List.length_nil, List.length_cons, Nat.add_zero, Nat.zero_add, upd_app, stepBin, abin, stepUn, stepPick, stepExtract, stepCall, if_true, if_false, reduceCtorEq, ↓reduceIte, Nat.reduceEqDiff, Nat.reduceAdd, List.map_cons, List.map_nil, Option.map_some, Option.map_none, Bool.false_eq_true, Int.reduceLE, Int.reduceToNat, ne_eq, not_false_eq_true, and_self, and_true, true_and, decide_true, decide_false, Int.reduceEq, Int.reduceLT, Int.reduceBEq, Int.reduceBNe, not_true_eq_false, undef] <;> rfl) ?_))
    refine s_ret ⟨.inr rfl, by simp, [], fin_none ?_ trivial (fun _ _ h => h)⟩
    simp [resVal, upd_app]
  have ed1 : (decide ((l.length : Int) < 1)) = false := decide_eq_false ea1
  by_cases ea2 : (l.length : Int) > 100
  · have ed2 : (decide ((l.length : Int) > 100)) = true := decide_eq_true ea2
    refine w_assoc (s_run (by simp only [runL, List.drop_succ_cons, List.drop_zero, awant_some, Option.getD_some, List.getElem?_toArray, List.getElem?_cons_succ, List.getElem?_cons_zero, Option.bind_some, b_tt, b_tf, b_ft, b_ff, Bool.not_true, Bool.not_false, List.take_succ_cons, List.take_zero, awant_none, astep, evl, put, ap_none, ap_new, ap_wr, List.length_nil, List.length_cons, Nat.add_zero, Nat.zero_add, upd_app, stepBin, abin, stepUn, stepPick, stepExtract, stepCall, if_true, if_false, reduceCtorEq, ↓reduceIte, Nat.reduceEqDiff, Nat.reduceAdd, List.map_cons, List.map_nil, Option.map_some, Option.map_none, Bool.false_eq_true, Int.reduceLE, Int.reduceToNat, ne_eq, not_false_eq_true, and_self, and_true, true_and, decide_true, decide_false, Int.reduceEq, Int.reduceLT, Int.reduceBEq, Int.reduceBNe, not_true_eq_false, undef, hlen, ed1, ed2] <;> rfl) ?_)
    refine s_true (by simp [evl, upd_app]) (w_assoc (s_run (by simp only [runL, List.drop_succ_cons, List.drop_zero, awant_some, Option.getD_some, List.getElem?_toArray, List.getElem?_cons_succ, List.getElem?_cons_zero, Option.bind_some, b_tt, b_tf, b_ft, b_ff, Bool.not_true, Bool.not_false, List.take_succ_cons, List.take_zero, awant_none, astep, evl, put, ap_none, ap_new, ap_wr, List.length_nil, List.length_cons, Nat.add_zero, Nat.zero_add, upd_app, stepBin, abin, stepUn, stepPick, stepExtract, stepCall, if_true, if_false, reduceCtorEq, ↓reduceIte, Nat.reduceEqDiff, Nat.reduceAdd, List.map_cons, List.map_nil, Option.map_some, Option.map_none, Bool.false_eq_true, Int.reduceLE, Int.reduceToNat, ne_eq, not_false_eq_true, and_self, and_true, true_and, decide_true, decide_false, Int.reduceEq, Int.reduceLT, Int.reduceBEq, Int.reduceBNe, not_true_eq_false, undef] <;> rfl) ?_))
    refine s_ret ⟨.inr rfl, by simp, [], fin_none ?_ trivial (fun _ _ h => h)⟩
    simp [resVal, upd_app]
  have ed2 : (decide ((l.length : Int) > 100)) = false := decide_eq_false ea2
  refine w_assoc (s_run (by simp only [runL, List.drop_succ_cons, List.drop_zero, awant_some, Option.getD_some, List.getElem?_toArray, List.getElem?_cons_succ, List.getElem?_cons_zero, Option.bind_some, b_tt, b_tf, b_ft, b_ff, Bool.not_true, Bool.not_false, List.take_succ_cons, List.take_zero, awant_none, astep, evl, put, ap_none, ap_new, ap_wr, List.length_nil, List.length_cons, Nat.add_zero, Nat.zero_add, upd_app, stepBin, abin, stepUn, stepPick, stepExtract, stepCall, if_true, if_false, reduceCtorEq, ↓reduceIte, Nat.reduceEqDiff, Nat.reduceAdd, List.map_cons, List.map_nil, Option.map_some, Option.map_none, Bool.false_eq_true, Int.reduceLE, Int.reduceToNat, ne_eq, not_false_eq_true, and_self, and_true, true_and, decide_true, decide_false, Int.reduceEq, Int.reduceLT, Int.reduceBEq, Int.reduceBNe, not_true_eq_false, undef, hlen, ed1, ed2] <;> rfl) ?_)
  refine s_false (by simp [evl, upd_app]) (s_skip ?_)
  have hml := move_len l row0
  have hkl := back_len l row0
  refine w_gen (fun t => t 0 = v) (by simp [upd_app]) ?_
  intro t t0
  have kz : Kp n g2 (upd g2 n (some ⟨false, 5, []⟩)) := kp_upd (Kp.refl _ _) (Nat.le_refl _)
  have hz : OwnB 5 (upd g2 n (some ⟨false, 5, []⟩)) (.slice (some ⟨n, 0, some 0⟩) 0 1) [] n := ⟨rfl, by simp⟩
  obtain ⟨f, hf, hfa, hO, hk⟩ := hz.append (P := Try.prog) (T := 24) (j := n + 1) (y := v) (news := bs l) (by simpa using kz.src hv2 hdom) Try.underlying24 tinf5 (by simp; omega) (by omega)
  rw [List.nil_append] at hO
  refine s_run (by simp only [runL, List.drop_succ_cons, List.drop_zero, awant_some, Option.getD_some, List.getElem?_toArray, List.getElem?_cons_succ, List.getElem?_cons_zero, Option.bind_some, b_tt, b_tf, b_ft, b_ff, Bool.not_true, Bool.not_false, List.take_succ_cons, List.take_zero, awant_none, astep, evl, put, ap_none, ap_new, ap_wr, List.length_nil, List.length_cons, Nat.add_zero, Nat.zero_add, upd_app, stepBin, abin, stepUn, stepPick, stepExtract, stepCall, if_true, if_false, reduceCtorEq, ↓reduceIte, Nat.reduceEqDiff, Nat.reduceAdd, List.map_cons, List.map_nil, Option.map_some, Option.map_none, Bool.false_eq_true, Int.reduceLE, Int.reduceToNat, ne_eq, not_false_eq_true, and_self, and_true, true_and, decide_true, decide_false, Int.reduceEq, Int.reduceLT, Int.reduceBEq, Int.reduceBNe, not_true_eq_false, undef, t0, lit24_0, hf] <;> rfl) (w_heap fun G1 hG1 => ?_)
  rw [← hG1] at hO
  have k1 : Kp n g2 G1 := fun i hi => by rw [hG1, hk i (by omega), upd_ne _ _ (by omega)]
  simp only [hfa, List.length_nil, Nat.add_zero]
  obtain ⟨hfv, b1⟩ := hO
  have hbl : (bs l).length = l.length := by simp
  rw [hbl] at hfv
  refine w_gen (fun t => t 0 = v ∧ t 3 = .slice (some ⟨n, 0, some l.length⟩) l.length 1) (by simp [upd_app, put, t0, hfv]) ?_
  clear t0
  rintro t ⟨t0, t3⟩
  refine s_take 1 (by simp only [runL, List.drop_succ_cons, List.drop_zero, awant_some, Option.getD_some, List.getElem?_toArray, List.getElem?_cons_succ, List.getElem?_cons_zero, Option.bind_some, b_tt, b_tf, b_ft, b_ff, Bool.not_true, Bool.not_false, List.take_succ_cons, List.take_zero, awant_none, astep, evl, put, ap_none, ap_new, ap_wr, List.length_nil, List.length_cons, Nat.add_zero, Nat.zero_add, upd_app, stepBin, abin, stepUn, stepPick, stepExtract, stepCall, if_true, if_false, reduceCtorEq, ↓reduceIte, Nat.reduceEqDiff, Nat.reduceAdd, List.map_cons, List.map_nil, Option.map_some, Option.map_none, Bool.false_eq_true, Int.reduceLE, Int.reduceToNat, ne_eq, not_false_eq_true, and_self, and_true, true_and, decide_true, decide_false, Int.reduceEq, Int.reduceLT, Int.reduceBEq, Int.reduceBNe, not_true_eq_false, undef, t3] <;> rfl) ?_
  refine ops_call 26 _ rfl (move_spec _ l G1 (n + 1) (by omega) hb (src_bs b1 rfl)) (by intro _; rfl) (ops_heap fun G2 hG2 => ?_)
  have k2 : Kp (n + 1) G1 G2 := by rw [hG2]; exact kp_ap (Kp.refl _ _) rfl (fun _ => Nat.le_refl _)
  have b2 : G2 (n + 1) = some ⟨false, 5, bs (move l row0)⟩ := by rw [hG2]; simp [ap_new, upd_app]
  refine ops_take 1 (by simp only [runL, List.drop_succ_cons, List.drop_zero, awant_some, Option.getD_some, List.getElem?_toArray, List.getElem?_cons_succ, List.getElem?_cons_zero, Option.bind_some, b_tt, b_tf, b_ft, b_ff, Bool.not_true, Bool.not_false, List.take_succ_cons, List.take_zero, awant_none, astep, evl, put, ap_none, ap_new, ap_wr, List.length_nil, List.length_cons, Nat.add_zero, Nat.zero_add, upd_app, stepBin, abin, stepUn, stepPick, stepExtract, stepCall, if_true, if_false, reduceCtorEq, ↓reduceIte, Nat.reduceEqDiff, Nat.reduceAdd, List.map_cons, List.map_nil, Option.map_some, Option.map_none, Bool.false_eq_true, Int.reduceLE, Int.reduceToNat, ne_eq, not_false_eq_true, and_self, and_true, true_and, decide_true, decide_false, Int.reduceEq, Int.reduceLT, Int.reduceBEq, Int.reduceBNe, not_true_eq_false, undef, t3] <;> rfl) ?_
  refine ops_call 27 _ rfl (fback_spec _ l G2 (n + 2) (by omega) hb (src_bs (k2.at (by omega) b1) rfl)) (by intro _; rfl) (ops_heap fun G3 hG3 => ?_)
  have k3 : Kp (n + 2) G2 G3 := by rw [hG3]; exact kp_ap (Kp.refl _ _) rfl (fun _ => Nat.le_refl _)
  have b3 : G3 (n + 2) = some ⟨false, 5, bs (back l row0)⟩ := by rw [hG3]; simp [ap_new, upd_app]
  refine ops_run (by simp only [runL, List.drop_succ_cons, List.drop_zero, awant_some, Option.getD_some, List.getElem?_toArray, List.getElem?_cons_succ, List.getElem?_cons_zero, Option.bind_some, b_tt, b_tf, b_ft, b_ff, Bool.not_true, Bool.not_false, List.take_succ_cons, List.take_zero, awant_none, astep, evl, put, ap_none, ap_new, ap_wr, List.length_nil, List.length_cons, Nat.add_zero, Nat.zero_add, upd_app, stepBin, abin, stepUn, stepPick, stepExtract, stepCall, if_true, if_false, reduceCtorEq, ↓reduceIte, Nat.reduceEqDiff, Nat.reduceAdd, List.map_cons, List.map_nil, Option.map_some, Option.map_none, Bool.false_eq_true, Int.reduceLE, Int.reduceToNat, ne_eq, not_false_eq_true, and_self, and_true, true_and, decide_true, decide_false, Int.reduceEq, Int.reduceLT, Int.reduceBEq, Int.reduceBNe, not_true_eq_false, undef] <;> rfl) ?_
  refine w_gen (fun t => t 0 = v ∧ t 3 = .slice (some ⟨n, 0, some l.length⟩) l.length 1 ∧ t 4 = .slice (some ⟨n + 1, 0, some l.length⟩) l.length 1 ∧ t 5 = .slice (some ⟨n + 2, 0, some l.length⟩) l.length 1) (by simp [upd_app, put, t0, t3]) ?_
  clear t0 t3
  rintro t ⟨t0, t3, t4, t5⟩
  have hL : ∀ q, stepLen Try.prog 24 (.slice (some ⟨q, 0, some l.length⟩) l.length 1) = some { v := .int .i64 l.length } := fun q => by simp [stepLen, Try.underlying24]
  have dn : ((l.length : Int) != (l.length : Int)) = false := ine_f rfl
  refine w_assoc (s_run (by simp only [runL, List.drop_succ_cons, List.drop_zero, awant_some, Option.getD_some, List.getElem?_toArray, List.getElem?_cons_succ, List.getElem?_cons_zero, Option.bind_some, b_tt, b_tf, b_ft, b_ff, Bool.not_true, Bool.not_false, List.take_succ_cons, List.take_zero, awant_none, astep, evl, put, ap_none, ap_new, ap_wr, List.length_nil, List.length_cons, Nat.add_zero, Nat.zero_add, upd_app, stepBin, abin, stepUn, stepPick, stepExtract, stepCall, if_true, if_false, reduceCtorEq, ↓reduceIte, Nat.reduceEqDiff, Nat.reduceAdd, List.map_cons, List.map_nil, Option.map_some, Option.map_none, Bool.false_eq_true, Int.reduceLE, Int.reduceToNat, ne_eq, not_false_eq_true, and_self, and_true, true_and, decide_true, decide_false, Int.reduceEq, Int.reduceLT, Int.reduceBEq, Int.reduceBNe, not_true_eq_false, undef, t0, t4, t5, hlen, hL, dn] <;> rfl) ?_)
  refine s_false (by simp [evl, upd_app]) (s_skip ?_)
  have b2' : G3 (n + 1) = some ⟨false, 5, bs (move l row0)⟩ := k3.at (by omega) b2
  have hx1 := byt_lt (move_lt hb full_row) 0
  have hx2 := byt_lt (back_lt hb full_row) 0
  obtain ⟨i1, i2, i3⟩ := own_at (P := Try.prog) (T := 24) b2' (i := 0) (bs_at (by omega)) Try.underlying24 tsize5 aggT5
  have h1l : (bs (move l row0)).length = l.length := by simp [hml]
  rw [h1l] at i1 i2 i3
  have i1' : stepIndex Try.prog 24 (.slice (some ⟨n + 1, 0, some l.length⟩) l.length 1) (.int .i64 0) = some { v := .pointer (some ⟨n + 1, 0, some l.length⟩) } := i1 .i64
  refine s_run (by simp only [runL, List.drop_succ_cons, List.drop_zero, awant_some, Option.getD_some, List.getElem?_toArray, List.getElem?_cons_succ, List.getElem?_cons_zero, Option.bind_some, b_tt, b_tf, b_ft, b_ff, Bool.not_true, Bool.not_false, List.take_succ_cons, List.take_zero, awant_none, astep, evl, put, ap_none, ap_new, ap_wr, List.length_nil, List.length_cons, Nat.add_zero, Nat.zero_add, upd_app, stepBin, abin, stepUn, stepPick, stepExtract, stepCall, if_true, if_false, reduceCtorEq, ↓reduceIte, Nat.reduceEqDiff, Nat.reduceAdd, List.map_cons, List.map_nil, Option.map_some, Option.map_none, Bool.false_eq_true, Int.reduceLE, Int.reduceToNat, ne_eq, not_false_eq_true, and_self, and_true, true_and, decide_true, decide_false, Int.reduceEq, Int.reduceLT, Int.reduceBEq, Int.reduceBNe, not_true_eq_false, undef, t4, i1', i2, i3] <;> rfl) (w_heap fun G4 hG4 => ?_)
  have k4 : Kp (n + 1) G3 G4 := by rw [hG4]; exact kp_upd (Kp.refl _ _) (Nat.le_refl _)
  have b3' : G4 (n + 2) = some ⟨false, 5, bs (back l row0)⟩ := by rw [hG4]; simp [upd_app, b3]
  obtain ⟨j1, j2, j3⟩ := own_at (P := Try.prog) (T := 24) b3' (i := 0) (bs_at (by omega)) Try.underlying24 tsize5 aggT5
  have h2l : (bs (back l row0)).length = l.length := by simp [hkl]
  rw [h2l] at j1 j2 j3
  have j1' : stepIndex Try.prog 24 (.slice (some ⟨n + 2, 0, some l.length⟩) l.length 1) (.int .i64 0) = some { v := .pointer (some ⟨n + 2, 0, some l.length⟩) } := j1 .i64
  refine s_run (by simp only [runL, List.drop_succ_cons, List.drop_zero, awant_some, Option.getD_some, List.getElem?_toArray, List.getElem?_cons_succ, List.getElem?_cons_zero, Option.bind_some, b_tt, b_tf, b_ft, b_ff, Bool.not_true, Bool.not_false, List.take_succ_cons, List.take_zero, awant_none, astep, evl, put, ap_none, ap_new, ap_wr, List.length_nil, List.length_cons, Nat.add_zero, Nat.zero_add, upd_app, stepBin, abin, stepUn, stepPick, stepExtract, stepCall, if_true, if_false, reduceCtorEq, ↓reduceIte, Nat.reduceEqDiff, Nat.reduceAdd, List.map_cons, List.map_nil, Option.map_some, Option.map_none, Bool.false_eq_true, Int.reduceLE, Int.reduceToNat, ne_eq, not_false_eq_true, and_self, and_true, true_and, decide_true, decide_false, Int.reduceEq, Int.reduceLT, Int.reduceBEq, Int.reduceBNe, not_true_eq_false, undef, t5, j1', j2, j3] <;> rfl) (w_heap fun G5 hG5 => ?_)
  have k5 : Kp (n + 1) G4 G5 := by rw [hG5]; exact kp_upd (Kp.refl _ _) (by omega)
  refine w_gen (fun t => t 0 = v ∧ t 3 = .slice (some ⟨n, 0, some l.length⟩) l.length 1) (by simp [upd_app, t0, t3]) ?_
  clear t0 t3 t4 t5
  rintro t ⟨t0, t3⟩
  have kall : Kp (n + 1) G1 G5 := ((k2.trans k3 (by omega)).trans k4 (by omega)).trans k5 (by omega)
  have kk : Kp n g2 G5 := k1.trans kall (by omega)
  obtain ⟨r1, x1, _⟩ := src_str (src_bs (m := l.length) (kall.at (by omega) b1) rfl)
  obtain ⟨r2, x2, _⟩ := src_str (kk.src hv2 hdom)
  refine s_take 6 (by simp only [runL, List.drop_succ_cons, List.drop_zero, awant_some, Option.getD_some, List.getElem?_toArray, List.getElem?_cons_succ, List.getElem?_cons_zero, Option.bind_some, b_tt, b_tf, b_ft, b_ff, Bool.not_true, Bool.not_false, List.take_succ_cons, List.take_zero, awant_none, astep, evl, put, ap_none, ap_new, ap_wr, List.length_nil, List.length_cons, Nat.add_zero, Nat.zero_add, upd_app, stepBin, abin, stepUn, stepPick, stepExtract, stepCall, if_true, if_false, reduceCtorEq, ↓reduceIte, Nat.reduceEqDiff, Nat.reduceAdd, List.map_cons, List.map_nil, Option.map_some, Option.map_none, Bool.false_eq_true, Int.reduceLE, Int.reduceToNat, ne_eq, not_false_eq_true, and_self, and_true, true_and, decide_true, decide_false, Int.reduceEq, Int.reduceLT, Int.reduceBEq, Int.reduceBNe, not_true_eq_false, undef, t0, t3, x1, x2, beq_self_eq_true] <;> rfl) ?_
  refine g_call 30 _ (by simp only [runL, List.drop_succ_cons, List.drop_zero, awant_some, Option.getD_some, List.getElem?_toArray, List.getElem?_cons_succ, List.getElem?_cons_zero, Option.bind_some, b_tt, b_tf, b_ft, b_ff, Bool.not_true, Bool.not_false, List.take_succ_cons, List.take_zero, awant_none, astep, evl, put, ap_none, ap_new, ap_wr, List.length_nil, List.length_cons, Nat.add_zero, Nat.zero_add, upd_app, stepBin, abin, stepUn, stepPick, stepExtract, stepCall, if_true, if_false, reduceCtorEq, ↓reduceIte, Nat.reduceEqDiff, Nat.reduceAdd, List.map_cons, List.map_nil, Option.map_some, Option.map_none, Bool.false_eq_true, Int.reduceLE, Int.reduceToNat, ne_eq, not_false_eq_true, and_self, and_true, true_and, decide_true, decide_false, Int.reduceEq, Int.reduceLT, Int.reduceBEq, Int.reduceBNe, not_true_eq_false, undef] <;> rfl) rfl (fknown_spec _) (by simp) ?_
  refine ops_run (by simp only [runL, List.drop_succ_cons, List.drop_zero, awant_some, Option.getD_some, List.getElem?_toArray, List.getElem?_cons_succ, List.getElem?_cons_zero, Option.bind_some, b_tt, b_tf, b_ft, b_ff, Bool.not_true, Bool.not_false, List.take_succ_cons, List.take_zero, awant_none, astep, evl, put, ap_none, ap_new, ap_wr, List.length_nil, List.length_cons, Nat.add_zero, Nat.zero_add, upd_app, stepBin, abin, stepUn, stepPick, stepExtract, stepCall, if_true, if_false, reduceCtorEq, ↓reduceIte, Nat.reduceEqDiff, Nat.reduceAdd, List.map_cons, List.map_nil, Option.map_some, Option.map_none, Bool.false_eq_true, Int.reduceLE, Int.reduceToNat, ne_eq, not_false_eq_true, and_self, and_true, true_and, decide_true, decide_false, Int.reduceEq, Int.reduceLT, Int.reduceBEq, Int.reduceBNe, not_true_eq_false, undef] <;> rfl) ?_
  exact w_ret ⟨.inr rfl, by simp, [], fin_plain hs hwf kk (by simp [resVal, upd_app]) trivial⟩
end Go.Proofs.Ytahinegnblankaa
