import Derived.Test.YtahinegnblankaaP43
namespace Go.Proofs.Ytahinegnblankaa
open Go Abs
set_option linter.unusedSimpArgs false
set_option linter.unusedVariables false

theorem newRdE_v' (v : Value) (l : List Nat) (j : Nat) : (newRdE v l j).v = .tuple #[ptr4 (j + 1), .bool true] := rfl
theorem newRdE_ap' (v : Value) (l : List Nat) (j : Nat) (g : Heap) : Rd 91 (j + 1) (.slice (some ⟨j, 0, some l.length⟩) l.length 1) l 4 (be (l.take 4)) 4294967295 ((newRdE v l j).ap g) := by
  refine ⟨by simp [newRdE, Eff.ap, setAll, addAll, upd_app], src_bs (m := l.length) (k := j) (ro := false) (e := 5) (by simp [newRdE, Eff.ap, setAll, addAll, upd_app]) rfl, fun h => by have := srcBlk_own (e := 1) _ h; omega⟩

def flatI (ps : List (Int × Int × Int)) : List Int := ps.flatMap fun p => [p.1, p.2.1, p.2.2]
theorem flatI_snoc (ps : List (Int × Int × Int)) (p : Int × Int × Int) : flatI (ps ++ [p]) = flatI ps ++ [p.1, p.2.1, p.2.2] := by simp [flatI]
theorem flatI_len (ps : List (Int × Int × Int)) : (flatI ps).length = ps.length * 3 := by
  induction ps with
  | nil => rfl
  | cons p ps ih => simp [flatI] at ih ⊢; omega
theorem flatI_at : ∀ (ps : List (Int × Int × Int)) (i : Nat) (h : i < ps.length), (flatI ps)[i * 3]? = some ps[i].1 ∧ (flatI ps)[i * 3 + 1]? = some ps[i].2.1 ∧ (flatI ps)[i * 3 + 2]? = some ps[i].2.2
  | [], i, h => by simp at h
  | p :: ps, 0, h => ⟨rfl, rfl, rfl⟩
  | p :: ps, i + 1, h => by
    obtain ⟨a, b, c⟩ := flatI_at ps i (by simpa using h)
    have e : flatI (p :: ps) = p.1 :: p.2.1 :: p.2.2 :: flatI ps := rfl
    rw [e, show (i + 1) * 3 = i * 3 + 1 + 1 + 1 by omega]
    simp only [List.getElem?_cons_succ, List.getElem_cons_succ]
    exact ⟨a, b, c⟩

theorem aggT39 : aggT Try.prog 39 = some true := by kernel_rfl
theorem tinf39 : tinf Try.prog 39 = some ([.int .i64 0, .int .i64 0, .int .i64 0], 3, 24) := by kernel_rfl
theorem lit32_1 (x y z : Int) (j : Nat) : stepBuildSlice Try.prog 32 1 [(0, .agg #[.int .i64 x, .int .i64 y, .int .i64 z])] j = some { v := .slice (some ⟨j, 0, some 3⟩) 1 3, j := j, a := [⟨false, 39, [.int .i64 x, .int .i64 y, .int .i64 z]⟩] } := by
  simp [stepBuildSlice, Try.underlying32, tinf39, fillL, Value.cells, isTup, putAll, List.replicate, zcells]
  rfl
theorem src_agg {g : Heap} {v : Value} {len i : Nat} {cs : List Value} (h : Src g v 3 len cs) (hi : i < len) :
    ∃ pa : Addr, (∀ k, stepIndex Try.prog 32 v (.int k (i : Int)) = some { v := .pointer (some pa) }) ∧ stepLoad Try.prog 39 (.pointer (some pa)) g = some { v := .agg ((cs.drop (i * 3)).take 3).toArray, r := [pa.block] } ∧ pa.block ∈ srcBlk v := by
  rcases h with ⟨_, rfl, _⟩ | ⟨a, _, rfl, _⟩ | ⟨a, b, rfl, h0, hb, hcs, hle⟩
  · omega
  · omega
  · obtain ⟨h1, h2⟩ := rd_spec hb
    refine ⟨{ a with off := a.off + i * 3 }, fun k => ?_, ?_, by simp [srcBlk]; omega⟩
    · simp [stepIndex, Try.underlying32, h1, tsize39, hi]
    · have hb' : rd g { a with off := a.off + i * 3 } = some b := hb
      have hcell : (cs.drop (i * 3)).take 3 = (b.cells.drop (a.off + i * 3)).take 3 := by
        rw [hcs, List.drop_take, List.take_take, Nat.min_eq_left (by omega), List.drop_drop]
      have hle2 : a.off + i * 3 + 3 ≤ b.cells.length := by omega
      simp [stepLoad, hb', aggT39, tsize39, hcell, hle2]

/-- What the reader finds and takes where a span was put. -/
theorem dec_step {ps : List (Int × Int × Int)} (h : ∀ p ∈ ps, spn p.1 p.2.1 p.2.2 = true) {i : Nat} (hi : i < ps.length) {c : Nat} (hc : c + be (encS (ps.take i)).1 = be ((encS ps).1.take (encS (ps.take i)).1.length)) :
    cfB c (encS (ps.take i)).2 ps[i].2.2 = true ∧ ps[i].1 ≤ cfA c (encS (ps.take i)).2 ps[i].2.2 ∧ cfA c (encS (ps.take i)).2 ps[i].2.2 < ps[i].1 + ps[i].2.1 ∧ 0 ≤ ps[i].1 ∧ 0 ≤ ps[i].2.1 ∧ ps[i].1 + ps[i].2.1 ≤ 65536 ∧ 0 ≤ ps[i].2.2 ∧ ps[i].2.2 ≤ 65536 ∧ c < 2 ^ 32 ∧
    tkB (encS ps).1.length (encS (ps.take i)).1.length c (encS (ps.take i)).2 ps[i].1 ps[i].2.1 ps[i].2.2 = true ∧ tkU (encS ps).1.length (encS (ps.take i)).1.length c (encS (ps.take i)).2 ps[i].1 ps[i].2.1 ps[i].2.2 = (encS (ps.take (i + 1))).1.length ∧
    tkR (encS ps).1.length (encS (ps.take i)).1.length c (encS (ps.take i)).2 ps[i].1 ps[i].2.1 ps[i].2.2 = (encS (ps.take (i + 1))).2 ∧
    tkC (encS ps).1 (encS (ps.take i)).1.length c (encS (ps.take i)).2 ps[i].1 ps[i].2.1 ps[i].2.2 + be (encS (ps.take (i + 1))).1 = be ((encS ps).1.take (encS (ps.take (i + 1))).1.length) := by
  have hL := encS_lies h (ps.length - (i + 1)) (i + 1) (by omega)
  have hs := h ps[i] (List.getElem_mem hi)
  have e := encS_enc (ps.take i)
  have hF := (encS_enc ps).b
  have es : encS (ps.take (i + 1)) = (nxN (encS (ps.take i)).1 (encS (ps.take i)).2 ps[i].1 ps[i].2.1 ps[i].2.2, nxR (encS (ps.take i)).2 ps[i].1 ps[i].2.1 ps[i].2.2) := by rw [List.take_succ_eq_append_getElem hi, encS_snoc]
  unfold nxN nxR at es
  rw [if_pos hs, if_pos hs] at es
  rw [es] at hL ⊢
  generalize (encS ps).1 = F at *
  generalize (encS (ps.take i)).1 = N at *
  generalize (encS (ps.take i)).2 = r at *
  generalize ps[i] = p at *
  obtain ⟨x, y, z⟩ := p
  dsimp only at *
  obtain ⟨lo, sz, tot, rfl, rfl, rfl, ok⟩ := spn_ok hs e.r1 e.r2
  simp only [Int.toNat_natCast] at *
  obtain ⟨⟨a1, a2⟩, a3, a4⟩ := back_step hF e ok hL hc
  have hp := ok.part.1
  have hle := ok.le
  have hr2 := ok.r2
  have ht1 := ok.t1
  have hs1 := ok.s1
  have hsm := ok.sum
  have q1 : lo ≤ c / (r / tot) := by rw [Nat.le_div_iff_mul_le (by omega), Nat.mul_comm]; exact a1
  have q2 : c / (r / tot) < lo + sz := by rw [Nat.div_lt_iff_lt_mul (by omega), Nat.mul_comm]; exact a2
  have hO : tkO c r lo sz tot = true := by
    unfold tkO
    rw [hs, Bool.true_and]
    exact decide_eq_true ⟨a1, a2⟩
  obtain ⟨e1, e2, e3, e4⟩ := tk_yes (F := F) (u := N.length) hO
  have hcf : cfB c r (tot : Int) = true := decide_eq_true ⟨by omega, by omega, by rw [Int.toNat_natCast]; omega⟩
  have hca : cfA c r (tot : Int) = ((c / (r / tot) : Nat) : Int) := by unfold cfA; rw [if_pos hcf, Int.toNat_natCast]
  rw [Nat.mul_add] at a2
  rw [hca, e1, e2, e3, e4, Nat.min_eq_left a3]
  refine ⟨hcf, by omega, by omega, by omega, by omega, by omega, by omega, by omega, by omega, decide_eq_true a3, ?_, rfl, a4⟩
  rw [putN_len]

set_option maxRecDepth 10000 in
theorem lawCBack_spec (v : Value) (zs : List Int) (len : Nat) (g : Heap) (hz : ∀ x ∈ zs, -9223372036854775808 ≤ x ∧ x ≤ 9223372036854775807) (hl : zs.length = len * 3) (hv : Src g v 3 len (zs.map (Value.int .i64))) : FnSpec Try.prog 18 [v] g { v := .bool true, r := srcBlk v } := by
  refine spec_of_body [2] follows Try.func18 rfl (by kernel_rfl) (by simp [Try.f18]) (by kernel_rfl) rfl ?_
  intro g2 s2 n hg hfr hs hn hwf hsv
  have hv2 : Src g2 v 3 len (zs.map (Value.int .i64)) := hv.congr fun i hi => hg i (by simp [Eff.fp, hi])
  have hlen := len32 hv2
  have hdom : ∀ i ∈ srcBlk v, i < n := fun i hi => by
    obtain ⟨b, hb⟩ := Option.isSome_iff_exists.1 (hv2.dom i hi)
    exact hs i (hwf i b hb).1
  clear hv hg hfr hn
  refine s_run (by simp only [runL, List.drop_succ_cons, List.drop_zero, awant_some, Option.getD_some, List.getElem?_toArray, List.getElem?_cons_succ, List.getElem?_cons_zero, Option.bind_some, b_tt, b_tf, b_ft, b_ff, Bool.not_true, Bool.not_false, List.take_succ_cons, List.take_zero, awant_none, astep, evl, put, ap_none, ap_new, ap_wr, List.length_nil, List.length_cons, Nat.add_zero, Nat.zero_add, upd_app, stepBin, abin, stepUn, stepPick, stepExtract, stepCall, if_true, if_false, reduceCtorEq, ↓reduceIte, Nat.reduceEqDiff, Nat.reduceAdd, List.map_cons, List.map_nil, Option.map_some, Option.map_none, Bool.false_eq_true, Int.reduceLE, Int.reduceToNat, ne_eq, not_false_eq_true, and_self, and_true, true_and, decide_true, decide_false, Int.reduceEq, Int.reduceLT, Int.reduceBEq, Int.reduceBNe, not_true_eq_false, undef] <;> rfl) ?_
  by_cases ea1 : (len : Int) > 300
  · have ed1 : (decide ((len : Int) > 300)) = true := decide_eq_true ea1
    refine w_assoc (s_run (by simp only [runL, List.drop_succ_cons, List.drop_zero, awant_some, Option.getD_some, List.getElem?_toArray, List.getElem?_cons_succ, List.getElem?_cons_zero, Option.bind_some, b_tt, b_tf, b_ft, b_ff, Bool.not_true, Bool.not_false, List.take_succ_cons, List.take_zero, awant_none, astep, evl, put, ap_none, ap_new, ap_wr, List.length_nil, List.length_cons, Nat.add_zero, Nat.zero_add, upd_app, stepBin, abin, stepUn, stepPick, stepExtract, stepCall, if_true, if_false, reduceCtorEq, ↓reduceIte, Nat.reduceEqDiff, Nat.reduceAdd, List.map_cons, List.map_nil, Option.map_some, Option.map_none, Bool.false_eq_true, Int.reduceLE, Int.reduceToNat, ne_eq, not_false_eq_true, and_self, and_true, true_and, decide_true, decide_false, Int.reduceEq, Int.reduceLT, Int.reduceBEq, Int.reduceBNe, not_true_eq_false, undef, hlen, ed1] <;> rfl) ?_)
    refine s_true (by simp [evl, upd_app]) (w_assoc (s_run (by simp only [runL, List.drop_succ_cons, List.drop_zero, awant_some, Option.getD_some, List.getElem?_toArray, List.getElem?_cons_succ, List.getElem?_cons_zero, Option.bind_some, b_tt, b_tf, b_ft, b_ff, Bool.not_true, Bool.not_false, List.take_succ_cons, List.take_zero, awant_none, astep, evl, put, ap_none, ap_new, ap_wr, List.length_nil, List.length_cons, Nat.add_zero, Nat.zero_add, upd_app, stepBin, abin, stepUn, stepPick, stepExtract, stepCall, if_true, if_false, reduceCtorEq, ↓reduceIte, Nat.reduceEqDiff, Nat.reduceAdd, List.map_cons, List.map_nil, Option.map_some, Option.map_none, Bool.false_eq_true, Int.reduceLE, Int.reduceToNat, ne_eq, not_false_eq_true, and_self, and_true, true_and, decide_true, decide_false, Int.reduceEq, Int.reduceLT, Int.reduceBEq, Int.reduceBNe, not_true_eq_false, undef] <;> rfl) ?_))
    refine s_ret ⟨.inr rfl, by simp, [], fin_none ?_ trivial (fun _ _ h => h)⟩
    simp [resVal, upd_app]
  have ed1 : (decide ((len : Int) > 300)) = false := decide_eq_false ea1
  refine w_assoc (s_run (by simp only [runL, List.drop_succ_cons, List.drop_zero, awant_some, Option.getD_some, List.getElem?_toArray, List.getElem?_cons_succ, List.getElem?_cons_zero, Option.bind_some, b_tt, b_tf, b_ft, b_ff, Bool.not_true, Bool.not_false, List.take_succ_cons, List.take_zero, awant_none, astep, evl, put, ap_none, ap_new, ap_wr, List.length_nil, List.length_cons, Nat.add_zero, Nat.zero_add, upd_app, stepBin, abin, stepUn, stepPick, stepExtract, stepCall, if_true, if_false, reduceCtorEq, ↓reduceIte, Nat.reduceEqDiff, Nat.reduceAdd, List.map_cons, List.map_nil, Option.map_some, Option.map_none, Bool.false_eq_true, Int.reduceLE, Int.reduceToNat, ne_eq, not_false_eq_true, and_self, and_true, true_and, decide_true, decide_false, Int.reduceEq, Int.reduceLT, Int.reduceBEq, Int.reduceBNe, not_true_eq_false, undef, hlen, ed1] <;> rfl) ?_)
  refine s_false (by simp [evl, upd_app]) (s_skip ?_)
  refine w_gen (fun t => t 0 = v) (by simp [upd_app]) ?_
  rintro t t0
  refine s_take 0 rfl ?_
  refine ops_call 31 _ rfl (newW_spec g2 n) (by intro _; rfl) (ops_heap fun G1 hG1 => ?_)
  have W1 : Wr n none [] 0 4294967295 G1 := by rw [hG1]; exact newWE_ap n g2
  have k1 : Kp n g2 G1 := by rw [hG1]; exact kp_ap (Kp.refl _ _) rfl (fun _ => Nat.le_refl _)
  refine ops_run (by simp only [runL, List.drop_succ_cons, List.drop_zero, awant_some, Option.getD_some, List.getElem?_toArray, List.getElem?_cons_succ, List.getElem?_cons_zero, Option.bind_some, b_tt, b_tf, b_ft, b_ff, Bool.not_true, Bool.not_false, List.take_succ_cons, List.take_zero, awant_none, astep, evl, put, ap_none, ap_new, ap_wr, List.length_nil, List.length_cons, Nat.add_zero, Nat.zero_add, upd_app, stepBin, abin, stepUn, stepPick, stepExtract, stepCall, if_true, if_false, reduceCtorEq, ↓reduceIte, Nat.reduceEqDiff, Nat.reduceAdd, List.map_cons, List.map_nil, Option.map_some, Option.map_none, Bool.false_eq_true, Int.reduceLE, Int.reduceToNat, ne_eq, not_false_eq_true, and_self, and_true, true_and, decide_true, decide_false, Int.reduceEq, Int.reduceLT, Int.reduceBEq, Int.reduceBNe, not_true_eq_false, undef, newWE_v] <;> rfl) ?_
  refine w_gen (fun t => t 0 = v ∧ t 3 = ptr3 n) (by simp [upd_app, put, t0]) ?_
  clear t0
  rintro t ⟨t0, t3⟩
  refine w_assoc (s_run (by simp only [runL, List.drop_succ_cons, List.drop_zero, awant_some, Option.getD_some, List.getElem?_toArray, List.getElem?_cons_succ, List.getElem?_cons_zero, Option.bind_some, b_tt, b_tf, b_ft, b_ff, Bool.not_true, Bool.not_false, List.take_succ_cons, List.take_zero, awant_none, astep, evl, put, ap_none, ap_new, ap_wr, List.length_nil, List.length_cons, Nat.add_zero, Nat.zero_add, upd_app, stepBin, abin, stepUn, stepPick, stepExtract, stepCall, if_true, if_false, reduceCtorEq, ↓reduceIte, Nat.reduceEqDiff, Nat.reduceAdd, List.map_cons, List.map_nil, Option.map_some, Option.map_none, Bool.false_eq_true, Int.reduceLE, Int.reduceToNat, ne_eq, not_false_eq_true, and_self, and_true, true_and, decide_true, decide_false, Int.reduceEq, Int.reduceLT, Int.reduceBEq, Int.reduceBNe, not_true_eq_false, undef, t3, Try.underlying33, Option.isNone_some] <;> rfl) ?_)
  refine s_false (by simp [evl, upd_app]) (s_skip ?_)
  refine s_run (by simp only [runL, List.drop_succ_cons, List.drop_zero, awant_some, Option.getD_some, List.getElem?_toArray, List.getElem?_cons_succ, List.getElem?_cons_zero, Option.bind_some, b_tt, b_tf, b_ft, b_ff, Bool.not_true, Bool.not_false, List.take_succ_cons, List.take_zero, awant_none, astep, evl, put, ap_none, ap_new, ap_wr, List.length_nil, List.length_cons, Nat.add_zero, Nat.zero_add, upd_app, stepBin, abin, stepUn, stepPick, stepExtract, stepCall, if_true, if_false, reduceCtorEq, ↓reduceIte, Nat.reduceEqDiff, Nat.reduceAdd, List.map_cons, List.map_nil, Option.map_some, Option.map_none, Bool.false_eq_true, Int.reduceLE, Int.reduceToNat, ne_eq, not_false_eq_true, and_self, and_true, true_and, decide_true, decide_false, Int.reduceEq, Int.reduceLT, Int.reduceBEq, Int.reduceBNe, not_true_eq_false, undef] <;> rfl) ?_
  refine w_assoc (s_run (by simp only [runL, List.drop_succ_cons, List.drop_zero, awant_some, Option.getD_some, List.getElem?_toArray, List.getElem?_cons_succ, List.getElem?_cons_zero, Option.bind_some, b_tt, b_tf, b_ft, b_ff, Bool.not_true, Bool.not_false, List.take_succ_cons, List.take_zero, awant_none, astep, evl, put, ap_none, ap_new, ap_wr, List.length_nil, List.length_cons, Nat.add_zero, Nat.zero_add, upd_app, stepBin, abin, stepUn, stepPick, stepExtract, stepCall, if_true, if_false, reduceCtorEq, ↓reduceIte, Nat.reduceEqDiff, Nat.reduceAdd, List.map_cons, List.map_nil, Option.map_some, Option.map_none, Bool.false_eq_true, Int.reduceLE, Int.reduceToNat, ne_eq, not_false_eq_true, and_self, and_true, true_and, decide_true, decide_false, Int.reduceEq, Int.reduceLT, Int.reduceBEq, Int.reduceBNe, not_true_eq_false, undef] <;> rfl) ?_)
  refine s_for 0 len (fun i t g n' => t 0 = v ∧ t 3 = ptr3 n ∧ n + 1 ≤ n' ∧ ∃ sl b m ps io, Wr n sl b m (encS ps).2 g ∧ all4 b m = (encS ps).1 ∧ m < 2 ^ 32 ∧ (∀ x ∈ b, x < 256) ∧ (∀ q, sl = some q → n + 1 ≤ q ∧ q < n') ∧ OwnI 39 3 g (t 4) ps.length ((flatI ps).map (Value.int .i64)) io ∧ (∀ k, io = some k → n + 1 ≤ k ∧ k < n' ∧ sl ≠ some k) ∧ (∀ p ∈ ps, spn p.1 p.2.1 p.2.2 = true) ∧ ps.length ≤ i ∧ Kp n g2 g) (by omega) (by omega) (by simp [upd_app])
    ⟨by simp [upd_app, t0], by simp [upd_app, t3], Nat.le_refl _, none, [], 0, [], none, W1, by decide, by omega, by simp, by simp, by simp only [upd_app]; exact OwnI.nil _ _ _, by simp, by simp, by simp, k1⟩ ?_ ?_ ?_
  · clear t0 t3
    rintro i t g M hi t5 ⟨t0, t3, hM, sl, b, m, ps, io, hW, hN, hm, hb, hsl, hO, hio, hsp, hpl, hkp⟩
    have dl : decide ((i : Int) < (len : Int)) = decide (i < len) := by simp
    exact ⟨_, (by simp only [runL, List.drop_succ_cons, List.drop_zero, awant_some, Option.getD_some, List.getElem?_toArray, List.getElem?_cons_succ, List.getElem?_cons_zero, Option.bind_some, b_tt, b_tf, b_ft, b_ff, Bool.not_true, Bool.not_false, List.take_succ_cons, List.take_zero, awant_none, astep, evl, put, ap_none, ap_new, ap_wr, List.length_nil, List.length_cons, Nat.add_zero, Nat.zero_add, upd_app, stepBin, abin, stepUn, stepPick, stepExtract, stepCall, if_true, if_false, reduceCtorEq, ↓reduceIte, Nat.reduceEqDiff, Nat.reduceAdd, List.map_cons, List.map_nil, Option.map_some, Option.map_none, Bool.false_eq_true, Int.reduceLE, Int.reduceToNat, ne_eq, not_false_eq_true, and_self, and_true, true_and, decide_true, decide_false, Int.reduceEq, Int.reduceLT, Int.reduceBEq, Int.reduceBNe, not_true_eq_false, undef, t5, t0, hlen, dl] <;> rfl), by simp [upd_app], by simp [upd_app, t5], by simp [upd_app, t0], by simp [upd_app, t3], hM, sl, b, m, ps, io, hW, hN, hm, hb, hsl, by simpa [upd_app] using hO, hio, hsp, hpl, hkp⟩
  · clear t0 t3
    rintro i t g M hi t5 ⟨t0, t3, hM, sl, b, m, ps, io, hW, hN, hm, hb, hsl, hO, hio, hsp, hpl, hkp⟩
    have e0 := encS_enc ps
    have hbl : b.length + 4 = (encS ps).1.length := by rw [← hN, all4_len]
    have hNl := encS_len ps
    obtain ⟨pa, q0, q1, q2, l0, l1, l2, i1, f0, f1, f2, ld0, ld1, ld2, m0, m1, m2⟩ := row3 (hkp.src hv2 hdom) hl hi
    have hx := hz _ (List.getElem_mem l0)
    have hzz := hz _ (List.getElem_mem l2)
    have hagg : ∀ G, Kp n g2 G → ∃ pa : Addr, stepIndex Try.prog 32 v (.int .i64 (i : Int)) = some { v := .pointer (some pa) } ∧ stepLoad Try.prog 39 (.pointer (some pa)) G = some { v := .agg #[.int .i64 zs[i * 3], .int .i64 zs[i * 3 + 1], .int .i64 zs[i * 3 + 2]], r := [pa.block] } := fun G hG => by
      obtain ⟨pa, a1, a2, _⟩ := src_agg (hG.src hv2 hdom) hi
      refine ⟨pa, a1 .i64, ?_⟩
      rw [a2, List.drop_eq_getElem_cons (by simpa using l0), List.drop_eq_getElem_cons (by simpa using l1), List.drop_eq_getElem_cons (by simpa using l2)]
      simp
    have m0 := hdom _ m0
    have m1 := hdom _ m1
    have m2 := hdom _ m2
    generalize zs[i * 3] = x at hx ld0 hagg
    generalize zs[i * 3 + 1] = y at ld1 hagg
    generalize zs[i * 3 + 2] = z at hzz ld2 hagg
    obtain ⟨F, sl', b', m', hF, hFv, hFj, hFa, hFr, hFw, hW', hN', hm', hb', hfr', hsl'⟩ := put_any (x := x) (y := y) (z := z) (j := M) hW hb hm e0.r1 e0.r2 (by omega) (by omega) (by omega) (by omega)
    rw [hN] at hN'
    have hI := i1 .i64
    refine s_drawn #[0, 0, 0, 6, 14, 30, 0, 0, 192, 448, 960, 0, 0, 6144, 14336, 30720, 65535] (by decide +kernel) ?_
    refine d_pure 5 (by simp only [runP, List.drop_succ_cons, List.drop_zero, awant_some, Option.getD_some, List.getElem?_toArray, List.getElem?_cons_succ, List.getElem?_cons_zero, Option.bind_some, b_tt, b_tf, b_ft, b_ff, Bool.not_true, Bool.not_false, List.take_succ_cons, List.take_zero, awant_none, astep, evl, put, ap_none, ap_new, ap_wr, List.length_nil, List.length_cons, Nat.add_zero, Nat.zero_add, upd_app, stepBin, abin, stepUn, stepPick, stepExtract, stepCall, if_true, if_false, reduceCtorEq, ↓reduceIte, Nat.reduceEqDiff, Nat.reduceAdd, List.map_cons, List.map_nil, Option.map_some, Option.map_none, Bool.false_eq_true, Int.reduceLE, Int.reduceToNat, ne_eq, not_false_eq_true, and_self, and_true, true_and, decide_true, decide_false, Int.reduceEq, Int.reduceLT, Int.reduceBEq, Int.reduceBNe, not_true_eq_false, undef, List.isEmpty_nil, Bool.and_self, Bool.and_true, t0, t3, t5, hI, f0] <;> rfl) ?_
    dsimp only
    refine d_low (lo := n) (hi := M) _ (by simp only [runL, List.drop_succ_cons, List.drop_zero, awant_some, Option.getD_some, List.getElem?_toArray, List.getElem?_cons_succ, List.getElem?_cons_zero, Option.bind_some, b_tt, b_tf, b_ft, b_ff, Bool.not_true, Bool.not_false, List.take_succ_cons, List.take_zero, awant_none, astep, evl, put, ap_none, ap_new, ap_wr, List.length_nil, List.length_cons, Nat.add_zero, Nat.zero_add, upd_app, stepBin, abin, stepUn, stepPick, stepExtract, stepCall, if_true, if_false, reduceCtorEq, ↓reduceIte, Nat.reduceEqDiff, Nat.reduceAdd, List.map_cons, List.map_nil, Option.map_some, Option.map_none, Bool.false_eq_true, Int.reduceLE, Int.reduceToNat, ne_eq, not_false_eq_true, and_self, and_true, true_and, decide_true, decide_false, Int.reduceEq, Int.reduceLT, Int.reduceBEq, Int.reduceBNe, not_true_eq_false, undef, ld0] <;> rfl) rfl (AccB.nil _ _ _) (by intro x hx; simp at hx; omega) rfl rfl (by omega) fun acc a1 => ?_
    refine d_pure 4 (by simp only [runP, List.drop_succ_cons, List.drop_zero, awant_some, Option.getD_some, List.getElem?_toArray, List.getElem?_cons_succ, List.getElem?_cons_zero, Option.bind_some, b_tt, b_tf, b_ft, b_ff, Bool.not_true, Bool.not_false, List.take_succ_cons, List.take_zero, awant_none, astep, evl, put, ap_none, ap_new, ap_wr, List.length_nil, List.length_cons, Nat.add_zero, Nat.zero_add, upd_app, stepBin, abin, stepUn, stepPick, stepExtract, stepCall, if_true, if_false, reduceCtorEq, ↓reduceIte, Nat.reduceEqDiff, Nat.reduceAdd, List.map_cons, List.map_nil, Option.map_some, Option.map_none, Bool.false_eq_true, Int.reduceLE, Int.reduceToNat, ne_eq, not_false_eq_true, and_self, and_true, true_and, decide_true, decide_false, Int.reduceEq, Int.reduceLT, Int.reduceBEq, Int.reduceBNe, not_true_eq_false, undef, List.isEmpty_nil, Bool.and_self, Bool.and_true, t0, t5, hI, f1] <;> rfl) ?_
    dsimp only
    refine d_low (lo := n) (hi := M) _ (by simp only [runL, List.drop_succ_cons, List.drop_zero, awant_some, Option.getD_some, List.getElem?_toArray, List.getElem?_cons_succ, List.getElem?_cons_zero, Option.bind_some, b_tt, b_tf, b_ft, b_ff, Bool.not_true, Bool.not_false, List.take_succ_cons, List.take_zero, awant_none, astep, evl, put, ap_none, ap_new, ap_wr, List.length_nil, List.length_cons, Nat.add_zero, Nat.zero_add, upd_app, stepBin, abin, stepUn, stepPick, stepExtract, stepCall, if_true, if_false, reduceCtorEq, ↓reduceIte, Nat.reduceEqDiff, Nat.reduceAdd, List.map_cons, List.map_nil, Option.map_some, Option.map_none, Bool.false_eq_true, Int.reduceLE, Int.reduceToNat, ne_eq, not_false_eq_true, and_self, and_true, true_and, decide_true, decide_false, Int.reduceEq, Int.reduceLT, Int.reduceBEq, Int.reduceBNe, not_true_eq_false, undef, ld1] <;> rfl) rfl (a1.le (Nat.le_refl _) (Nat.le_refl _) (by simp)) (by intro x hx; simp at hx; omega) rfl rfl (by omega) fun acc a2 => ?_
    refine d_pure 4 (by simp only [runP, List.drop_succ_cons, List.drop_zero, awant_some, Option.getD_some, List.getElem?_toArray, List.getElem?_cons_succ, List.getElem?_cons_zero, Option.bind_some, b_tt, b_tf, b_ft, b_ff, Bool.not_true, Bool.not_false, List.take_succ_cons, List.take_zero, awant_none, astep, evl, put, ap_none, ap_new, ap_wr, List.length_nil, List.length_cons, Nat.add_zero, Nat.zero_add, upd_app, stepBin, abin, stepUn, stepPick, stepExtract, stepCall, if_true, if_false, reduceCtorEq, ↓reduceIte, Nat.reduceEqDiff, Nat.reduceAdd, List.map_cons, List.map_nil, Option.map_some, Option.map_none, Bool.false_eq_true, Int.reduceLE, Int.reduceToNat, ne_eq, not_false_eq_true, and_self, and_true, true_and, decide_true, decide_false, Int.reduceEq, Int.reduceLT, Int.reduceBEq, Int.reduceBNe, not_true_eq_false, undef, List.isEmpty_nil, Bool.and_self, Bool.and_true, t0, t5, hI, f2] <;> rfl) ?_
    dsimp only
    refine d_low (lo := n) (hi := M) _ (by simp only [runL, List.drop_succ_cons, List.drop_zero, awant_some, Option.getD_some, List.getElem?_toArray, List.getElem?_cons_succ, List.getElem?_cons_zero, Option.bind_some, b_tt, b_tf, b_ft, b_ff, Bool.not_true, Bool.not_false, List.take_succ_cons, List.take_zero, awant_none, astep, evl, put, ap_none, ap_new, ap_wr, List.length_nil, List.length_cons, Nat.add_zero, Nat.zero_add, upd_app, stepBin, abin, stepUn, stepPick, stepExtract, stepCall, if_true, if_false, reduceCtorEq, ↓reduceIte, Nat.reduceEqDiff, Nat.reduceAdd, List.map_cons, List.map_nil, Option.map_some, Option.map_none, Bool.false_eq_true, Int.reduceLE, Int.reduceToNat, ne_eq, not_false_eq_true, and_self, and_true, true_and, decide_true, decide_false, Int.reduceEq, Int.reduceLT, Int.reduceBEq, Int.reduceBNe, not_true_eq_false, undef, ld2] <;> rfl) rfl (a2.le (Nat.le_refl _) (Nat.le_refl _) (by simp)) (by intro x hx; simp at hx; omega) rfl rfl (by omega) fun acc a3 => ?_
    refine d_fcall1 (lo := n) (hi := M) 33 F rfl rfl rfl rfl hF hFj (a3.le (Nat.le_refl _) (Nat.le_refl _) (by simp)) (by decide +kernel)
      (fun x hx => by
        rcases hFr x hx with e | e
        · omega
        · have := hsl x e; omega) (fun x hx => by
        rcases hFw x hx with e | e | e
        · omega
        · have := hsl x e; omega
        · omega) (by omega) fun acc a4 => d_heap fun G3 hG3 => d_num fun M3 hM3 => ?_
    rw [← hG3] at hW' hfr'
    clear a1 a2 a3 a4
    have k3 : Kp n g2 G3 := fun q hq => by rw [hfr' q (by omega) (by omega) (fun e => by have := hsl q e; omega), hkp q hq]
    have hO3 : OwnI 39 3 G3 (t 4) ps.length ((flatI ps).map (Value.int .i64)) io := hO.keep fun k hk => by
      have := hio k hk
      exact hfr' k (by omega) (by omega) this.2.2
    have hsl3 : ∀ q, sl' = some q → n + 1 ≤ q ∧ q < M3 := fun q e => by
      rcases hsl' with e' | ⟨_, e', e3⟩
      · have := hsl q (by rw [← e', e]); omega
      · rw [e'] at e; cases e; omega
    have hio3 : ∀ k, io = some k → n + 1 ≤ k ∧ k < M ∧ sl' ≠ some k := fun k hk => by
      have h1 := hio k hk
      refine ⟨h1.1, h1.2.1, fun e => ?_⟩
      rcases hsl' with e' | ⟨_, e', _⟩
      · exact h1.2.2 (by rw [← e', e])
      · rw [e'] at e; cases e; omega
    cases hsb : spn x y z with
    | false =>
      rw [hsb] at hFv
      refine w_false (by simp [evl, put, upd_app, hFv]) (w_skip ?_)
      have n1 : nxN (encS ps).1 (encS ps).2 x y z = (encS ps).1 := by unfold nxN; rw [hsb]; rfl
      have n2 : nxR (encS ps).2 x y z = (encS ps).2 := by unfold nxR; rw [hsb]; rfl
      rw [n1] at hN'
      rw [n2] at hW'
      simp only [rangePost]
      refine ⟨by simp [upd_app, put, t5], fun _ _ _ => ⟨by simp [upd_app, put, t0], by simp [upd_app, put, t3], by show n + 1 ≤ M3; omega, sl', b', m', ps, io, hW', hN', hm', hb', hsl3, by simpa [upd_app, put] using hO3, fun k hk => ?_, hsp, by omega, k3⟩⟩
      have := hio3 k hk
      exact ⟨this.1, by show k < M3; omega, this.2.2⟩
    | true =>
      rw [hsb] at hFv
      refine w_true (by simp [evl, put, upd_app, hFv]) ?_
      obtain ⟨pb, hI2, hld⟩ := hagg G3 k3
      have hsrc : srcCells (.slice (some ⟨M3, 0, some 3⟩) 1 3) (upd G3 M3 (some ⟨false, 39, [.int .i64 x, .int .i64 y, .int .i64 z]⟩)) 3 = some (1, [.int .i64 x, .int .i64 y, .int .i64 z]) := by simp [srcCells, rd]
      have hO4 : OwnI 39 3 (upd G3 M3 (some ⟨false, 39, [.int .i64 x, .int .i64 y, .int .i64 z]⟩)) (t 4) ps.length ((flatI ps).map (Value.int .i64)) io := hO3.keep fun k hk => upd_ne _ _ (by have := hio3 k hk; omega)
      obtain ⟨f, io', hf, hO5, hio', hkf⟩ := own_append (P := Try.prog) (n := M3 + 1) hO4 hsrc (by simp) Try.underlying32 tinf39 (by omega) (by omega) (by omega)
      have hfl : (flatI ps).map (Value.int .i64) ++ [.int .i64 x, .int .i64 y, .int .i64 z] = (flatI (ps ++ [(x, y, z)])).map (Value.int .i64) := by rw [flatI_snoc]; simp
      rw [hfl] at hO5
      have hpl' : (ps ++ [(x, y, z)]).length = ps.length + 1 := by simp
      rw [← hpl'] at hO5
      refine w_gen (fun t' => t' 0 = v ∧ t' 3 = ptr3 n ∧ t' 5 = .int .i64 i ∧ t' 4 = t 4) (by simp [upd_app, put, t0, t3, t5]) ?_
      rintro t' ⟨t0', t3', t5', t4'⟩
      refine region_run (id := 11) (by simp only [runL, List.drop_succ_cons, List.drop_zero, awant_some, Option.getD_some, List.getElem?_toArray, List.getElem?_cons_succ, List.getElem?_cons_zero, Option.bind_some, b_tt, b_tf, b_ft, b_ff, Bool.not_true, Bool.not_false, List.take_succ_cons, List.take_zero, awant_none, astep, evl, put, ap_none, ap_new, ap_wr, List.length_nil, List.length_cons, Nat.add_zero, Nat.zero_add, upd_app, stepBin, abin, stepUn, stepPick, stepExtract, stepCall, if_true, if_false, reduceCtorEq, ↓reduceIte, Nat.reduceEqDiff, Nat.reduceAdd, List.map_cons, List.map_nil, Option.map_some, Option.map_none, Bool.false_eq_true, Int.reduceLE, Int.reduceToNat, ne_eq, not_false_eq_true, and_self, and_true, true_and, decide_true, decide_false, Int.reduceEq, Int.reduceLT, Int.reduceBEq, Int.reduceBNe, not_true_eq_false, undef, t0', t4', t5', hI2, hld, lit32_1, hf] <;> rfl) ?_
      have fr : ∀ k, k < M3 → io ≠ some k → f.ap (upd G3 M3 (some ⟨false, 39, [.int .i64 x, .int .i64 y, .int .i64 z]⟩)) k = G3 k := fun k h1 h2 => by
        rw [hkf k (by omega) (fun e => h2 e.symm), upd_ne _ _ (by omega)]
      have es := encS_snoc ps (x, y, z)
      simp only [rangePost]
      refine ⟨by simp [upd_app, put, t5'], fun _ _ _ => ⟨by simp [upd_app, put, t0'], by simp [upd_app, put, t3'], by show n + 1 ≤ M3 + 1 + f.a.length; omega, sl', b', m', ps ++ [(x, y, z)], io', ?_, by rw [es]; exact hN', hm', hb', fun q e => ?_, by simpa [upd_app, put] using hO5, fun k hk => ?_, fun p hp => ?_, by omega, fun q hq => ?_⟩⟩
      · rw [es]
        exact hW'.congr (fr n (by omega) (fun e => by have := hio n e; omega)) (fun q e => fr q (hsl3 q e).2 (fun e2 => (hio3 q e2).2.2 e))
      · have := hsl3 q e
        show n + 1 ≤ q ∧ q < M3 + 1 + f.a.length
        omega
      · show n + 1 ≤ k ∧ k < M3 + 1 + f.a.length ∧ sl' ≠ some k
        rcases hio' with ⟨e', e2⟩ | ⟨_, e', e2⟩
        · rw [e'] at hk
          have := hio3 k hk
          exact ⟨this.1, by omega, this.2.2⟩
        · rw [e'] at hk
          cases hk
          exact ⟨by omega, by omega, fun e => by have := hsl3 _ e; omega⟩
      · rcases List.mem_append.1 hp with hp | hp
        · exact hsp p hp
        · simp at hp; subst hp; exact hsb
      · show f.ap (upd G3 M3 _) q = g2 q
        rw [fr q (by omega) (fun e => by have := hio q e; omega), k3 q hq]
  · clear t0 t3
    rintro t g M ⟨t0, t3, hM, sl, b, m, ps, io, hW, hN, hm, hb, hsl, hO, hio, hsp, hpl, hkp⟩
    have e0 := encS_enc ps
    have hbl : b.length + 4 = (encS ps).1.length := by rw [← hN, all4_len]
    have hNl := encS_len ps
    have hE := end_spec n sl b m (encS ps).2 g M hW hm (by omega)
    rw [hN] at hE
    obtain ⟨F, hFF⟩ : ∃ F, (encS ps).1 = F := ⟨_, rfl⟩
    have hF := e0.b
    have hF4 := e0.l
    rw [hFF] at hE hbl hNl hF hF4
    refine s_take 1 (by simp only [runL, List.drop_succ_cons, List.drop_zero, awant_some, Option.getD_some, List.getElem?_toArray, List.getElem?_cons_succ, List.getElem?_cons_zero, Option.bind_some, b_tt, b_tf, b_ft, b_ff, Bool.not_true, Bool.not_false, List.take_succ_cons, List.take_zero, awant_none, astep, evl, put, ap_none, ap_new, ap_wr, List.length_nil, List.length_cons, Nat.add_zero, Nat.zero_add, upd_app, stepBin, abin, stepUn, stepPick, stepExtract, stepCall, if_true, if_false, reduceCtorEq, ↓reduceIte, Nat.reduceEqDiff, Nat.reduceAdd, List.map_cons, List.map_nil, Option.map_some, Option.map_none, Bool.false_eq_true, Int.reduceLE, Int.reduceToNat, ne_eq, not_false_eq_true, and_self, and_true, true_and, decide_true, decide_false, Int.reduceEq, Int.reduceLT, Int.reduceBEq, Int.reduceBNe, not_true_eq_false, undef, t3] <;> rfl) ?_
    refine ops_call 35 _ rfl hE (by intro _; rfl) (ops_heap fun G3 hG3 => ?_)
    have b3 : G3 M = some ⟨false, 5, bs F⟩ := by rw [hG3]; simp [endE, Eff.ap, setAll, addAll]
    have k3 : Kp M g G3 := by rw [hG3]; exact kp_ap (Kp.refl _ _) rfl (fun _ => Nat.le_refl _)
    refine ops_run (by simp only [runL, List.drop_succ_cons, List.drop_zero, awant_some, Option.getD_some, List.getElem?_toArray, List.getElem?_cons_succ, List.getElem?_cons_zero, Option.bind_some, b_tt, b_tf, b_ft, b_ff, Bool.not_true, Bool.not_false, List.take_succ_cons, List.take_zero, awant_none, astep, evl, put, ap_none, ap_new, ap_wr, List.length_nil, List.length_cons, Nat.add_zero, Nat.zero_add, upd_app, stepBin, abin, stepUn, stepPick, stepExtract, stepCall, if_true, if_false, reduceCtorEq, ↓reduceIte, Nat.reduceEqDiff, Nat.reduceAdd, List.map_cons, List.map_nil, Option.map_some, Option.map_none, Bool.false_eq_true, Int.reduceLE, Int.reduceToNat, ne_eq, not_false_eq_true, and_self, and_true, true_and, decide_true, decide_false, Int.reduceEq, Int.reduceLT, Int.reduceBEq, Int.reduceBNe, not_true_eq_false, undef] <;> rfl) ?_
    refine w_gen (fun t' => t' 4 = t 4 ∧ t' 6 = .slice (some ⟨M, 0, some F.length⟩) F.length 1) (by simp [upd_app, put, endE]) ?_
    rintro t' ⟨t4, t6⟩
    refine s_take 1 (by simp only [runL, List.drop_succ_cons, List.drop_zero, awant_some, Option.getD_some, List.getElem?_toArray, List.getElem?_cons_succ, List.getElem?_cons_zero, Option.bind_some, b_tt, b_tf, b_ft, b_ff, Bool.not_true, Bool.not_false, List.take_succ_cons, List.take_zero, awant_none, astep, evl, put, ap_none, ap_new, ap_wr, List.length_nil, List.length_cons, Nat.add_zero, Nat.zero_add, upd_app, stepBin, abin, stepUn, stepPick, stepExtract, stepCall, if_true, if_false, reduceCtorEq, ↓reduceIte, Nat.reduceEqDiff, Nat.reduceAdd, List.map_cons, List.map_nil, Option.map_some, Option.map_none, Bool.false_eq_true, Int.reduceLE, Int.reduceToNat, ne_eq, not_false_eq_true, and_self, and_true, true_and, decide_true, decide_false, Int.reduceEq, Int.reduceLT, Int.reduceBEq, Int.reduceBNe, not_true_eq_false, undef, t6] <;> rfl) ?_
    refine ops_call 52 _ rfl (newRd_yes _ F G3 (M + 1) hF4 (by omega) hF (src_bs b3 rfl)) (by intro _; rfl) (ops_heap fun G4 hG4 => ?_)
    have k4 : Kp (M + 1) G3 G4 := by rw [hG4]; exact kp_ap (Kp.refl _ _) rfl (fun _ => Nat.le_refl _)
    have R4 : Rd 91 (M + 2) (.slice (some ⟨M + 1, 0, some F.length⟩) F.length 1) F 4 (be (F.take 4)) 4294967295 G4 := by rw [hG4]; exact newRdE_ap' _ F (M + 1) G3
    refine ops_run (by simp only [runL, List.drop_succ_cons, List.drop_zero, awant_some, Option.getD_some, List.getElem?_toArray, List.getElem?_cons_succ, List.getElem?_cons_zero, Option.bind_some, b_tt, b_tf, b_ft, b_ff, Bool.not_true, Bool.not_false, List.take_succ_cons, List.take_zero, awant_none, astep, evl, put, ap_none, ap_new, ap_wr, List.length_nil, List.length_cons, Nat.add_zero, Nat.zero_add, upd_app, stepBin, abin, stepUn, stepPick, stepExtract, stepCall, if_true, if_false, reduceCtorEq, ↓reduceIte, Nat.reduceEqDiff, Nat.reduceAdd, List.map_cons, List.map_nil, Option.map_some, Option.map_none, Bool.false_eq_true, Int.reduceLE, Int.reduceToNat, ne_eq, not_false_eq_true, and_self, and_true, true_and, decide_true, decide_false, Int.reduceEq, Int.reduceLT, Int.reduceBEq, Int.reduceBNe, not_true_eq_false, undef, newRdE_v'] <;> rfl) ?_
    obtain ⟨pv, hpv⟩ : ∃ pv, t 4 = pv := ⟨_, rfl⟩
    rw [hpv] at t4 hO
    refine w_gen (fun t => t 4 = pv ∧ t 6 = .slice (some ⟨M, 0, some F.length⟩) F.length 1 ∧ t 7 = ptr4 (M + 2) ∧ t 8 = .bool true) (by simp [upd_app, put, t4, t6]) ?_
    clear t4 t6 t0 t3 hpv
    rintro t ⟨t4, t6, t7, t8⟩
    have hP : Src G4 pv 3 ps.length ((flatI ps).map (Value.int .i64)) := (hO.keep fun k hk => by
      have := hio k hk
      rw [k4 k (by omega), k3 k (by omega)]).toSrc
    have hPd : ∀ i ∈ srcBlk pv, i < M := fun i hi => by
      rcases hO with ⟨_, e, _⟩ | ⟨k, e, e2, _⟩
      · rw [e] at hi; simp [srcBlk] at hi
      · have := hio k e
        rw [e2] at hi
        have := srcBlk_own (e := 3) i hi
        omega
    have hlp := len32 hP
    have kk : Kp n g2 G4 := fun q hq => by rw [k4 q (by omega), k3 q (by omega), hkp q hq]
    refine w_assoc (s_run (by simp only [runL, List.drop_succ_cons, List.drop_zero, awant_some, Option.getD_some, List.getElem?_toArray, List.getElem?_cons_succ, List.getElem?_cons_zero, Option.bind_some, b_tt, b_tf, b_ft, b_ff, Bool.not_true, Bool.not_false, List.take_succ_cons, List.take_zero, awant_none, astep, evl, put, ap_none, ap_new, ap_wr, List.length_nil, List.length_cons, Nat.add_zero, Nat.zero_add, upd_app, stepBin, abin, stepUn, stepPick, stepExtract, stepCall, if_true, if_false, reduceCtorEq, ↓reduceIte, Nat.reduceEqDiff, Nat.reduceAdd, List.map_cons, List.map_nil, Option.map_some, Option.map_none, Bool.false_eq_true, Int.reduceLE, Int.reduceToNat, ne_eq, not_false_eq_true, and_self, and_true, true_and, decide_true, decide_false, Int.reduceEq, Int.reduceLT, Int.reduceBEq, Int.reduceBNe, not_true_eq_false, undef, t7, t8, Try.underlying63, Option.isNone_some] <;> rfl) ?_)
    refine s_false (by simp [evl, upd_app]) (s_skip ?_)
    refine w_assoc (s_run (by simp only [runL, List.drop_succ_cons, List.drop_zero, awant_some, Option.getD_some, List.getElem?_toArray, List.getElem?_cons_succ, List.getElem?_cons_zero, Option.bind_some, b_tt, b_tf, b_ft, b_ff, Bool.not_true, Bool.not_false, List.take_succ_cons, List.take_zero, awant_none, astep, evl, put, ap_none, ap_new, ap_wr, List.length_nil, List.length_cons, Nat.add_zero, Nat.zero_add, upd_app, stepBin, abin, stepUn, stepPick, stepExtract, stepCall, if_true, if_false, reduceCtorEq, ↓reduceIte, Nat.reduceEqDiff, Nat.reduceAdd, List.map_cons, List.map_nil, Option.map_some, Option.map_none, Bool.false_eq_true, Int.reduceLE, Int.reduceToNat, ne_eq, not_false_eq_true, and_self, and_true, true_and, decide_true, decide_false, Int.reduceEq, Int.reduceLT, Int.reduceBEq, Int.reduceBNe, not_true_eq_false, undef] <;> rfl) ?_)
    refine s_for 0 ps.length (fun i t g n' => t 4 = pv ∧ t 6 = .slice (some ⟨M, 0, some F.length⟩) F.length 1 ∧ t 7 = ptr4 (M + 2) ∧ M + 3 ≤ n' ∧ ∃ c, Rd 91 (M + 2) (.slice (some ⟨M + 1, 0, some F.length⟩) F.length 1) F (encS (ps.take i)).1.length c (encS (ps.take i)).2 g ∧ c + be (encS (ps.take i)).1 = be (F.take (encS (ps.take i)).1.length) ∧ ∀ q, q < M + 2 → g q = G4 q) (by omega) (by omega) (by simp [upd_app])
      ⟨by simp [upd_app, t4], by simp [upd_app, t6], by simp [upd_app, t7], by show M + 3 ≤ M + 1 + 2; omega, be (F.take 4), R4, rfl, fun _ _ => rfl⟩ ?_ ?_ ?_
    · clear t4 t6 t7 t8
      rintro i t g n' hi t9 ⟨t4, t6, t7, hn', c, hR, hc, hf⟩
      have dl : decide ((i : Int) < ((ps.length : Nat) : Int)) = decide (i < ps.length) := by simp
      exact ⟨_, (by simp only [runL, List.drop_succ_cons, List.drop_zero, awant_some, Option.getD_some, List.getElem?_toArray, List.getElem?_cons_succ, List.getElem?_cons_zero, Option.bind_some, b_tt, b_tf, b_ft, b_ff, Bool.not_true, Bool.not_false, List.take_succ_cons, List.take_zero, awant_none, astep, evl, put, ap_none, ap_new, ap_wr, List.length_nil, List.length_cons, Nat.add_zero, Nat.zero_add, upd_app, stepBin, abin, stepUn, stepPick, stepExtract, stepCall, if_true, if_false, reduceCtorEq, ↓reduceIte, Nat.reduceEqDiff, Nat.reduceAdd, List.map_cons, List.map_nil, Option.map_some, Option.map_none, Bool.false_eq_true, Int.reduceLE, Int.reduceToNat, ne_eq, not_false_eq_true, and_self, and_true, true_and, decide_true, decide_false, Int.reduceEq, Int.reduceLT, Int.reduceBEq, Int.reduceBNe, not_true_eq_false, undef, t4, t9, hlp, dl] <;> rfl), by simp [upd_app], by simp [upd_app, t9], by simp [upd_app, t4], by simp [upd_app, t6], by simp [upd_app, t7], hn', c, hR, hc, hf⟩
    · clear t4 t6 t7 t8
      rintro i t g n' hi t9 ⟨t4, t6, t7, hn', c, hR, hc, hf⟩
      rw [← hFF] at hc
      obtain ⟨s1, s2', s3, s4, s5, s6, s7, s8, s9, s10, s11, s12, s13⟩ := dec_step hsp hi hc
      have ei := encS_enc (ps.take i)
      have hLs := encS_lies hsp (ps.length - i) i (by omega)
      have hu : (encS (ps.take i)).1.length ≤ F.length := by
        obtain ⟨d, hd, _⟩ := hLs
        rw [← hFF]; omega
      rw [hFF] at s10 s11 s12 s13
      obtain ⟨pa, q0, q1, q2, l0, l1, l2, i1, f0, f1, f2, ld0, ld1, ld2, m0, m1, m2⟩ := row3 (hP.congr (fun j hj => hf j (by have := hPd j hj; omega))) (flatI_len ps) hi
      obtain ⟨g0, g1, g2'⟩ := flatI_at ps i hi
      rw [List.getElem?_eq_getElem l0, Option.some.injEq] at g0
      rw [List.getElem?_eq_getElem l1, Option.some.injEq] at g1
      rw [List.getElem?_eq_getElem l2, Option.some.injEq] at g2'
      rw [g0] at ld0
      rw [g1] at ld1
      rw [g2'] at ld2
      clear g0 g1 g2'
      generalize ps[i] = p at *
      obtain ⟨x, y, z⟩ := p
      dsimp only at *
      obtain ⟨N, hNN⟩ : ∃ N, (encS (ps.take i)).1 = N := ⟨_, rfl⟩
      obtain ⟨r, hrr⟩ : ∃ r, (encS (ps.take i)).2 = r := ⟨_, rfl⟩
      rw [hNN, hrr] at s10 s11 s12 s13 hR ei
      rw [hrr] at s1 s2' s3
      rw [hNN] at hu
      have hI := i1 .i64
      refine s_take 6 (by simp only [runL, List.drop_succ_cons, List.drop_zero, awant_some, Option.getD_some, List.getElem?_toArray, List.getElem?_cons_succ, List.getElem?_cons_zero, Option.bind_some, b_tt, b_tf, b_ft, b_ff, Bool.not_true, Bool.not_false, List.take_succ_cons, List.take_zero, awant_none, astep, evl, put, ap_none, ap_new, ap_wr, List.length_nil, List.length_cons, Nat.add_zero, Nat.zero_add, upd_app, stepBin, abin, stepUn, stepPick, stepExtract, stepCall, if_true, if_false, reduceCtorEq, ↓reduceIte, Nat.reduceEqDiff, Nat.reduceAdd, List.map_cons, List.map_nil, Option.map_some, Option.map_none, Bool.false_eq_true, Int.reduceLE, Int.reduceToNat, ne_eq, not_false_eq_true, and_self, and_true, true_and, decide_true, decide_false, Int.reduceEq, Int.reduceLT, Int.reduceBEq, Int.reduceBNe, not_true_eq_false, undef, t4, t7, t9, hI, f2, ld2] <;> rfl) ?_
      refine ops_call 54 _ rfl (cfind_spec (M + 2) _ F N.length c r z g hR ei.r1 ei.r2 (by omega)) (by simp) ?_
      refine ops_run (by simp only [runL, List.drop_succ_cons, List.drop_zero, awant_some, Option.getD_some, List.getElem?_toArray, List.getElem?_cons_succ, List.getElem?_cons_zero, Option.bind_some, b_tt, b_tf, b_ft, b_ff, Bool.not_true, Bool.not_false, List.take_succ_cons, List.take_zero, awant_none, astep, evl, put, ap_none, ap_new, ap_wr, List.length_nil, List.length_cons, Nat.add_zero, Nat.zero_add, upd_app, stepBin, abin, stepUn, stepPick, stepExtract, stepCall, if_true, if_false, reduceCtorEq, ↓reduceIte, Nat.reduceEqDiff, Nat.reduceAdd, List.map_cons, List.map_nil, Option.map_some, Option.map_none, Bool.false_eq_true, Int.reduceLE, Int.reduceToNat, ne_eq, not_false_eq_true, and_self, and_true, true_and, decide_true, decide_false, Int.reduceEq, Int.reduceLT, Int.reduceBEq, Int.reduceBNe, not_true_eq_false, undef] <;> rfl) ?_
      rw [s1]
      generalize cfA c r z = V at *
      refine w_gen (fun t => t 4 = pv ∧ t 6 = .slice (some ⟨M, 0, some F.length⟩) F.length 1 ∧ t 7 = ptr4 (M + 2) ∧ t 9 = .int .i64 i ∧ t 10 = .int .i64 V ∧ t 11 = .bool true) (by simp [upd_app, put, t4, t6, t7, t9]) ?_
      clear t4 t6 t7 t9
      rintro t ⟨t4, t6, t7, t9, t10, t11⟩
      obtain ⟨E, hE2, hEv, hEa, hEr, hEw, hR', hEf⟩ := take_any (x := x) (y := y) (z := z) hR hF ei.r1 ei.r2 hu (by omega) (by omega) (by omega) (by omega)
      have d1 : decide (V < x) = false := decide_eq_false (by omega)
      have w1 : IntKind.i64.wrap (x + y) = x + y := wrap64_of (by omega) (by omega)
      have d2 : decide (V ≥ x + y) = false := decide_eq_false (by omega)
      refine s_drawn #[0, 1, 3, 7, 7, 7, 55, 119, 247, 511, 1023, 2047, 4095, 4095, 4095, 28671, 61439, 126975, 4095, 4095, 790527, 1839103, 3936255, 8384511, 16777215, 33554431, 67108863, 134217727, 134217727, 134217727, 939524095, 2013265919, 4160749567, 134217727, 134217727, 25904021503, 60263759871, 128983236607, 134217727, 134217727, 824767938559, 1924279566335, 4123302821887, 8796093022207, 17592186044415, 35184372088831] (by decide +kernel) ?_
      refine d_readsB 43 (by simp) (by simp only [runR, List.drop_succ_cons, List.drop_zero, awant_some, Option.getD_some, List.getElem?_toArray, List.getElem?_cons_succ, List.getElem?_cons_zero, Option.bind_some, b_tt, b_tf, b_ft, b_ff, Bool.not_true, Bool.not_false, List.take_succ_cons, List.take_zero, awant_none, astep, evl, put, ap_none, ap_new, ap_wr, List.length_nil, List.length_cons, Nat.add_zero, Nat.zero_add, upd_app, stepBin, abin, stepUn, stepPick, stepExtract, stepCall, if_true, if_false, reduceCtorEq, ↓reduceIte, Nat.reduceEqDiff, Nat.reduceAdd, List.map_cons, List.map_nil, Option.map_some, Option.map_none, Bool.false_eq_true, Int.reduceLE, Int.reduceToNat, ne_eq, not_false_eq_true, and_self, and_true, true_and, decide_true, decide_false, Int.reduceEq, Int.reduceLT, Int.reduceBEq, Int.reduceBNe, not_true_eq_false, undef, List.isEmpty_nil, Bool.and_self, Bool.and_true, t4, t7, t9, t10, t11, hI, f0, f1, f2, ld0, ld1, ld2, d1, w1, d2] <;> rfl) fun a1 ha1 => ?_
      refine d_call 56 E rfl rfl rfl (by simp only [runL, List.drop_succ_cons, List.drop_zero, awant_some, Option.getD_some, List.getElem?_toArray, List.getElem?_cons_succ, List.getElem?_cons_zero, Option.bind_some, b_tt, b_tf, b_ft, b_ff, Bool.not_true, Bool.not_false, List.take_succ_cons, List.take_zero, awant_none, astep, evl, put, ap_none, ap_new, ap_wr, List.length_nil, List.length_cons, Nat.add_zero, Nat.zero_add, upd_app, stepBin, abin, stepUn, stepPick, stepExtract, stepCall, if_true, if_false, reduceCtorEq, ↓reduceIte, Nat.reduceEqDiff, Nat.reduceAdd, List.map_cons, List.map_nil, Option.map_some, Option.map_none, Bool.false_eq_true, Int.reduceLE, Int.reduceToNat, ne_eq, not_false_eq_true, and_self, and_true, true_and, decide_true, decide_false, Int.reduceEq, Int.reduceLT, Int.reduceBEq, Int.reduceBNe, not_true_eq_false, undef] <;> rfl) hE2 (fun h => (h hEa).elim) (fun q hq => .inl ?_) ?_
      · exact full_bit (ha1 q hq).1
      · refine d_heap fun G5 hG5 => ?_
        rw [← hG5] at hR' hEf
        rw [hEa]
        refine d_pure 2 (by simp only [runP, List.drop_succ_cons, List.drop_zero, awant_some, Option.getD_some, List.getElem?_toArray, List.getElem?_cons_succ, List.getElem?_cons_zero, Option.bind_some, b_tt, b_tf, b_ft, b_ff, Bool.not_true, Bool.not_false, List.take_succ_cons, List.take_zero, awant_none, astep, evl, put, ap_none, ap_new, ap_wr, List.length_nil, List.length_cons, Nat.add_zero, Nat.zero_add, upd_app, stepBin, abin, stepUn, stepPick, stepExtract, stepCall, if_true, if_false, reduceCtorEq, ↓reduceIte, Nat.reduceEqDiff, Nat.reduceAdd, List.map_cons, List.map_nil, Option.map_some, Option.map_none, Bool.false_eq_true, Int.reduceLE, Int.reduceToNat, ne_eq, not_false_eq_true, and_self, and_true, true_and, decide_true, decide_false, Int.reduceEq, Int.reduceLT, Int.reduceBEq, Int.reduceBNe, not_true_eq_false, undef, List.isEmpty_nil, Bool.and_self, Bool.and_true, hEv, s10] <;> rfl) ?_
        dsimp only
        refine w_false (by simp [evl, upd_app, put]) (w_skip ?_)
        simp only [rangePost]
        rw [s11, s12] at hR'
        refine ⟨by simp [upd_app, put, t9], fun _ _ _ => ⟨by simp [upd_app, put, t4], by simp [upd_app, put, t6], by simp [upd_app, put, t7], by simpa using hn', _, hR', s13, fun q hq => ?_⟩⟩
        show G5 q = G4 q
        rw [hEf q (by omega), hf q hq]
    · clear t4 t6 t7 t8
      rintro t g n' ⟨t4, t6, t7, hn', c, hR, hc, hf⟩
      rw [List.take_length, hFF] at hR
      have kf : Kp n g2 g := fun q hq => by rw [hf q (by omega), kk q hq]
      refine s_run (by simp only [runL, List.drop_succ_cons, List.drop_zero, awant_some, Option.getD_some, List.getElem?_toArray, List.getElem?_cons_succ, List.getElem?_cons_zero, Option.bind_some, b_tt, b_tf, b_ft, b_ff, Bool.not_true, Bool.not_false, List.take_succ_cons, List.take_zero, awant_none, astep, evl, put, ap_none, ap_new, ap_wr, List.length_nil, List.length_cons, Nat.add_zero, Nat.zero_add, upd_app, stepBin, abin, stepUn, stepPick, stepExtract, stepCall, if_true, if_false, reduceCtorEq, ↓reduceIte, Nat.reduceEqDiff, Nat.reduceAdd, List.map_cons, List.map_nil, Option.map_some, Option.map_none, Bool.false_eq_true, Int.reduceLE, Int.reduceToNat, ne_eq, not_false_eq_true, and_self, and_true, true_and, decide_true, decide_false, Int.reduceEq, Int.reduceLT, Int.reduceBEq, Int.reduceBNe, not_true_eq_false, undef] <;> rfl) ?_
      refine s_run (by simp only [runL, List.drop_succ_cons, List.drop_zero, awant_some, Option.getD_some, List.getElem?_toArray, List.getElem?_cons_succ, List.getElem?_cons_zero, Option.bind_some, b_tt, b_tf, b_ft, b_ff, Bool.not_true, Bool.not_false, List.take_succ_cons, List.take_zero, awant_none, astep, evl, put, ap_none, ap_new, ap_wr, List.length_nil, List.length_cons, Nat.add_zero, Nat.zero_add, upd_app, stepBin, abin, stepUn, stepPick, stepExtract, stepCall, if_true, if_false, reduceCtorEq, ↓reduceIte, Nat.reduceEqDiff, Nat.reduceAdd, List.map_cons, List.map_nil, Option.map_some, Option.map_none, Bool.false_eq_true, Int.reduceLE, Int.reduceToNat, ne_eq, not_false_eq_true, and_self, and_true, true_and, decide_true, decide_false, Int.reduceEq, Int.reduceLT, Int.reduceBEq, Int.reduceBNe, not_true_eq_false, undef] <;> rfl) ?_
      refine w_gen (fun t => t 6 = .slice (some ⟨M, 0, some F.length⟩) F.length 1 ∧ t 7 = ptr4 (M + 2) ∧ t 12 = .pointer none ∧ t 13 = .pointer none) (by simp [upd_app, put, t6, t7]) ?_
      clear t4 t6 t7
      rintro t ⟨t6, t7, t12, t13⟩
      refine s_take 1 (by simp only [runL, List.drop_succ_cons, List.drop_zero, awant_some, Option.getD_some, List.getElem?_toArray, List.getElem?_cons_succ, List.getElem?_cons_zero, Option.bind_some, b_tt, b_tf, b_ft, b_ff, Bool.not_true, Bool.not_false, List.take_succ_cons, List.take_zero, awant_none, astep, evl, put, ap_none, ap_new, ap_wr, List.length_nil, List.length_cons, Nat.add_zero, Nat.zero_add, upd_app, stepBin, abin, stepUn, stepPick, stepExtract, stepCall, if_true, if_false, reduceCtorEq, ↓reduceIte, Nat.reduceEqDiff, Nat.reduceAdd, List.map_cons, List.map_nil, Option.map_some, Option.map_none, Bool.false_eq_true, Int.reduceLE, Int.reduceToNat, ne_eq, not_false_eq_true, and_self, and_true, true_and, decide_true, decide_false, Int.reduceEq, Int.reduceLT, Int.reduceBEq, Int.reduceBNe, not_true_eq_false, undef, t13] <;> rfl) ?_
      refine ops_call 54 _ rfl (cfind_nil 1 g) (by simp) ?_
      refine ops_run (by simp only [runL, List.drop_succ_cons, List.drop_zero, awant_some, Option.getD_some, List.getElem?_toArray, List.getElem?_cons_succ, List.getElem?_cons_zero, Option.bind_some, b_tt, b_tf, b_ft, b_ff, Bool.not_true, Bool.not_false, List.take_succ_cons, List.take_zero, awant_none, astep, evl, put, ap_none, ap_new, ap_wr, List.length_nil, List.length_cons, Nat.add_zero, Nat.zero_add, upd_app, stepBin, abin, stepUn, stepPick, stepExtract, stepCall, if_true, if_false, reduceCtorEq, ↓reduceIte, Nat.reduceEqDiff, Nat.reduceAdd, List.map_cons, List.map_nil, Option.map_some, Option.map_none, Bool.false_eq_true, Int.reduceLE, Int.reduceToNat, ne_eq, not_false_eq_true, and_self, and_true, true_and, decide_true, decide_false, Int.reduceEq, Int.reduceLT, Int.reduceBEq, Int.reduceBNe, not_true_eq_false, undef] <;> rfl) ?_
      refine w_gen (fun t => t 6 = .slice (some ⟨M, 0, some F.length⟩) F.length 1 ∧ t 7 = ptr4 (M + 2) ∧ t 12 = .pointer none ∧ t 13 = .pointer none ∧ t 15 = .bool false) (by simp [upd_app, put, t6, t7, t12, t13]) ?_
      clear t6 t7 t12 t13
      rintro t ⟨t6, t7, t12, t13, t15⟩
      have e5 : (((F.length : Nat) : Int) == ((F.length : Nat) : Int)) = true := beq_self_eq_true _
      have e6 : ((0 : Int) == (0 : Int)) = true := beq_self_eq_true _
      refine s_take 1 (by simp only [runL, List.drop_succ_cons, List.drop_zero, awant_some, Option.getD_some, List.getElem?_toArray, List.getElem?_cons_succ, List.getElem?_cons_zero, Option.bind_some, b_tt, b_tf, b_ft, b_ff, Bool.not_true, Bool.not_false, List.take_succ_cons, List.take_zero, awant_none, astep, evl, put, ap_none, ap_new, ap_wr, List.length_nil, List.length_cons, Nat.add_zero, Nat.zero_add, upd_app, stepBin, abin, stepUn, stepPick, stepExtract, stepCall, if_true, if_false, reduceCtorEq, ↓reduceIte, Nat.reduceEqDiff, Nat.reduceAdd, List.map_cons, List.map_nil, Option.map_some, Option.map_none, Bool.false_eq_true, Int.reduceLE, Int.reduceToNat, ne_eq, not_false_eq_true, and_self, and_true, true_and, decide_true, decide_false, Int.reduceEq, Int.reduceLT, Int.reduceBEq, Int.reduceBNe, not_true_eq_false, undef, t7] <;> rfl) ?_
      refine ops_call 58 _ rfl (used_spec (M + 2) _ F F.length c (encS ps).2 g hR) (by simp) ?_
      refine ops_take 5 (by simp only [runL, List.drop_succ_cons, List.drop_zero, awant_some, Option.getD_some, List.getElem?_toArray, List.getElem?_cons_succ, List.getElem?_cons_zero, Option.bind_some, b_tt, b_tf, b_ft, b_ff, Bool.not_true, Bool.not_false, List.take_succ_cons, List.take_zero, awant_none, astep, evl, put, ap_none, ap_new, ap_wr, List.length_nil, List.length_cons, Nat.add_zero, Nat.zero_add, upd_app, stepBin, abin, stepUn, stepPick, stepExtract, stepCall, if_true, if_false, reduceCtorEq, ↓reduceIte, Nat.reduceEqDiff, Nat.reduceAdd, List.map_cons, List.map_nil, Option.map_some, Option.map_none, Bool.false_eq_true, Int.reduceLE, Int.reduceToNat, ne_eq, not_false_eq_true, and_self, and_true, true_and, decide_true, decide_false, Int.reduceEq, Int.reduceLT, Int.reduceBEq, Int.reduceBNe, not_true_eq_false, undef, t6, t12, len24, e5] <;> rfl) ?_
      refine g_call 33 _ (by simp only [runL, List.drop_succ_cons, List.drop_zero, awant_some, Option.getD_some, List.getElem?_toArray, List.getElem?_cons_succ, List.getElem?_cons_zero, Option.bind_some, b_tt, b_tf, b_ft, b_ff, Bool.not_true, Bool.not_false, List.take_succ_cons, List.take_zero, awant_none, astep, evl, put, ap_none, ap_new, ap_wr, List.length_nil, List.length_cons, Nat.add_zero, Nat.zero_add, upd_app, stepBin, abin, stepUn, stepPick, stepExtract, stepCall, if_true, if_false, reduceCtorEq, ↓reduceIte, Nat.reduceEqDiff, Nat.reduceAdd, List.map_cons, List.map_nil, Option.map_some, Option.map_none, Bool.false_eq_true, Int.reduceLE, Int.reduceToNat, ne_eq, not_false_eq_true, and_self, and_true, true_and, decide_true, decide_false, Int.reduceEq, Int.reduceLT, Int.reduceBEq, Int.reduceBNe, not_true_eq_false, undef] <;> rfl) rfl (put_nil 0 1 1 g) (by simp) ?_
      refine ops_take 4 (by simp only [runL, List.drop_succ_cons, List.drop_zero, awant_some, Option.getD_some, List.getElem?_toArray, List.getElem?_cons_succ, List.getElem?_cons_zero, Option.bind_some, b_tt, b_tf, b_ft, b_ff, Bool.not_true, Bool.not_false, List.take_succ_cons, List.take_zero, awant_none, astep, evl, put, ap_none, ap_new, ap_wr, List.length_nil, List.length_cons, Nat.add_zero, Nat.zero_add, upd_app, stepBin, abin, stepUn, stepPick, stepExtract, stepCall, if_true, if_false, reduceCtorEq, ↓reduceIte, Nat.reduceEqDiff, Nat.reduceAdd, List.map_cons, List.map_nil, Option.map_some, Option.map_none, Bool.false_eq_true, Int.reduceLE, Int.reduceToNat, ne_eq, not_false_eq_true, and_self, and_true, true_and, decide_true, decide_false, Int.reduceEq, Int.reduceLT, Int.reduceBEq, Int.reduceBNe, not_true_eq_false, undef, t12] <;> rfl) ?_
      refine g_call 35 _ (by simp only [runL, List.drop_succ_cons, List.drop_zero, awant_some, Option.getD_some, List.getElem?_toArray, List.getElem?_cons_succ, List.getElem?_cons_zero, Option.bind_some, b_tt, b_tf, b_ft, b_ff, Bool.not_true, Bool.not_false, List.take_succ_cons, List.take_zero, awant_none, astep, evl, put, ap_none, ap_new, ap_wr, List.length_nil, List.length_cons, Nat.add_zero, Nat.zero_add, upd_app, stepBin, abin, stepUn, stepPick, stepExtract, stepCall, if_true, if_false, reduceCtorEq, ↓reduceIte, Nat.reduceEqDiff, Nat.reduceAdd, List.map_cons, List.map_nil, Option.map_some, Option.map_none, Bool.false_eq_true, Int.reduceLE, Int.reduceToNat, ne_eq, not_false_eq_true, and_self, and_true, true_and, decide_true, decide_false, Int.reduceEq, Int.reduceLT, Int.reduceBEq, Int.reduceBNe, not_true_eq_false, undef] <;> rfl) rfl (end_nil g) (by simp) ?_
      have ln : stepLen Try.prog 24 (.slice none 0 0) = some { v := .int .i64 0 } := by simp [stepLen, Try.underlying24]
      refine ops_take 9 (by simp only [runL, List.drop_succ_cons, List.drop_zero, awant_some, Option.getD_some, List.getElem?_toArray, List.getElem?_cons_succ, List.getElem?_cons_zero, Option.bind_some, b_tt, b_tf, b_ft, b_ff, Bool.not_true, Bool.not_false, List.take_succ_cons, List.take_zero, awant_none, astep, evl, put, ap_none, ap_new, ap_wr, List.length_nil, List.length_cons, Nat.add_zero, Nat.zero_add, upd_app, stepBin, abin, stepUn, stepPick, stepExtract, stepCall, if_true, if_false, reduceCtorEq, ↓reduceIte, Nat.reduceEqDiff, Nat.reduceAdd, List.map_cons, List.map_nil, Option.map_some, Option.map_none, Bool.false_eq_true, Int.reduceLE, Int.reduceToNat, ne_eq, not_false_eq_true, and_self, and_true, true_and, decide_true, decide_false, Int.reduceEq, Int.reduceLT, Int.reduceBEq, Int.reduceBNe, not_true_eq_false, undef, t13, t15, ln, e6] <;> rfl) ?_
      refine g_call 56 _ (by simp only [runL, List.drop_succ_cons, List.drop_zero, awant_some, Option.getD_some, List.getElem?_toArray, List.getElem?_cons_succ, List.getElem?_cons_zero, Option.bind_some, b_tt, b_tf, b_ft, b_ff, Bool.not_true, Bool.not_false, List.take_succ_cons, List.take_zero, awant_none, astep, evl, put, ap_none, ap_new, ap_wr, List.length_nil, List.length_cons, Nat.add_zero, Nat.zero_add, upd_app, stepBin, abin, stepUn, stepPick, stepExtract, stepCall, if_true, if_false, reduceCtorEq, ↓reduceIte, Nat.reduceEqDiff, Nat.reduceAdd, List.map_cons, List.map_nil, Option.map_some, Option.map_none, Bool.false_eq_true, Int.reduceLE, Int.reduceToNat, ne_eq, not_false_eq_true, and_self, and_true, true_and, decide_true, decide_false, Int.reduceEq, Int.reduceLT, Int.reduceBEq, Int.reduceBNe, not_true_eq_false, undef] <;> rfl) rfl (take_nil 0 1 1 g) (by simp) ?_
      refine ops_take 4 (by simp only [runL, List.drop_succ_cons, List.drop_zero, awant_some, Option.getD_some, List.getElem?_toArray, List.getElem?_cons_succ, List.getElem?_cons_zero, Option.bind_some, b_tt, b_tf, b_ft, b_ff, Bool.not_true, Bool.not_false, List.take_succ_cons, List.take_zero, awant_none, astep, evl, put, ap_none, ap_new, ap_wr, List.length_nil, List.length_cons, Nat.add_zero, Nat.zero_add, upd_app, stepBin, abin, stepUn, stepPick, stepExtract, stepCall, if_true, if_false, reduceCtorEq, ↓reduceIte, Nat.reduceEqDiff, Nat.reduceAdd, List.map_cons, List.map_nil, Option.map_some, Option.map_none, Bool.false_eq_true, Int.reduceLE, Int.reduceToNat, ne_eq, not_false_eq_true, and_self, and_true, true_and, decide_true, decide_false, Int.reduceEq, Int.reduceLT, Int.reduceBEq, Int.reduceBNe, not_true_eq_false, undef, t13] <;> rfl) ?_
      refine g_call 58 _ (by simp only [runL, List.drop_succ_cons, List.drop_zero, awant_some, Option.getD_some, List.getElem?_toArray, List.getElem?_cons_succ, List.getElem?_cons_zero, Option.bind_some, b_tt, b_tf, b_ft, b_ff, Bool.not_true, Bool.not_false, List.take_succ_cons, List.take_zero, awant_none, astep, evl, put, ap_none, ap_new, ap_wr, List.length_nil, List.length_cons, Nat.add_zero, Nat.zero_add, upd_app, stepBin, abin, stepUn, stepPick, stepExtract, stepCall, if_true, if_false, reduceCtorEq, ↓reduceIte, Nat.reduceEqDiff, Nat.reduceAdd, List.map_cons, List.map_nil, Option.map_some, Option.map_none, Bool.false_eq_true, Int.reduceLE, Int.reduceToNat, ne_eq, not_false_eq_true, and_self, and_true, true_and, decide_true, decide_false, Int.reduceEq, Int.reduceLT, Int.reduceBEq, Int.reduceBNe, not_true_eq_false, undef] <;> rfl) rfl (used_nil g) (by simp) ?_
      refine ops_take 3 (by simp only [runL, List.drop_succ_cons, List.drop_zero, awant_some, Option.getD_some, List.getElem?_toArray, List.getElem?_cons_succ, List.getElem?_cons_zero, Option.bind_some, b_tt, b_tf, b_ft, b_ff, Bool.not_true, Bool.not_false, List.take_succ_cons, List.take_zero, awant_none, astep, evl, put, ap_none, ap_new, ap_wr, List.length_nil, List.length_cons, Nat.add_zero, Nat.zero_add, upd_app, stepBin, abin, stepUn, stepPick, stepExtract, stepCall, if_true, if_false, reduceCtorEq, ↓reduceIte, Nat.reduceEqDiff, Nat.reduceAdd, List.map_cons, List.map_nil, Option.map_some, Option.map_none, Bool.false_eq_true, Int.reduceLE, Int.reduceToNat, ne_eq, not_false_eq_true, and_self, and_true, true_and, decide_true, decide_false, Int.reduceEq, Int.reduceLT, Int.reduceBEq, Int.reduceBNe, not_true_eq_false, undef, e6] <;> rfl) ?_
      refine g_call 36 _ (by simp only [runL, List.drop_succ_cons, List.drop_zero, awant_some, Option.getD_some, List.getElem?_toArray, List.getElem?_cons_succ, List.getElem?_cons_zero, Option.bind_some, b_tt, b_tf, b_ft, b_ff, Bool.not_true, Bool.not_false, List.take_succ_cons, List.take_zero, awant_none, astep, evl, put, ap_none, ap_new, ap_wr, List.length_nil, List.length_cons, Nat.add_zero, Nat.zero_add, upd_app, stepBin, abin, stepUn, stepPick, stepExtract, stepCall, if_true, if_false, reduceCtorEq, ↓reduceIte, Nat.reduceEqDiff, Nat.reduceAdd, List.map_cons, List.map_nil, Option.map_some, Option.map_none, Bool.false_eq_true, Int.reduceLE, Int.reduceToNat, ne_eq, not_false_eq_true, and_self, and_true, true_and, decide_true, decide_false, Int.reduceEq, Int.reduceLT, Int.reduceBEq, Int.reduceBNe, not_true_eq_false, undef] <;> rfl) rfl (cknown_spec _) (by simp) ?_
      refine ops_run (by simp only [runL, List.drop_succ_cons, List.drop_zero, awant_some, Option.getD_some, List.getElem?_toArray, List.getElem?_cons_succ, List.getElem?_cons_zero, Option.bind_some, b_tt, b_tf, b_ft, b_ff, Bool.not_true, Bool.not_false, List.take_succ_cons, List.take_zero, awant_none, astep, evl, put, ap_none, ap_new, ap_wr, List.length_nil, List.length_cons, Nat.add_zero, Nat.zero_add, upd_app, stepBin, abin, stepUn, stepPick, stepExtract, stepCall, if_true, if_false, reduceCtorEq, ↓reduceIte, Nat.reduceEqDiff, Nat.reduceAdd, List.map_cons, List.map_nil, Option.map_some, Option.map_none, Bool.false_eq_true, Int.reduceLE, Int.reduceToNat, ne_eq, not_false_eq_true, and_self, and_true, true_and, decide_true, decide_false, Int.reduceEq, Int.reduceLT, Int.reduceBEq, Int.reduceBNe, not_true_eq_false, undef] <;> rfl) ?_
      exact w_ret ⟨.inr rfl, by simp, [], fin_plain hs hwf kf (by simp [resVal, upd_app, put]) trivial⟩
end Go.Proofs.Ytahinegnblankaa
