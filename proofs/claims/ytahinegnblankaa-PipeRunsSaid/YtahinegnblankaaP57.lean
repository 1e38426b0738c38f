import Derived.Test.YtahinegnblankaaP55
namespace Go.Proofs.Ytahinegnblankaa
open Go Abs
set_option linter.unusedSimpArgs false
set_option linter.unusedVariables false

theorem fill_set {c k i : Nat} (h : i < k) : (List.replicate i c ++ List.replicate (k - i) 0).set i c = List.replicate (i + 1) c ++ List.replicate (k - (i + 1)) 0 := by
  rw [show k - i = (k - (i + 1)) + 1 by omega, List.replicate_succ, List.set_append]
  simp [List.replicate_succ']

set_option maxRecDepth 10000 in
theorem lawPRuns_spec (a : Int) (c : Nat) (z : Int) (hc : c < 256) (g : Heap) : FnSpec Try.prog 23 [.int .i64 a, .int .u8 c, .int .i64 z] g { v := .bool true } := by
  refine spec_of_body [6] follows Try.func23 rfl (by kernel_rfl) (by simp [Try.f23]) (by kernel_rfl) rfl ?_
  intro g2 s2 n hg hfr hs hn hwf hsv
  refine s_run (by simp only [runL, awant_none, astep, evl, put, ap_none, List.length_nil, Nat.add_zero, undef] <;> rfl) ?_
  by_cases ea1 : a < 0
  · have ed1 : (decide (a < 0)) = true := decide_eq_true ea1
    refine w_assoc (s_run (by simp only [runL, awant_some, Option.getD_some, List.getElem?_toArray, List.getElem?_cons_succ, List.getElem?_cons_zero, Option.bind_some, b_tf, awant_none, astep, evl, put, ap_none, List.length_nil, Nat.add_zero, upd_app, stepBin, abin, stepPick, reduceCtorEq, ↓reduceIte, Nat.reduceEqDiff, undef, ed1] <;> rfl) ?_)
    refine s_true (by simp [evl]) (w_assoc (s_run (by simp only [runL, awant_none, astep, evl, put, ap_none, List.length_nil, Nat.add_zero] <;> rfl) ?_))
    refine s_ret ⟨.inr rfl, by simp, [], fin_none ?_ trivial (fun _ _ h => h)⟩
    simp [resVal]
  have ed1 : (decide (a < 0)) = false := decide_eq_false ea1
  by_cases ea2 : a > 2000
  · have ed2 : (decide (a > 2000)) = true := decide_eq_true ea2
    refine w_assoc (s_run (by simp only [runL, awant_some, Option.getD_some, List.getElem?_toArray, List.getElem?_cons_succ, List.getElem?_cons_zero, Option.bind_some, b_tf, b_ff, awant_none, astep, evl, put, ap_none, List.length_nil, Nat.add_zero, upd_app, stepBin, abin, stepPick, reduceCtorEq, ↓reduceIte, Nat.reduceEqDiff, Bool.false_eq_true, undef, ed1, ed2] <;> rfl) ?_)
    refine s_true (by simp [evl]) (w_assoc (s_run (by simp only [runL, awant_none, astep, evl, put, ap_none, List.length_nil, Nat.add_zero] <;> rfl) ?_))
    refine s_ret ⟨.inr rfl, by simp, [], fin_none ?_ trivial (fun _ _ h => h)⟩
    simp [resVal]
  have ed2 : (decide (a > 2000)) = false := decide_eq_false ea2
  by_cases ea3 : z < 0
  · have ed3 : (decide (z < 0)) = true := decide_eq_true ea3
    refine w_assoc (s_run (by simp only [runL, awant_some, Option.getD_some, List.getElem?_toArray, List.getElem?_cons_succ, List.getElem?_cons_zero, Option.bind_some, b_tf, b_ff, awant_none, astep, evl, put, ap_none, List.length_nil, Nat.add_zero, upd_app, stepBin, abin, stepPick, reduceCtorEq, ↓reduceIte, Nat.reduceEqDiff, Bool.false_eq_true, undef, ed1, ed2, ed3] <;> rfl) ?_)
    refine s_true (by simp [evl]) (w_assoc (s_run (by simp only [runL, awant_none, astep, evl, put, ap_none, List.length_nil, Nat.add_zero] <;> rfl) ?_))
    refine s_ret ⟨.inr rfl, by simp, [], fin_none ?_ trivial (fun _ _ h => h)⟩
    simp [resVal]
  have ed3 : (decide (z < 0)) = false := decide_eq_false ea3
  by_cases ea4 : z > 1
  · have ed4 : (decide (z > 1)) = true := decide_eq_true ea4
    refine w_assoc (s_run (by simp only [runL, awant_some, Option.getD_some, List.getElem?_toArray, List.getElem?_cons_succ, List.getElem?_cons_zero, Option.bind_some, b_ff, awant_none, astep, evl, put, ap_none, List.length_nil, Nat.add_zero, upd_app, stepBin, abin, stepPick, reduceCtorEq, ↓reduceIte, Nat.reduceEqDiff, Bool.false_eq_true, ed1, ed2, ed3, ed4] <;> rfl) ?_)
    refine s_true (by simp [evl]) (w_assoc (s_run (by simp only [runL, awant_none, astep, evl, put, ap_none, List.length_nil, Nat.add_zero] <;> rfl) ?_))
    refine s_ret ⟨.inr rfl, by simp, [], fin_none ?_ trivial (fun _ _ h => h)⟩
    simp [resVal]
  have ed4 : (decide (z > 1)) = false := decide_eq_false ea4
  refine w_assoc (s_run (by simp only [runL, awant_some, Option.getD_some, List.getElem?_toArray, List.getElem?_cons_succ, List.getElem?_cons_zero, Option.bind_some, b_ff, awant_none, astep, evl, put, ap_none, List.length_nil, Nat.add_zero, upd_app, stepBin, abin, stepPick, reduceCtorEq, ↓reduceIte, Nat.reduceEqDiff, Bool.false_eq_true, ed1, ed2, ed3, ed4] <;> rfl) ?_)
  refine s_false (by simp [evl]) (s_skip ?_)
  obtain ⟨k, rfl⟩ : ∃ m : Nat, a = m := ⟨a.toNat, by omega⟩
  obtain ⟨o, rfl⟩ : ∃ m : Nat, z = m := ⟨z.toNat, by omega⟩
  have hk : k ≤ 2000 := by omega
  have ho : o ≤ 1 := by omega
  refine w_gen (fun t => t 0 = .int .i64 k ∧ t 1 = .int .u8 c ∧ t 2 = .int .i64 o) (by simp [upd_app]) ?_
  rintro t ⟨t0, t1, t2⟩
  refine s_run (by simp only [runL, awant_none, astep, evl, put, ap_none, ap_new, List.length_nil, List.length_cons, Nat.add_zero, Nat.zero_add, upd_app, ↓reduceIte, t0, mkBytes k n (by omega)] <;> rfl) (w_heap fun G1 hG1 => ?_)
  have b1 : G1 n = some ⟨false, 5, bs (List.replicate k 0)⟩ := by rw [hG1]; simp []
  have k1 : Kp n g2 G1 := by rw [hG1]; exact kp_upd (Kp.refl _ _) (Nat.le_refl _)
  refine w_assoc (s_run (by simp only [runL, awant_none, astep, evl, put, ap_none, List.length_nil, Nat.add_zero] <;> rfl) ?_)
  refine s_for 0 k (fun i t g n' => t 0 = .int .i64 k ∧ t 1 = .int .u8 c ∧ t 2 = .int .i64 o ∧ t 7 = .slice (some ⟨n, 0, some k⟩) k 1 ∧ n + 1 ≤ n' ∧ g n = some ⟨false, 5, bs (List.replicate i c ++ List.replicate (k - i) 0)⟩ ∧ Kp n g2 g) (by omega) (by omega) (by simp [])
    ⟨by simp [upd_app, t0], by simp [upd_app, t1], by simp [upd_app, t2], by simp [upd_app], Nat.le_refl _, by simpa using b1, k1⟩ ?_ ?_ ?_
  · clear t0 t1 t2
    rintro i t g M hi t8 ⟨t0, t1, t2, t7, hM, hb, hkp⟩
    have dl : decide ((i : Int) < ((k : Nat) : Int)) = decide (i < k) := by simp
    exact ⟨_, (by simp only [runL, awant_none, astep, evl, put, ap_none, List.length_nil, Nat.add_zero, upd_app, stepBin, abin, reduceCtorEq, ↓reduceIte, Nat.reduceEqDiff, t8, t0, dl] <;> rfl), by simp [], by simp [upd_app, t8], by simp [upd_app, t0], by simp [upd_app, t1], by simp [upd_app, t2], by simp [upd_app, t7], hM, hb, hkp⟩
  · clear t0 t1 t2
    rintro i t g M hi t8 ⟨t0, t1, t2, t7, hM, hb, hkp⟩
    have hll : (List.replicate i c ++ List.replicate (k - i) 0).length = k := by simp; omega
    have hix := idx24 n k i k hi
    have hst := stb (x := c) (m := k) hb hll (by omega : i < _)
    rw [fill_set hi] at hst
    refine region_run (id := 7) (by simp only [runL, awant_none, astep, evl, put, ap_none, ap_wr, List.length_nil, Nat.add_zero, upd_app, ↓reduceIte, Nat.reduceEqDiff, undef, t7, t8, t1, hix, hst] <;> rfl) ?_
    simp only [rangePost]
    exact ⟨by simp [upd_app, t8], fun _ _ _ => ⟨by simp [upd_app, t0], by simp [upd_app, t1], by simp [upd_app, t2], by simp [upd_app, t7], hM, by simp [], fun q hq => by show upd g n _ q = g2 q; rw [upd_ne _ _ (by omega), hkp q hq]⟩⟩
  · clear t0 t1 t2 b1 k1 hG1
    rintro t g M ⟨t0, t1, t2, t7, hM, hb, hkp⟩
    rw [Nat.sub_self, List.replicate_zero, List.append_nil] at hb
    obtain ⟨l, hl⟩ : ∃ l, List.replicate k c = l := ⟨_, rfl⟩
    have hPl := packB_rep (o := o) hc hk
    rw [hl] at hb hPl
    have hll : l.length = k := by rw [← hl]; simp
    have hlb : ∀ x ∈ l, x < 256 := fun x hx => by rw [← hl] at hx; have := (List.mem_replicate.1 hx).2; omega
    have t7' : t 7 = .slice (some ⟨n, 0, some l.length⟩) l.length 1 := by rw [t7, hll]
    have hU := unpO_pack (o := o) (b := l) (most := k) ho hlb (by omega) (by omega)
    have hNb := packB_lt (o := o) hlb
    refine s_take 2 (by simp only [runL, List.take_succ_cons, List.take_zero, awant_none, astep, evl, put, ap_none, List.length_nil, Nat.add_zero, upd_app, ↓reduceIte, Nat.reduceEqDiff, t7', t2] <;> rfl) ?_
    refine ops_call 59 _ rfl (pack_spec _ l o g M ho (by omega) hlb (src_bs hb rfl)) (by intro _; rfl) (ops_heap fun G2 hG2 => ?_)
    have k2 : Kp M g G2 := by rw [hG2]; exact kp_ap (Kp.refl _ _) rfl (fun _ => Nat.le_refl _)
    have b2 : G2 M = some ⟨false, 5, bs (packB o l)⟩ := by rw [hG2]; exact packE_ap _ _ _ _
    refine ops_run (by simp only [runL, List.getElem?_toArray, List.getElem?_cons_succ, List.getElem?_cons_zero, awant_none, astep, evl, put, ap_none, List.length_nil, Nat.add_zero, upd_app, stepExtract, ↓reduceIte, Nat.reduceEqDiff, packE_v] <;> rfl) ?_
    obtain ⟨N, hN⟩ : ∃ N, packB o l = N := ⟨_, rfl⟩
    rw [hN] at b2 hPl hU hNb
    rw [hN]
    refine w_gen (fun t => t 0 = .int .i64 k ∧ t 2 = .int .i64 o ∧ t 7 = .slice (some ⟨n, 0, some l.length⟩) l.length 1 ∧ t 9 = .slice (some ⟨M, 0, some N.length⟩) N.length 1 ∧ t 10 = .bool true) (by simp [upd_app, t0, t2, t7']) ?_
    clear t0 t1 t2 t7 t7'
    rintro t ⟨t0, t2, t7, t9, t10⟩
    have hS := unpack_spec (.slice (some ⟨M, 0, some N.length⟩) N.length 1) N (o : Nat) (k : Nat) G2 (M + 1) (by omega) hNb (src_bs b2 rfl)
    rw [hU] at hS
    refine s_take 3 (by simp only [runL, List.take_succ_cons, List.take_zero, awant_none, astep, evl, put, ap_none, List.length_nil, Nat.add_zero, upd_app, reduceCtorEq, ↓reduceIte, Nat.reduceEqDiff, t9, t2, t0] <;> rfl) ?_
    refine ops_call 61 _ rfl hS (by intro _; rfl) (ops_heap fun G3 hG3 => ?_)
    have k3 : Kp (M + 1) G2 G3 := by rw [hG3]; exact kp_ap (Kp.refl _ _) (backE_w _ _ _) (fun _ => Nat.le_refl _)
    have b3 : G3 (M + 1) = some ⟨false, 5, bs l⟩ := by rw [hG3]; simp [backE, ap_new]
    refine ops_run (by simp only [runL, List.getElem?_toArray, List.getElem?_cons_succ, List.getElem?_cons_zero, awant_none, astep, evl, put, ap_none, List.length_nil, List.length_cons, Nat.add_zero, Nat.zero_add, upd_app, stepExtract, ↓reduceIte, Nat.reduceEqDiff, backE] <;> rfl) ?_
    refine w_gen (fun t => t 7 = .slice (some ⟨n, 0, some l.length⟩) l.length 1 ∧ t 9 = .slice (some ⟨M, 0, some N.length⟩) N.length 1 ∧ t 10 = .bool true ∧ t 11 = .slice (some ⟨M + 1, 0, some l.length⟩) l.length 1 ∧ t 12 = .bool true) (by simp [upd_app, t7, t9, t10]) ?_
    clear t0 t2 t7 t9 t10
    rintro t ⟨t7, t9, t10, t11, t12⟩
    refine s_take 1 (by simp only [runL, List.take_succ_cons, List.take_zero, awant_none, astep, evl, put, ap_none, List.length_nil, Nat.add_zero, t7] <;> rfl) ?_
    refine ops_call 59 _ rfl (pack_no _ 2 G3 (by omega)) (by simp) ?_
    refine ops_run (by simp only [runL, List.getElem?_toArray, List.getElem?_cons_succ, List.getElem?_cons_zero, awant_none, astep, evl, put, ap_none, List.length_nil, Nat.add_zero, upd_app, stepExtract, ↓reduceIte, Nat.reduceEqDiff] <;> rfl) ?_
    refine w_gen (fun t => t 7 = .slice (some ⟨n, 0, some l.length⟩) l.length 1 ∧ t 9 = .slice (some ⟨M, 0, some N.length⟩) N.length 1 ∧ t 10 = .bool true ∧ t 11 = .slice (some ⟨M + 1, 0, some l.length⟩) l.length 1 ∧ t 12 = .bool true ∧ t 14 = .bool false) (by simp [upd_app, t7, t9, t10, t11, t12]) ?_
    clear t7 t9 t10 t11 t12
    rintro t ⟨t7, t9, t10, t11, t12, t14⟩
    have b33 : G3 n = some ⟨false, 5, bs l⟩ := by rw [k3 n (by omega), k2 n (by omega)]; exact hb
    obtain ⟨ra, sa, _⟩ := src_str (src_bs (m := l.length) b3 rfl)
    obtain ⟨rb, sb, _⟩ := src_str (src_bs (m := l.length) b33 rfl)
    have e1 : ((nstr l).toList == (nstr l).toList) = true := beq_self_eq_true _
    have ln := len24 M N.length (some N.length)
    have d32 : decide (((N.length : Nat) : Int) ≤ 32) = true := decide_eq_true (by omega)
    refine s_take 21 (by simp only [runL, awant_some, List.getElem?_toArray, List.getElem?_cons_succ, List.getElem?_cons_zero, Option.bind_some, b_tt, Bool.not_false, List.take_succ_cons, List.take_zero, awant_none, astep, evl, put, ap_none, List.length_nil, Nat.add_zero, upd_app, stepBin, abin, stepUn, stepPick, stepCall, ↓reduceIte, Nat.reduceEqDiff, t7, t9, t10, t11, t12, t14, ln, d32, sa, sb, e1] <;> rfl) ?_
    refine g_call 62 _ (by simp only [awant_some, List.getElem?_toArray, List.getElem?_cons_succ, List.getElem?_cons_zero, Option.bind_some, b_tt, upd_app, ↓reduceIte] <;> rfl) rfl (pknown_spec G3) (by simp) ?_
    refine ops_run (by simp only [runL, awant_none, astep, evl, put, ap_none, List.length_nil, Nat.add_zero, upd_app, stepPick, ↓reduceIte, Nat.reduceEqDiff] <;> rfl) ?_
    exact w_ret ⟨.inr rfl, by simp, [], fin_plain hs hwf ((hkp.trans k2 (by omega)).trans k3 (by omega)) (by simp [resVal]) trivial⟩
end Go.Proofs.Ytahinegnblankaa
