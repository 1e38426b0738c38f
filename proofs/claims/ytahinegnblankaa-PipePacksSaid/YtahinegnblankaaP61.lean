import Derived.Test.YtahinegnblankaaP60
namespace Go.Proofs.Ytahinegnblankaa
open Go Abs
set_option linter.unusedSimpArgs false
set_option linter.unusedVariables false

set_option maxRecDepth 10000 in
theorem lawPPacks_spec (v : Value) (l : List Nat) (x : Int) (g : Heap) (hb : ∀ x ∈ l, x < 256) (hv : Src g v 1 l.length (bs l)) : FnSpec Try.prog 19 [v, .int .i64 x] g { v := .bool true, r := srcBlk v } := by
  refine spec_of_body [4] follows Try.func19 rfl (by kernel_rfl) (by simp [Try.f19]) (by kernel_rfl) rfl ?_
  intro g2 s2 n hg hfr hs hn hwf hsv
  have hv2 : Src g2 v 1 l.length (bs l) := hv.congr fun i hi => hg i (by simp [Eff.fp, hi])
  have hlen := hv2.len Try.underlying24
  have hdom : ∀ i ∈ srcBlk v, i < n := fun i hi => by
    obtain ⟨b, hb⟩ := Option.isSome_iff_exists.1 (hv2.dom i hi)
    exact hs i (hwf i b hb).1
  clear hv hg hfr hn
  refine s_run (by simp only [runL, awant_none, astep, evl, put, ap_none, List.length_nil, Nat.add_zero, undef] <;> rfl) ?_
  by_cases ea1 : (l.length : Int) > 150
  · have ed1 : (decide ((l.length : Int) > 150)) = true := decide_eq_true ea1
    refine w_assoc (s_run (by simp only [runL, Option.getD_some, List.getElem?_cons_zero, awant_none, astep, evl, put, ap_none, List.length_nil, Nat.add_zero, upd_app, stepBin, abin, stepCall, reduceCtorEq, ↓reduceIte, hlen, ed1] <;> rfl) ?_)
    refine s_true (by simp [evl]) (w_assoc (s_run (by simp only [runL, awant_none, astep, evl, put, ap_none, List.length_nil, Nat.add_zero] <;> rfl) ?_))
    refine s_ret ⟨.inr rfl, by simp, [], fin_none ?_ trivial (fun _ _ h => h)⟩
    simp [resVal]
  have ed1 : (decide ((l.length : Int) > 150)) = false := decide_eq_false ea1
  refine w_assoc (s_run (by simp only [runL, Option.getD_some, List.getElem?_cons_zero, awant_none, astep, evl, put, ap_none, List.length_nil, Nat.add_zero, upd_app, stepBin, abin, stepCall, reduceCtorEq, ↓reduceIte, hlen, ed1] <;> rfl) ?_)
  refine s_false (by simp [evl]) (s_skip ?_)
  have hw1 : IntKind.i64.wrap ((l.length : Int) - 1) = (l.length : Int) - 1 := wrap64_of (by omega) (by omega)
  refine w_gen (fun t => t 0 = v ∧ t 1 = .int .i64 x) (by simp [upd_app]) ?_
  rintro t ⟨t0, t1⟩
  by_cases hx : x = 0 ∨ x = 1
  case neg =>
    have snil : Src g2 (.slice none 0 0) 1 ([] : List Nat).length (bs []) := .inl ⟨rfl, rfl, rfl⟩
    obtain ⟨ra, sa, _⟩ := src_str snil
    have hO : ∀ m, unpO x m [] = none := fun m => if_neg (fun h => hx h.1)
    refine s_take 2 (by simp only [runL, List.take_succ_cons, List.take_zero, awant_none, astep, evl, put, ap_none, List.length_nil, Nat.add_zero, upd_app, ↓reduceIte, Nat.reduceEqDiff, t0, t1] <;> rfl) ?_
    refine ops_call 59 _ rfl (pack_no v x g2 hx) (by simp) ?_
    refine ops_run (by simp only [runL, List.getElem?_toArray, List.getElem?_cons_succ, List.getElem?_cons_zero, awant_none, astep, evl, put, ap_none, List.length_nil, Nat.add_zero, upd_app, stepExtract, ↓reduceIte, Nat.reduceEqDiff] <;> rfl) ?_
    refine w_gen (fun t => t 0 = v ∧ t 1 = .int .i64 x ∧ t 5 = .slice none 0 0 ∧ t 6 = .bool false) (by simp [upd_app, t0, t1]) ?_
    clear t0 t1
    rintro t ⟨t0, t1, t5, t6⟩
    refine s_take 2 (by simp only [runL, List.take_succ_cons, List.take_zero, awant_none, astep, evl, put, ap_none, List.length_nil, Nat.add_zero, upd_app, ↓reduceIte, Nat.reduceEqDiff, t0, t1] <;> rfl) ?_
    refine ops_call 60 _ rfl (rpack_no v x g2 hx) (by simp) ?_
    refine ops_run (by simp only [runL, List.getElem?_toArray, List.getElem?_cons_succ, List.getElem?_cons_zero, awant_none, astep, evl, put, ap_none, List.length_nil, Nat.add_zero, upd_app, stepExtract, ↓reduceIte, Nat.reduceEqDiff] <;> rfl) ?_
    refine w_gen (fun t => t 0 = v ∧ t 1 = .int .i64 x ∧ t 5 = .slice none 0 0 ∧ t 6 = .bool false ∧ t 7 = .slice none 0 0 ∧ t 8 = .bool false) (by simp [upd_app, t0, t1, t5, t6]) ?_
    clear t0 t1 t5 t6
    rintro t ⟨t0, t1, t5, t6, t7, t8⟩
    have e1 : (false != false) = false := rfl
    have e2 : ((nstr []).toList == (nstr []).toList) = true := beq_self_eq_true _
    refine w_assoc (s_run (by simp only [runL, awant_some, List.getElem?_toArray, List.getElem?_cons_succ, List.getElem?_cons_zero, Option.bind_some, b_ff, Bool.not_true, awant_none, astep, evl, put, ap_none, List.length_nil, Nat.add_zero, upd_app, stepBin, abin, stepPick, ↓reduceIte, Nat.reduceEqDiff, Bool.false_eq_true, t5, t6, t7, t8, Try.underlying4, sa, e2] <;> rfl) ?_)
    refine s_false (by simp [evl]) (s_skip ?_)
    refine w_gen (fun t => t 0 = v ∧ t 1 = .int .i64 x ∧ t 5 = .slice none 0 0 ∧ t 6 = .bool false) (by simp [upd_app, t0, t1, t5, t6]) ?_
    clear t0 t1 t5 t6 t7 t8
    rintro t ⟨t0, t1, t5, t6⟩
    have hS1 := unpack_spec (.slice none 0 0) [] x (l.length : Int) g2 n (by simp) (by simp) snil
    rw [hO] at hS1
    refine s_take 4 (by simp only [runL, List.take_succ_cons, List.take_zero, awant_none, astep, evl, put, ap_none, List.length_nil, Nat.add_zero, upd_app, stepCall, reduceCtorEq, ↓reduceIte, Nat.reduceEqDiff, t0, t1, t5, hlen] <;> rfl) ?_
    refine ops_call 61 _ rfl hS1 (by intro h; exact (h rfl).elim) ?_
    refine ops_run (by simp only [runL, List.getElem?_toArray, List.getElem?_cons_succ, List.getElem?_cons_zero, awant_none, astep, evl, put, ap_none, List.length_nil, Nat.add_zero, upd_app, stepExtract, ↓reduceIte, Nat.reduceEqDiff, backE] <;> rfl) ?_
    refine w_gen (fun t => t 0 = v ∧ t 1 = .int .i64 x ∧ t 5 = .slice none 0 0 ∧ t 6 = .bool false ∧ t 10 = .bool false) (by simp [upd_app, t0, t1, t5, t6]) ?_
    clear t0 t1 t5 t6
    rintro t ⟨t0, t1, t5, t6, t10⟩
    have hS2 := unpack_spec (.slice none 0 0) [] x ((l.length : Int) - 1) g2 n (by simp) (by simp) snil
    rw [hO] at hS2
    refine s_take 5 (by simp only [runL, List.take_succ_cons, List.take_zero, awant_none, astep, evl, put, ap_none, List.length_nil, Nat.add_zero, upd_app, stepBin, abin, stepCall, reduceCtorEq, ↓reduceIte, Nat.reduceEqDiff, t0, t1, t5, hlen, hw1] <;> rfl) ?_
    refine ops_call 61 _ rfl hS2 (by intro h; exact (h rfl).elim) ?_
    refine ops_run (by simp only [runL, List.getElem?_toArray, List.getElem?_cons_succ, List.getElem?_cons_zero, awant_none, astep, evl, put, ap_none, List.length_nil, Nat.add_zero, upd_app, stepExtract, ↓reduceIte, Nat.reduceEqDiff, backE] <;> rfl) ?_
    refine w_gen (fun t => t 6 = .bool false ∧ t 10 = .bool false ∧ t 12 = .bool false) (by simp [upd_app, t6, t10]) ?_
    clear t0 t1 t5 t6 t10
    rintro t ⟨t6, t10, t12⟩
    have e3 : (false == false) = true := rfl
    refine s_take 19 (by simp only [runL, awant_some, List.getElem?_toArray, List.getElem?_cons_succ, List.getElem?_cons_zero, Option.bind_some, b_tt, b_tf, Bool.not_false, List.take_succ_cons, List.take_zero, awant_none, astep, evl, put, ap_none, List.length_nil, Nat.add_zero, upd_app, stepBin, abin, stepUn, stepPick, ↓reduceIte, Nat.reduceEqDiff, undef, t6, t10, t12, Try.underlying4, e3] <;> rfl) ?_
    refine g_call 62 _ (by simp only [awant_some, List.getElem?_toArray, List.getElem?_cons_succ, List.getElem?_cons_zero, Option.bind_some, b_tt, upd_app, ↓reduceIte] <;> rfl) rfl (pknown_spec g2) (by simp) ?_
    refine ops_run (by simp only [runL, awant_none, astep, evl, put, ap_none, List.length_nil, Nat.add_zero, upd_app, stepPick, ↓reduceIte, Nat.reduceEqDiff] <;> rfl) ?_
    exact w_ret ⟨.inr rfl, by simp, [], fin_plain hs hwf (Kp.refl _ _) (by simp [resVal]) trivial⟩
  obtain ⟨o, ho, rfl⟩ : ∃ o : Nat, o ≤ 1 ∧ x = (o : Int) := ⟨x.toNat, by omega, by omega⟩
  have hNb := packB_lt (o := o) hb
  have hNl := packB_len o l
  have hU1 := unpO_pack (o := o) (b := l) (most := l.length) ho hb (by omega) (Nat.le_refl _)
  have hU2 : unpO (o : Int) ((l.length : Int) - 1) (packB o l) = none := by
    unfold unpO
    split
    · rw [Int.toNat_natCast]
      exact unpP_less hb (by omega)
    · rfl
  have hP1 := pack_spec v l o g2 n ho (by omega) hb hv2
  have hP2 := fun G s => rpack_spec v l o G (n + 1) ho (by omega) hb s
  obtain ⟨N, hN⟩ : ∃ N, packB o l = N := ⟨_, rfl⟩
  rw [hN] at hNb hNl hU1 hU2 hP1 hP2
  refine s_take 2 (by simp only [runL, List.take_succ_cons, List.take_zero, awant_none, astep, evl, put, ap_none, List.length_nil, Nat.add_zero, upd_app, ↓reduceIte, Nat.reduceEqDiff, t0, t1] <;> rfl) ?_
  refine ops_call 59 _ rfl hP1 (by intro _; rfl) (ops_heap fun G1 hG1 => ?_)
  have k1 : Kp n g2 G1 := by rw [hG1]; exact kp_ap (Kp.refl _ _) rfl (fun _ => Nat.le_refl _)
  have b1 : G1 n = some ⟨false, 5, bs N⟩ := by rw [hG1]; exact packE_ap _ _ _ _
  refine ops_run (by simp only [runL, List.getElem?_toArray, List.getElem?_cons_succ, List.getElem?_cons_zero, awant_none, astep, evl, put, ap_none, List.length_nil, Nat.add_zero, upd_app, stepExtract, ↓reduceIte, Nat.reduceEqDiff, packE_v] <;> rfl) ?_
  refine w_gen (fun t => t 0 = v ∧ t 1 = .int .i64 o ∧ t 5 = .slice (some ⟨n, 0, some N.length⟩) N.length 1 ∧ t 6 = .bool true) (by simp [upd_app, t0, t1]) ?_
  clear t0 t1
  rintro t ⟨t0, t1, t5, t6⟩
  refine s_take 2 (by simp only [runL, List.take_succ_cons, List.take_zero, awant_none, astep, evl, put, ap_none, List.length_nil, Nat.add_zero, upd_app, ↓reduceIte, Nat.reduceEqDiff, t0, t1] <;> rfl) ?_
  refine ops_call 60 _ rfl (hP2 G1 (k1.src hv2 hdom)) (by intro _; rfl) (ops_heap fun G2 hG2 => ?_)
  have k2 : Kp (n + 1) G1 G2 := by rw [hG2]; exact kp_ap (Kp.refl _ _) rfl (fun _ => Nat.le_refl _)
  have b2 : G2 (n + 1) = some ⟨false, 5, bs N⟩ := by rw [hG2]; exact packE_ap _ _ _ _
  have b12 : G2 n = some ⟨false, 5, bs N⟩ := k2.at (by omega) b1
  refine ops_run (by simp only [runL, List.getElem?_toArray, List.getElem?_cons_succ, List.getElem?_cons_zero, awant_none, astep, evl, put, ap_none, List.length_nil, Nat.add_zero, upd_app, stepExtract, ↓reduceIte, Nat.reduceEqDiff, packE_v] <;> rfl) ?_
  refine w_gen (fun t => t 0 = v ∧ t 1 = .int .i64 o ∧ t 5 = .slice (some ⟨n, 0, some N.length⟩) N.length 1 ∧ t 6 = .bool true ∧ t 7 = .slice (some ⟨n + 1, 0, some N.length⟩) N.length 1 ∧ t 8 = .bool true) (by simp [upd_app, t0, t1, t5, t6]) ?_
  clear t0 t1 t5 t6
  rintro t ⟨t0, t1, t5, t6, t7, t8⟩
  have e1 : (true != true) = false := rfl
  have e2 : ((nstr N).toList == (nstr N).toList) = true := beq_self_eq_true _
  obtain ⟨ra, sa, _⟩ := src_str (src_bs (m := N.length) b12 rfl)
  obtain ⟨rb, sb, _⟩ := src_str (src_bs (m := N.length) b2 rfl)
  refine w_assoc (s_run (by simp only [runL, awant_some, List.getElem?_toArray, List.getElem?_cons_succ, List.getElem?_cons_zero, Option.bind_some, b_tt, b_ff, Bool.not_true, awant_none, astep, evl, put, ap_none, List.length_nil, Nat.add_zero, upd_app, stepBin, abin, stepPick, ↓reduceIte, Nat.reduceEqDiff, Bool.false_eq_true, t5, t6, t7, t8, Try.underlying4, sa, sb, e2] <;> rfl) ?_)
  refine s_false (by simp [evl]) (s_skip ?_)
  refine w_gen (fun t => t 0 = v ∧ t 1 = .int .i64 o ∧ t 5 = .slice (some ⟨n, 0, some N.length⟩) N.length 1 ∧ t 6 = .bool true) (by simp [upd_app, t0, t1, t5, t6]) ?_
  clear t0 t1 t5 t6 t7 t8
  rintro t ⟨t0, t1, t5, t6⟩
  have hS1 := unpack_spec (.slice (some ⟨n, 0, some N.length⟩) N.length 1) N (o : Nat) (l.length : Int) G2 (n + 2) (by omega) hNb (src_bs b12 rfl)
  rw [hU1] at hS1
  refine s_take 4 (by simp only [runL, List.take_succ_cons, List.take_zero, awant_none, astep, evl, put, ap_none, List.length_nil, Nat.add_zero, upd_app, stepCall, reduceCtorEq, ↓reduceIte, Nat.reduceEqDiff, t0, t1, t5, hlen] <;> rfl) ?_
  refine ops_call 61 _ rfl hS1 (by intro _; rfl) (ops_heap fun G3 hG3 => ?_)
  have k3 : Kp (n + 2) G2 G3 := by rw [hG3]; exact kp_ap (Kp.refl _ _) (backE_w _ _ _) (fun _ => Nat.le_refl _)
  have b3 : G3 (n + 2) = some ⟨false, 5, bs l⟩ := by rw [hG3]; simp [backE, ap_new]
  refine ops_run (by simp only [runL, List.getElem?_toArray, List.getElem?_cons_succ, List.getElem?_cons_zero, awant_none, astep, evl, put, ap_none, List.length_nil, List.length_cons, Nat.add_zero, Nat.zero_add, upd_app, stepExtract, ↓reduceIte, Nat.reduceEqDiff, backE] <;> rfl) ?_
  refine w_gen (fun t => t 0 = v ∧ t 1 = .int .i64 o ∧ t 5 = .slice (some ⟨n, 0, some N.length⟩) N.length 1 ∧ t 6 = .bool true ∧ t 9 = .slice (some ⟨n + 2, 0, some l.length⟩) l.length 1 ∧ t 10 = .bool true) (by simp [upd_app, t0, t1, t5, t6]) ?_
  clear t0 t1 t5 t6
  rintro t ⟨t0, t1, t5, t6, t9, t10⟩
  have b13 : G3 n = some ⟨false, 5, bs N⟩ := k3.at (by omega) b12
  have hS2 := unpack_spec (.slice (some ⟨n, 0, some N.length⟩) N.length 1) N (o : Nat) ((l.length : Int) - 1) G3 (n + 3) (by omega) hNb (src_bs b13 rfl)
  rw [hU2] at hS2
  refine s_take 5 (by simp only [runL, List.take_succ_cons, List.take_zero, awant_none, astep, evl, put, ap_none, List.length_nil, Nat.add_zero, upd_app, stepBin, abin, stepCall, reduceCtorEq, ↓reduceIte, Nat.reduceEqDiff, t0, t1, t5, hlen, hw1] <;> rfl) ?_
  refine ops_call 61 _ rfl hS2 (by intro h; exact (h rfl).elim) ?_
  refine ops_run (by simp only [runL, List.getElem?_toArray, List.getElem?_cons_succ, List.getElem?_cons_zero, awant_none, astep, evl, put, ap_none, List.length_nil, Nat.add_zero, upd_app, stepExtract, ↓reduceIte, Nat.reduceEqDiff, backE] <;> rfl) ?_
  refine w_gen (fun t => t 0 = v ∧ t 6 = .bool true ∧ t 9 = .slice (some ⟨n + 2, 0, some l.length⟩) l.length 1 ∧ t 10 = .bool true ∧ t 12 = .bool false) (by simp [upd_app, t0, t6, t9, t10]) ?_
  clear t0 t1 t5 t6 t9 t10
  rintro t ⟨t0, t6, t9, t10, t12⟩
  have e3 : (true == true) = true := rfl
  have kk : Kp n g2 G3 := (k1.trans k2 (by omega)).trans k3 (by omega)
  obtain ⟨rc, sc, _⟩ := src_str (src_bs (m := l.length) b3 rfl)
  obtain ⟨rd', sd, _⟩ := src_str (kk.src hv2 hdom)
  have e4 : ((nstr l).toList == (nstr l).toList) = true := beq_self_eq_true _
  refine s_take 19 (by simp only [runL, awant_some, List.getElem?_toArray, List.getElem?_cons_succ, List.getElem?_cons_zero, Option.bind_some, b_ff, Bool.not_true, Bool.not_false, List.take_succ_cons, List.take_zero, awant_none, astep, evl, put, ap_none, List.length_nil, Nat.add_zero, upd_app, stepBin, abin, stepUn, stepPick, reduceCtorEq, ↓reduceIte, Nat.reduceEqDiff, Bool.false_eq_true, t0, t6, t9, t10, t12, Try.underlying4, e3, sc, sd, e4] <;> rfl) ?_
  refine g_call 62 _ (by simp only [awant_some, List.getElem?_toArray, List.getElem?_cons_succ, List.getElem?_cons_zero, Option.bind_some, b_tt, upd_app, ↓reduceIte] <;> rfl) rfl (pknown_spec G3) (by simp) ?_
  refine ops_run (by simp only [runL, awant_none, astep, evl, put, ap_none, List.length_nil, Nat.add_zero, upd_app, stepPick, ↓reduceIte, Nat.reduceEqDiff] <;> rfl) ?_
  exact w_ret ⟨.inr rfl, by simp, [], fin_plain hs hwf kk (by simp [resVal]) trivial⟩
end Go.Proofs.Ytahinegnblankaa
