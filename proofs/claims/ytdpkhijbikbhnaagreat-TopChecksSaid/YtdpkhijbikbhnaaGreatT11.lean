import Derived.Test.YtdpkhijbikbhnaaGreatT10
namespace Go.Proofs.YtdpkhijbikbhnaaGreat
open Go Abs Plain
set_option linter.unusedSimpArgs false
set_option linter.unusedVariables false

theorem rep_set (m k : Nat) (h : k < m) : (List.replicate k (-1 : Int) ++ List.replicate (m - k) 0).set k (-1) = List.replicate (k + 1) (-1) ++ List.replicate (m - (k + 1)) 0 := by
  apply List.ext_getElem
  · simp; omega
  · intro i h1 h2
    rw [List.getElem_set]
    by_cases e : k = i
    · subst e; rw [if_pos rfl, List.getElem_append_left (by simp)]; simp
    · rw [if_neg e, List.getElem_append, List.getElem_append]
      simp only [List.length_replicate, List.getElem_replicate]
      by_cases h3 : i < k
      · rw [dif_pos h3, dif_pos (by omega)]
      · rw [dif_neg h3, dif_neg (by omega)]

set_option maxRecDepth 10000 in
theorem rinverse_spec (v : Value) (a : List Int) (g : Heap) (j : Nat) (hl : a.length ≤ 2 ^ 38) (hv : Src g v 1 a.length (intsI a)) : FnSpec Tryz.prog 29 [v] g (okE (if permB a then some (invL a) else none) (srcBlk v) j) := by
  refine spec_of_body [2, 3] follows Tryz.func29 rfl (by kernel_rfl) (by simp [Tryz.f29]) (by kernel_rfl) rfl ?_
  intro g2 s2 n hg hfr hs hn hwf hsv
  rw [okE_fp] at hg
  have hv2 : Src g2 v 1 a.length (intsI a) := hv.congr fun i hi => hg i hi
  have hlen := hv2.len Tryz.underlying23
  have hvd := dom_of hs hwf hv2
  clear hg hfr hn hv
  refine s_run (by simp only [runL, awant_none, astep, evl, put, ap_none, List.length_nil, Nat.add_zero, undef] <;> rfl) ?_
  refine s_run (by simp only [runL, Option.getD_some, List.getElem?_cons_zero, awant_none, astep, evl, put, ap_none, ap_new, List.length_nil, List.length_cons, Nat.add_zero, Nat.zero_add, upd_app, stepCall, reduceCtorEq, ↓reduceIte, hlen, mkIntsI a.length n (by omega)] <;> rfl) (w_heap fun G1 hG1 => ?_)
  have b1 : G1 n = some ⟨false, 3, intsI (List.replicate 0 (-1) ++ List.replicate (a.length - 0) 0)⟩ := by rw [hG1]; simp []
  have k1 : Kp n g2 G1 := by rw [hG1]; exact kp_upd (Kp.refl _ _) (Nat.le_refl _)
  refine w_assoc (s_run (by simp only [runL, awant_none, astep, evl, put, ap_none, List.length_nil, Nat.add_zero] <;> rfl) ?_)
  refine s_for 0 a.length (fun k t g n' => t 0 = v ∧ t 4 = .slice (some ⟨n, 0, some a.length⟩) a.length 1 ∧ g n = some ⟨false, 3, intsI (List.replicate k (-1) ++ List.replicate (a.length - k) 0)⟩ ∧ Kp n g2 g) (by omega) (by omega) (by simp []) ⟨by simp [upd_app], by simp [upd_app], b1, k1⟩ ?_ ?_ ?_
  · rintro k t g m hk t5 ⟨t0, t4, b, hkp⟩
    have dl : decide ((k : Int) < (a.length : Int)) = decide (k < a.length) := by simp
    exact ⟨_, (by simp only [runL, awant_none, astep, evl, put, ap_none, List.length_nil, Nat.add_zero, upd_app, stepBin, abin, stepCall, reduceCtorEq, ↓reduceIte, Nat.reduceEqDiff, t5, t0, hlen, dl] <;> rfl), by simp [], by simp [upd_app, t5], by simp [upd_app, t0], by simp [upd_app, t4], b, hkp⟩
  · rintro k t g m hk t5 ⟨t0, t4, b, hkp⟩
    have iy := idxI n a.length k a.length hk
    have s1 := stI (m := a.length) (i := k) (x := -1) b (by simp; omega) (by simp; omega)
    rw [rep_set _ _ hk] at s1
    refine region_run (id := 5) (by simp only [runL, awant_none, astep, evl, put, ap_none, ap_wr, List.length_nil, Nat.add_zero, upd_app, ↓reduceIte, Nat.reduceEqDiff, undef, t4, t5, iy, s1] <;> rfl) ?_
    exact ⟨by simp [upd_app, t5], fun _ _ _ => ⟨by simp [upd_app, t0], by simp [upd_app, t4], by simp [], kp_upd hkp (Nat.le_refl _)⟩⟩
  clear b1 k1 hG1
  rintro t g m ⟨t0, t4, b, hkp⟩
  have e0 : List.replicate a.length (-1 : Int) ++ List.replicate (a.length - a.length) 0 = outL a 0 (-1) := by
    rw [Nat.sub_self, List.replicate_zero, List.append_nil]; symm; unfold outL; rw [List.eq_replicate_iff]; simp
  rw [e0] at b
  refine w_assoc (s_run (by simp only [runL, awant_none, astep, evl, put, ap_none, List.length_nil, Nat.add_zero] <;> rfl) ?_)
  refine s_for 0 a.length (fun k t g n' => t 0 = v ∧ t 4 = .slice (some ⟨n, 0, some a.length⟩) a.length 1 ∧ okTo a k ∧ g n = some ⟨false, 3, intsI (outL a k (-1))⟩ ∧ Kp n g2 g) (by omega) (by omega) (by simp []) ⟨by simp [upd_app, t0], by simp [upd_app, t4], okTo_zero a, b, hkp⟩ ?_ ?_ ?_
  · clear t0 t4 b hkp
    rintro k t g m hk t6 ⟨t0, t4, hok, b, hkp⟩
    have dl : decide ((k : Int) < (a.length : Int)) = decide (k < a.length) := by simp
    exact ⟨_, (by simp only [runL, awant_none, astep, evl, put, ap_none, List.length_nil, Nat.add_zero, upd_app, stepBin, abin, stepCall, reduceCtorEq, ↓reduceIte, Nat.reduceEqDiff, t6, t0, hlen, dl] <;> rfl), by simp [], by simp [upd_app, t6], by simp [upd_app, t0], by simp [upd_app, t4], hok, b, hkp⟩
  · clear t0 t4 b hkp
    rintro k t g m hk t6 ⟨t0, t4, hok, b, hkp⟩
    obtain ⟨p, i1, l1, _⟩ := srcI (hkp.src hv2 hvd) hk
    by_cases h0 : a[k] < 0
    · have d0 : decide (a[k] < 0) = true := decide_eq_true h0
      refine w_assoc (s_run (by simp only [runL, awant_some, List.getElem?_toArray, List.getElem?_cons_succ, List.getElem?_cons_zero, Option.bind_some, b_tf, awant_none, astep, evl, put, ap_none, List.length_nil, Nat.add_zero, upd_app, stepBin, abin, stepPick, ↓reduceIte, Nat.reduceEqDiff, undef, t6, t0, i1, l1, d0] <;> rfl) ?_)
      refine s_true (by simp [evl]) (w_assoc (s_run (by simp only [runL, awant_none, astep, evl, put, ap_none, List.length_nil, Nat.add_zero] <;> rfl) ?_))
      refine s_ret ?_
      show _ ∧ _
      exact okE_out rfl (by simp [upd_app]) (by simp []) hs hwf hkp (by rw [permB_not hk hok (.inl h0)]; rfl)
    have d0 : decide (a[k] < 0) = false := decide_eq_false h0
    by_cases h1 : (a.length : Int) ≤ a[k]
    · have d1 : decide (a[k] ≥ (a.length : Int)) = true := decide_eq_true h1
      refine w_assoc (s_run (by simp only [runL, awant_some, List.getElem?_toArray, List.getElem?_cons_succ, List.getElem?_cons_zero, Option.bind_some, b_tf, b_ff, awant_none, astep, evl, put, ap_none, List.length_nil, Nat.add_zero, upd_app, stepBin, abin, stepPick, stepCall, reduceCtorEq, ↓reduceIte, Nat.reduceEqDiff, Bool.false_eq_true, undef, t6, t0, i1, l1, hlen, d0, d1] <;> rfl) ?_)
      refine s_true (by simp [evl]) (w_assoc (s_run (by simp only [runL, awant_none, astep, evl, put, ap_none, List.length_nil, Nat.add_zero] <;> rfl) ?_))
      refine s_ret ?_
      show _ ∧ _
      exact okE_out rfl (by simp [upd_app]) (by simp []) hs hwf hkp (by rw [permB_not hk hok (.inr (.inl h1))]; rfl)
    have d1 : decide (a[k] ≥ (a.length : Int)) = false := decide_eq_false h1
    obtain ⟨y, hy⟩ : ∃ y : Nat, a[k] = (y : Int) := ⟨a[k].toNat, by omega⟩
    have hyl : y < a.length := by omega
    rw [hy] at l1 d0 d1
    have ix := idxI n a.length y a.length hyl
    have lx := ldI b (outL_len a k _) (by rw [outL_len]; exact hyl : y < _)
    have hse : (outL a k (-1))[y]'(by rw [outL_len]; exact hyl) = if (y : Int) ∈ a.take k then ((a.idxOf (y : Int) : Nat) : Int) else -1 := by simp [outL]
    rw [hse] at lx
    by_cases hm : (y : Int) ∈ a.take k
    · rw [if_pos hm] at lx
      have d2 : decide (((a.idxOf (y : Int) : Nat) : Int) ≥ 0) = true := decide_eq_true (by omega)
      refine w_assoc (s_run (by simp only [runL, awant_some, List.getElem?_toArray, List.getElem?_cons_succ, List.getElem?_cons_zero, Option.bind_some, b_ff, awant_none, astep, evl, put, ap_none, List.length_nil, Nat.add_zero, upd_app, stepBin, abin, stepPick, stepCall, reduceCtorEq, ↓reduceIte, Nat.reduceEqDiff, Bool.false_eq_true, t6, t0, t4, i1, l1, hlen, d0, d1, ix, lx, d2] <;> rfl) ?_)
      refine s_true (by simp [evl]) (w_assoc (s_run (by simp only [runL, awant_none, astep, evl, put, ap_none, List.length_nil, Nat.add_zero] <;> rfl) ?_))
      refine s_ret ?_
      show _ ∧ _
      exact okE_out rfl (by simp [upd_app]) (by simp []) hs hwf hkp (by rw [permB_not hk hok (.inr (.inr (by rw [hy]; exact hm)))]; rfl)
    · rw [if_neg hm] at lx
      refine w_assoc (s_run (by simp only [runL, awant_some, List.getElem?_toArray, List.getElem?_cons_succ, List.getElem?_cons_zero, Option.bind_some, b_ff, awant_none, astep, evl, put, ap_none, List.length_nil, Nat.add_zero, upd_app, stepBin, abin, stepPick, stepCall, reduceCtorEq, ↓reduceIte, Nat.reduceEqDiff, Bool.false_eq_true, Int.reduceLE, decide_false, t6, t0, t4, i1, l1, hlen, d0, d1, ix, lx, Int.reduceNeg, ge_iff_le, Int.reduceLE] <;> rfl) ?_)
      refine s_false (by simp [evl]) (s_skip ?_)
      refine w_gen (fun t => t 0 = v ∧ t 4 = .slice (some ⟨n, 0, some a.length⟩) a.length 1 ∧ t 6 = .int .i64 k) (by simp [upd_app, t0, t4, t6]) ?_
      clear t0 t4 t6
      rintro t ⟨t0, t4, t6⟩
      have s1 := stI (x := (k : Int)) b (outL_len a k _) (by rw [outL_len]; exact hyl : y < _)
      rw [out_set' hk hy hyl hm] at s1
      refine region_run (id := 11) (by simp only [runL, awant_none, astep, evl, put, ap_none, ap_wr, List.length_nil, Nat.add_zero, upd_app, reduceCtorEq, ↓reduceIte, Nat.reduceEqDiff, undef, t0, t4, t6, i1, l1, ix, s1] <;> rfl) ?_
      exact ⟨by simp [upd_app, t6], fun _ _ _ => ⟨by simp [upd_app, t0], by simp [upd_app, t4], (okTo_succ hk).2 ⟨hok, by omega, by omega, by rw [hy]; exact hm⟩, by simp [], kp_upd hkp (Nat.le_refl _)⟩⟩
  · clear t0 t4 b hkp
    rintro t g m ⟨t0, t4, hok, b, hkp⟩
    have hp := permB_of hok
    rw [outL_all hp] at b
    have hll := invL_len a
    refine s_run (by simp only [runL, awant_none, astep, evl, put, ap_none, List.length_nil, Nat.add_zero, upd_app, ↓reduceIte, t4] <;> rfl) ?_
    exact w_ret (okE_some (k := n) rfl (by simp [upd_app, hll]) (by simp []) (Nat.le_refl _) b hs hwf hkp (by rw [hp]; rfl))

set_option maxRecDepth 10000 in
theorem ris_spec (v : Value) (a : List Int) (g : Heap) (hl : a.length ≤ 2 ^ 38) (hv : Src g v 1 a.length (intsI a)) : FnSpec Tryz.prog 22 [v] g { v := .bool (permB a), r := srcBlk v } := by
  refine spec_of_body [2] follows Tryz.func22 rfl (by kernel_rfl) (by simp [Tryz.f22]) (by kernel_rfl) rfl ?_
  intro g2 s2 n hg hfr hs hn hwf hsv
  have hv2 : Src g2 v 1 a.length (intsI a) := hv.congr fun i hi => hg i (by simp [Eff.fp, hi])
  have hvd : ∀ i ∈ srcBlk v, i < n := dom_of hs hwf hv2
  clear hg hfr hn hv
  have hcall := rinverse_spec v a g2 n hl hv2
  refine s_run (by simp only [runL, awant_none, astep, evl, put, ap_none, List.length_nil, Nat.add_zero, undef] <;> rfl) ?_
  refine s_take 1 (by simp only [runL, Option.getD_some, List.getElem?_cons_zero, List.take_succ_cons, List.take_zero, awant_none, astep, evl, put, ap_none, List.length_nil, Nat.add_zero, upd_app, reduceCtorEq, ↓reduceIte] <;> rfl) ?_
  refine ops_call 29 _ rfl hcall (fun _ => okE_j _ _ _) ?_
  refine ops_heap fun G1 hG1 => ?_
  have k1 : Kp n g2 G1 := by rw [hG1]; exact kp_ap (Kp.refl _ _) (okE_w _ _ _) (fun _ => by rw [okE_j]; exact Nat.le_refl _)
  clear hG1
  cases hp : permB a with
  | true =>
    refine ops_run (by simp only [runL, List.getElem?_toArray, List.getElem?_cons_succ, List.getElem?_cons_zero, awant_none, astep, evl, put, ap_none, List.length_nil, List.length_cons, Nat.add_zero, Nat.zero_add, upd_app, stepExtract, ↓reduceIte, Nat.reduceEqDiff, okE] <;> rfl) ?_
    refine s_run (by simp only [runL, awant_none, astep, evl, put, ap_none, List.length_nil, Nat.add_zero, upd_app, ↓reduceIte] <;> rfl) ?_
    refine w_ret ⟨.inr rfl, by simp, [], fin_plain hs hwf k1 (by simp [resVal]) trivial⟩
  | false =>
    refine ops_run (by simp only [runL, List.getElem?_toArray, List.getElem?_cons_succ, List.getElem?_cons_zero, awant_none, astep, evl, put, ap_none, List.length_nil, Nat.add_zero, upd_app, stepExtract, ↓reduceIte, Nat.reduceEqDiff, Bool.false_eq_true, okE] <;> rfl) ?_
    refine s_run (by simp only [runL, awant_none, astep, evl, put, ap_none, List.length_nil, Nat.add_zero, upd_app, ↓reduceIte] <;> rfl) ?_
    refine w_ret ⟨.inr rfl, by simp, [], fin_plain hs hwf k1 (by simp [resVal]) trivial⟩

set_option maxRecDepth 10000 in
theorem rlcp_spec (v w : Value) (s : List Nat) (a : List Int) (g : Heap) (j : Nat) (hl : s.length ≤ 2 ^ 38) (hla : a.length ≤ 2 ^ 38) (hv : Src g v 1 s.length (bs s)) (hw : Src g w 1 a.length (intsI a)) :
    FnSpec Tryz.prog 14 [v, w] g (okE (lcpB s a) (srcBlk v ++ srcBlk w) j) := by
  refine spec_of_body [4, 5] follows Tryz.func14 rfl (by kernel_rfl) (by simp [Tryz.f14]) (by kernel_rfl) rfl ?_
  intro g2 s2 n hg hfr hs hn hwf hsv
  rw [okE_fp] at hg
  have hv2 : Src g2 v 1 s.length (bs s) := hv.congr fun i hi => hg i (by simp [hi])
  have hw2 : Src g2 w 1 a.length (intsI a) := hw.congr fun i hi => hg i (by simp [hi])
  have hvd := dom_of hs hwf hv2
  have hwd := dom_of hs hwf hw2
  have hlv := hv2.len Tryz.underlying22
  have hlw := hw2.len Tryz.underlying23
  clear hg hfr hn hv hw
  refine s_run (by simp only [runL, awant_none, astep, evl, put, ap_none, List.length_nil, Nat.add_zero, undef] <;> rfl) ?_
  by_cases hal : ¬ a.length = s.length
  · have e1 : ((a.length : Int) != (s.length : Int)) = true := ine_t (by omega)
    refine w_assoc (s_run (by simp only [runL, awant_some, Option.getD_some, List.getElem?_toArray, List.getElem?_cons_succ, List.getElem?_cons_zero, Option.bind_some, b_tf, awant_none, astep, evl, put, ap_none, List.length_nil, Nat.add_zero, upd_app, stepBin, abin, stepPick, stepCall, reduceCtorEq, ↓reduceIte, Nat.reduceEqDiff, undef, hlv, hlw, e1] <;> rfl) ?_)
    refine s_true (by simp [evl]) (w_assoc (s_run (by simp only [runL, awant_none, astep, evl, put, ap_none, List.length_nil, Nat.add_zero] <;> rfl) ?_))
    refine s_ret ?_
    show _ ∧ _
    exact okE_out rfl (by simp [upd_app]) (by simp []) hs hwf (Kp.refl _ _) (by rw [lcpB, if_neg (fun h => hal h.2)])
  replace hal := Classical.not_not.1 hal
  have e1 : ((a.length : Int) != (s.length : Int)) = false := ine_f (by omega)
  have his := ris_spec w a g2 hla hw2
  refine w_assoc (s_take 7 (by simp only [runL, awant_some, Option.getD_some, List.getElem?_toArray, List.getElem?_cons_succ, List.getElem?_cons_zero, Option.bind_some, b_ff, List.take_succ_cons, List.take_zero, awant_none, astep, evl, put, ap_none, List.length_nil, Nat.add_zero, upd_app, stepBin, abin, stepCall, reduceCtorEq, ↓reduceIte, Nat.reduceEqDiff, hlv, hlw, e1] <;> rfl) ?_)
  refine g_call 22 _ (by simp only [awant_some, List.getElem?_toArray, List.getElem?_cons_succ, List.getElem?_cons_zero, Option.bind_some, b_ff, upd_app, ↓reduceIte, Nat.reduceEqDiff] <;> rfl) rfl his (fun h => (h rfl).elim) ?_
  by_cases hp : ¬ permB a = true
  · rw [show permB a = false by simpa using hp]
    refine ops_run (by simp only [runL, awant_some, List.getElem?_toArray, List.getElem?_cons_succ, List.getElem?_cons_zero, Option.bind_some, b_ff, Bool.not_false, awant_none, astep, evl, put, ap_none, List.length_nil, Nat.add_zero, upd_app, stepUn, stepPick, ↓reduceIte, Nat.reduceEqDiff, Bool.false_eq_true] <;> rfl) ?_
    refine s_true (by simp [evl]) (w_assoc (s_run (by simp only [runL, awant_none, astep, evl, put, ap_none, List.length_nil, Nat.add_zero] <;> rfl) ?_))
    refine s_ret ?_
    show _ ∧ _
    exact okE_out rfl (by simp [upd_app]) (by simp []) hs hwf (Kp.refl _ _) (by rw [lcpB, if_neg (fun h => hp h.1)])
  replace hp := Classical.not_not.1 hp
  rw [hp]
  refine ops_run (by simp only [runL, awant_some, List.getElem?_toArray, List.getElem?_cons_succ, List.getElem?_cons_zero, Option.bind_some, b_ff, Bool.not_true, awant_none, astep, evl, put, ap_none, List.length_nil, Nat.add_zero, upd_app, stepUn, stepPick, ↓reduceIte, Nat.reduceEqDiff, Bool.false_eq_true] <;> rfl) ?_
  refine s_false (by simp [evl]) (s_skip ?_)
  have hO : lcpB s a = some (zs (lcpL s (nats a))) := by rw [lcpB, if_pos ⟨hp, hal⟩]
  obtain ⟨ea, hperm, _⟩ := permB_nat hp
  have hAl := nats_len a
  obtain ⟨A, hA⟩ : ∃ A, nats a = A := ⟨_, rfl⟩
  rw [hA] at ea hperm hO hAl
  rw [hal] at hperm
  rw [← hAl] at hlw
  refine w_gen (fun t => t 0 = v ∧ t 1 = w) (by simp [upd_app]) ?_
  rintro t ⟨t0, t1⟩
  show awp _ _ _ _ g2 n
  refine s_run (by simp only [runL, awant_none, astep, evl, put, ap_none, ap_new, List.length_nil, List.length_cons, Nat.add_zero, Nat.zero_add, upd_app, stepCall, ↓reduceIte, t1, hlw, mkInts A.length n (by omega)] <;> rfl) (w_heap fun G2 hG2 => ?_)
  have b2 : G2 n = some ⟨false, 3, ints (preL s A 1)⟩ := by
    have : preL s A 1 = List.replicate A.length 0 := by unfold preL; rw [List.eq_replicate_iff]; simp
    rw [hG2, this]; simp []
  have k2 : Kp n g2 G2 := by rw [hG2]; exact kp_upd (Kp.refl _ _) (by omega)
  refine w_assoc (s_run (by simp only [runL, awant_none, astep, evl, put, ap_none, List.length_nil, Nat.add_zero] <;> rfl) ?_)
  have hlt : ∀ i, i < A.length → byt A i < s.length := fun i hi => by
    have : byt A i ∈ A := by rw [byt_eq hi]; exact List.getElem_mem hi
    simpa using hperm.mem_iff.1 this
  refine s_for 1 (max 1 A.length) (fun k t g n' => t 0 = v ∧ t 1 = w ∧ t 6 = .slice (some ⟨n, 0, some A.length⟩) A.length 1 ∧ 1 ≤ k ∧ g n = some ⟨false, 3, ints (preL s A k)⟩ ∧ Kp n g2 g) (by omega) (by omega) (by simp []) ⟨by simp [upd_app, t0], by simp [upd_app, t1], by simp [upd_app], Nat.le_refl _, b2, k2⟩ ?_ ?_ ?_
  · rintro k t g m hk t7 ⟨t0, t1, t6, h1, b, hkp⟩
    have dl : decide ((k : Int) < (A.length : Int)) = decide (k < max 1 A.length) := by
      by_cases h : k < A.length
      · rw [decide_eq_true (by omega), decide_eq_true (by omega)]
      · rw [decide_eq_false (by omega), decide_eq_false (by omega)]
    exact ⟨_, (by simp only [runL, awant_none, astep, evl, put, ap_none, List.length_nil, Nat.add_zero, upd_app, stepBin, abin, stepCall, ↓reduceIte, Nat.reduceEqDiff, t7, t1, hlw, dl] <;> rfl), by simp [], by simp [upd_app, t7], by simp [upd_app, t0], by simp [upd_app, t1], by simp [upd_app, t6], h1, b, hkp⟩
  · clear t0 t1 b2 k2 hG2
    rintro k t g m hk t7 ⟨t0, t1, t6, h1, b, hkp⟩
    have hkA : k < A.length := by omega
    have w1 : IntKind.i64.wrap ((k : Int) - 1) = ((k - 1 : Nat) : Int) := wrap_sub1 h1 (by omega)
    have hwg : Src g w 1 A.length (ints A) := by rw [ints_zs, ← ea, hAl]; exact hkp.src hw2 hwd
    obtain ⟨p, i1, l1, _⟩ := srcN hwg (show k - 1 < A.length by omega)
    obtain ⟨q, i2, l2, _⟩ := srcN hwg hkA
    have hx := hlt (k - 1) (by omega)
    have hy := hlt k hkA
    have hset := preL_set (s := s) hkA h1
    generalize byt A (k - 1) = x at *
    generalize byt A k = y at *
    have hcom := rcommon_spec v s x y g hl (by omega) (by omega) (hkp.src hv2 hvd)
    have iy := idxI n A.length k A.length hkA
    have s1 := stN (x := cp (s.drop x) (s.drop y)) b (preL_len s A k) (by rw [preL_len]; exact hkA)
    rw [hset] at s1
    refine region_drawn #[0, 0, 0, 0, 0, 16, 56, 120, 0, 0, 768, 1792, 4092, 8191, 16383] (by decide +kernel) ?_
    refine d_readsB 12 (by simp) (by simp only [runR, List.take_succ_cons, List.take_zero, awant_none, astep, evl, put, upd_app, stepBin, abin, reduceCtorEq, ↓reduceIte, Nat.reduceEqDiff, List.isEmpty_nil, Bool.and_self, t0, t1, t6, t7, w1, i1, l1, i2, l2] <;> rfl) fun a1 ha1 => ?_
    refine d_rcall 23 _ rfl rfl rfl (by simp only [awant_none] <;> rfl) hcom rfl rfl ha1 fun a2 ha2 => ?_
    refine d_readsB 1 ha2 (by simp only [runR, List.take_succ_cons, List.take_zero, awant_none, astep, evl, put, upd_app, ↓reduceIte, Nat.reduceEqDiff, List.isEmpty_nil, Bool.and_self, iy] <;> rfl) fun a3 ha3 => ?_
    refine d_last _ (by simp only [astep, evl, upd_app, ↓reduceIte, Nat.reduceEqDiff, undef, s1] <;> rfl) (by simp only [awant_none] <;> rfl) ha3 rfl ?_
    refine ⟨by simp [upd_app, put, t7], fun _ _ _ => ⟨by simp [upd_app, put, t0], by simp [upd_app, put, t1], by simp [upd_app, put, t6], by omega, by simp [ap_wr], ?_⟩⟩
    simp only [ap_wr]
    exact kp_upd hkp (by omega)
  · clear t0 t1 b2 k2 hG2
    rintro t g m ⟨t0, t1, t6, h1, b, hkp⟩
    rw [preL_all] at b
    have hll := lcpL_len s A
    refine s_run (by simp only [runL, awant_none, astep, evl, put, ap_none, List.length_nil, Nat.add_zero, upd_app, ↓reduceIte, t6] <;> rfl) ?_
    exact w_ret (okE_some (k := n) (l := zs (lcpL s A)) rfl (by simp [upd_app, hll]) (by simp []) (by omega) (by rw [← ints_zs]; exact b) hs hwf hkp hO)

set_option maxRecDepth 10000 in
theorem rsa_spec (v w : Value) (s : List Nat) (a : List Int) (g : Heap) (hl : s.length ≤ 2 ^ 30) (hla : a.length ≤ 2 ^ 38) (hb : ∀ x ∈ s, x < 256) (hv : Src g v 1 s.length (bs s)) (hw : Src g w 1 a.length (intsI a)) :
    FnSpec Tryz.prog 5 [v, w] g { v := .bool (saB s a), r := srcBlk v ++ srcBlk w } := by
  refine spec_of_body [4] follows Tryz.func5 rfl (by kernel_rfl) (by simp [Tryz.f5]) (by kernel_rfl) rfl ?_
  intro g2 s2 n hg hfr hs hn hwf hsv
  have hv2 : Src g2 v 1 s.length (bs s) := hv.congr fun i hi => hg i (by simp [Eff.fp, hi])
  have hvd : ∀ i ∈ srcBlk v, i < n := dom_of hs hwf hv2
  have hw2 : Src g2 w 1 a.length (intsI a) := hw.congr fun i hi => hg i (by simp [Eff.fp, hi])
  have hwd : ∀ i ∈ srcBlk w, i < n := dom_of hs hwf hw2
  clear hg hfr hn hv hw
  refine s_run (by simp only [runL, awant_none, astep, evl, put, ap_none, List.length_nil, Nat.add_zero, undef] <;> rfl) ?_
  refine s_take 2 (by simp only [runL, Option.getD_some, List.getElem?_cons_succ, List.getElem?_cons_zero, List.take_succ_cons, List.take_zero, awant_none, astep, evl, put, ap_none, List.length_nil, Nat.add_zero, upd_app, reduceCtorEq, ↓reduceIte, Nat.reduceEqDiff] <;> rfl) ?_
  refine ops_call 11 _ rfl (bytes_spec v s g2 n hl hb hv2) (fun _ => newE_j _ _ _ _) ?_
  refine ops_heap fun G1 hG1 => ?_
  have hsr := newE_src 3 (ints (ordL s s.length)) (srcBlk v) n g2
  have k1 : Kp n g2 G1 := by rw [hG1]; exact newE_kp (Kp.refl _ _) (Nat.le_refl _)
  rw [← hG1] at hsr
  have hsr' : Src G1 (newE 3 (ints (ordL s s.length)) (srcBlk v) n).v 1 (zs (ordL s s.length)).length (intsI (zs (ordL s s.length))) := by
    rw [ints_zs] at hsr ⊢; simpa [zs] using hsr
  have heq := rints_spec w (newE 3 (ints (ordL s s.length)) (srcBlk v) n).v a (zs (ordL s s.length)) G1 (by omega) (by simp [zs, ordL_len]; omega) (k1.src hw2 hwd) hsr'
  refine ops_call 10 _ rfl (by simpa [evl, upd_app, put] using heq) (fun h => (h rfl).elim) ?_
  refine ops_run rfl ?_
  refine w_ret ⟨.inr rfl, by simp, [], fin_plain hs hwf k1 ?_ trivial⟩
  simp [resVal, put, evl, saB_iff]

set_option maxRecDepth 10000 in
theorem rclcp_spec (v w u : Value) (s : List Nat) (a h : List Int) (g : Heap) (hl : s.length ≤ 2 ^ 30) (hla : a.length ≤ 2 ^ 38) (hlh : h.length ≤ 2 ^ 38) (hb : ∀ x ∈ s, x < 256) (hv : Src g v 1 s.length (bs s)) (hw : Src g w 1 a.length (intsI a)) (hu : Src g u 1 h.length (intsI h)) :
    FnSpec Tryz.prog 7 [v, w, u] g { v := .bool (lcpOK s a h), r := srcBlk v ++ srcBlk w ++ srcBlk u } := by
  refine spec_of_body [6] follows Tryz.func7 rfl (by kernel_rfl) (by simp [Tryz.f7]) (by kernel_rfl) rfl ?_
  intro g2 s2 n hg hfr hs hn hwf hsv
  have hv2 : Src g2 v 1 s.length (bs s) := hv.congr fun i hi => hg i (by simp [Eff.fp, hi])
  have hvd : ∀ i ∈ srcBlk v, i < n := dom_of hs hwf hv2
  have hw2 : Src g2 w 1 a.length (intsI a) := hw.congr fun i hi => hg i (by simp [Eff.fp, hi])
  have hwd : ∀ i ∈ srcBlk w, i < n := dom_of hs hwf hw2
  have hu2 : Src g2 u 1 h.length (intsI h) := hu.congr fun i hi => hg i (by simp [Eff.fp, hi])
  have hud : ∀ i ∈ srcBlk u, i < n := dom_of hs hwf hu2
  clear hg hfr hn hv hw hu
  refine s_run (by simp only [runL, awant_none, astep, evl, put, ap_none, List.length_nil, Nat.add_zero, undef] <;> rfl) ?_
  have hcall := rlcp_spec v w s a g2 n (by omega) hla hv2 hw2
  refine s_take 2 (by simp only [runL, Option.getD_some, List.getElem?_cons_succ, List.getElem?_cons_zero, List.take_succ_cons, List.take_zero, awant_none, astep, evl, put, ap_none, List.length_nil, Nat.add_zero, upd_app, reduceCtorEq, ↓reduceIte, Nat.reduceEqDiff] <;> rfl) ?_
  refine ops_call 14 _ rfl hcall (fun _ => okE_j _ _ _) ?_
  refine ops_heap fun G1 hG1 => ?_
  have k1 : Kp n g2 G1 := by rw [hG1]; exact kp_ap (Kp.refl _ _) (okE_w _ _ _) (fun _ => by rw [okE_j]; exact Nat.le_refl _)
  have hsa := rsa_spec v w s a G1 hl hla hb (k1.src hv2 hvd) (k1.src hw2 hwd)
  cases hO : lcpB s a with
  | none =>
    have hB' : saB s a = false := by
      cases h : saB s a with
      | false => rfl
      | true => rw [lcpB_of h] at hO; cases hO
    refine ops_run (by simp only [runL, List.getElem?_toArray, List.getElem?_cons_succ, List.getElem?_cons_zero, awant_none, astep, evl, put, ap_none, List.length_nil, Nat.add_zero, upd_app, stepExtract, ↓reduceIte, Nat.reduceEqDiff, okE] <;> rfl) ?_
    refine s_run (by simp only [runL, awant_some, List.getElem?_toArray, List.getElem?_cons_succ, List.getElem?_cons_zero, Option.bind_some, b_ft, awant_none, astep, evl, put, ap_none, List.length_nil, Nat.add_zero, upd_app, stepPick, ↓reduceIte, Nat.reduceEqDiff, Bool.false_eq_true, undef] <;> rfl) ?_
    refine w_ret ⟨.inr rfl, by simp, [], fin_plain hs hwf k1 (by simp [resVal, lcpOK, hB']) trivial⟩
  | some l =>
    rw [hO] at hG1
    have b1 : G1 n = some ⟨false, 3, intsI l⟩ := by rw [hG1]; simp only [okE, ap_new]; simp []
    refine ops_run (by simp only [runL, List.getElem?_toArray, List.getElem?_cons_succ, List.getElem?_cons_zero, awant_none, astep, evl, put, ap_none, List.length_nil, List.length_cons, Nat.add_zero, Nat.zero_add, upd_app, stepExtract, ↓reduceIte, Nat.reduceEqDiff, okE] <;> rfl) ?_
    refine w_gen (fun t => t 0 = v ∧ t 1 = w ∧ t 2 = u ∧ t 7 = .slice (some ⟨n, 0, some l.length⟩) l.length 1 ∧ t 8 = .bool true) (by simp [upd_app]) ?_
    rintro t ⟨t0, t1, t2, t7, t8⟩
    refine s_take 4 (by simp only [runL, awant_some, List.getElem?_toArray, List.getElem?_cons_succ, List.getElem?_cons_zero, Option.bind_some, b_tt, List.take_succ_cons, List.take_zero, awant_none, astep, evl, put, ap_none, List.length_nil, Nat.add_zero, upd_app, reduceCtorEq, ↓reduceIte, Nat.reduceEqDiff, t0, t1, t8] <;> rfl) ?_
    refine g_call 5 _ (by simp only [awant_some, List.getElem?_toArray, List.getElem?_cons_succ, List.getElem?_cons_zero, Option.bind_some, b_tt, upd_app, ↓reduceIte, Nat.reduceEqDiff] <;> rfl) rfl (by simp only [upd_app, evl, List.map_cons, List.map_nil]; exact hsa) (fun h => (h rfl).elim) ?_
    cases hB : saB s a with
    | false =>
      refine ops_run (by simp only [runL, awant_some, List.getElem?_toArray, List.getElem?_cons_succ, List.getElem?_cons_zero, Option.bind_some, b_ft, awant_none, astep, evl, put, ap_none, List.length_nil, Nat.add_zero, upd_app, stepPick, ↓reduceIte, Nat.reduceEqDiff, Bool.false_eq_true, undef] <;> rfl) ?_
      refine w_ret ⟨.inr rfl, by simp, [], fin_plain hs hwf k1 (by simp [resVal, lcpOK, hB]) trivial⟩
    | true =>
      have hO' := lcpB_of hB
      rw [hO] at hO'
      cases hO'
      have hlen : (zs (lcpL s (nats a))).length = a.length := by simp [zs, lcpL_len, nats_len]
      have heq := rints_spec _ u (zs (lcpL s (nats a))) h G1 (by omega) (by omega) (src_intsI' b1 rfl) (k1.src hu2 hud)
      refine ops_take 4 (by simp only [runL, awant_some, List.getElem?_toArray, List.getElem?_cons_succ, List.getElem?_cons_zero, Option.bind_some, b_tt, List.take_succ_cons, List.take_zero, awant_none, astep, evl, put, ap_none, List.length_nil, Nat.add_zero, upd_app, stepPick, ↓reduceIte, Nat.reduceEqDiff, t2, t7] <;> rfl) ?_
      refine g_call 10 _ (by simp only [awant_some, List.getElem?_toArray, List.getElem?_cons_succ, List.getElem?_cons_zero, Option.bind_some, b_tt, upd_app, ↓reduceIte, Nat.reduceEqDiff] <;> rfl) rfl (by simp only [upd_app, evl, List.map_cons, List.map_nil]; exact heq) (fun h => (h rfl).elim) ?_
      refine ops_run (by simp only [runL, awant_none, astep, evl, put, ap_none, List.length_nil, Nat.add_zero, upd_app, stepPick, ↓reduceIte, Nat.reduceEqDiff] <;> rfl) ?_
      refine w_ret ⟨.inr rfl, by simp, [], fin_plain hs hwf k1 (by simp [resVal, lcpOK, hB]) trivial⟩
end Go.Proofs.YtdpkhijbikbhnaaGreat
