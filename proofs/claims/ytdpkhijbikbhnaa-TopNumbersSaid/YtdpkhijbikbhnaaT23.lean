import Derived.Test.YtdpkhijbikbhnaaT22
namespace Go.Proofs.Ytdpkhijbikbhnaa
open Go Abs Plain
set_option linter.unusedSimpArgs false
set_option linter.unusedVariables false

theorem rnE_r (l : List Nat) (m : Nat) (r : List Nat) (j : Nat) : (rnE l m r j).r = r := rfl
theorem rnE_w (l : List Nat) (m : Nat) (r : List Nat) (j : Nat) : (rnE l m r j).w = [] := rfl
theorem rnE_fp (l : List Nat) (m : Nat) (r : List Nat) (j : Nat) : (rnE l m r j).fp = r := by simp [Eff.fp, rnE_r, rnE_w]

set_option maxRecDepth 40000 in
set_option maxHeartbeats 1000000 in
theorem named_spec (v w u : Value) (s first order : List Nat) (g : Heap) (jj : Nat) (hl : s.length ≤ 2 ^ 37) (hlf : first.length ≤ 2 ^ 37) (hlo : order.length ≤ 2 ^ 37) (hf : ∀ x ∈ first, x < s.length) (ho : ∀ x ∈ order, x < s.length)
    (hpc : ∀ x ∈ order, byt (nxL s first) x ≠ 0 → x ≤ pcE s (nxL s first) x) (hv : Src g v 1 s.length (ints s)) (hw : Src g w 1 first.length (ints first)) (hu : Src g u 1 order.length (ints order)) :
    FnSpec Try.prog 33 [v, w, u] g (rnE (nmsL s first order) (nmsN s first order) (srcBlk v ++ srcBlk w ++ srcBlk u) jj) := by
  refine spec_of_body [6, 7] follows Try.func33 rfl (by kernel_rfl) (by simp [Try.f33]) (by kernel_rfl) rfl ?_
  intro g2 s2 n hg hfr hs hn hwf hsv
  rw [rnE_fp] at hg
  have hv2 : Src g2 v 1 s.length (ints s) := hv.congr fun i hi => hg i (by simp [hi])
  have hw2 : Src g2 w 1 first.length (ints first) := hw.congr fun i hi => hg i (by simp [hi])
  have hu2 : Src g2 u 1 order.length (ints order) := hu.congr fun i hi => hg i (by simp [hi])
  have hvd := dom_of hs hwf hv2
  have hwd := dom_of hs hwf hw2
  have hud := dom_of hs hwf hu2
  have hlv := hv2.len Try.underlying22
  have hlw := hw2.len Try.underlying22
  have hlu := hu2.len Try.underlying22
  clear hg hfr hn hv hw hu
  refine s_run (by simp only [runL, awant_none, astep, evl, put, ap_none, List.length_nil, Nat.add_zero, undef] <;> rfl) ?_
  refine s_run (by simp only [runL, Option.getD_some, List.getElem?_cons_zero, awant_none, astep, evl, put, ap_none, ap_new, List.length_nil, List.length_cons, Nat.add_zero, Nat.zero_add, upd_app, stepCall, reduceCtorEq, ↓reduceIte, hlv, mkInts s.length n (by omega)] <;> rfl) (w_heap fun G1 hG1 => ?_)
  have b1 : G1 n = some ⟨false, 3, ints (nxRun s first 0)⟩ := by rw [hG1]; simp [nxRun]
  have k1 : Kp n g2 G1 := by rw [hG1]; exact kp_upd (Kp.refl _ _) (Nat.le_refl _)
  refine w_assoc (s_run (by simp only [runL, Option.getD_some, List.getElem?_cons_succ, List.getElem?_cons_zero, awant_none, astep, evl, put, ap_none, List.length_nil, Nat.add_zero, upd_app, stepCall, ↓reduceIte, Nat.reduceEqDiff, hlw] <;> rfl) ?_)
  refine s_rng first.length (fun i t g n' => t 0 = v ∧ t 1 = w ∧ t 2 = u ∧ t 8 = .slice (some ⟨n, 0, some s.length⟩) s.length 1 ∧ t 22 = w ∧ g n = some ⟨false, 3, ints (nxRun s first i)⟩ ∧ Kp n g2 g ∧ n' = n + 1) (by omega) (by simp []) (by simp [upd_app])
    (fun _ => ⟨by simp [upd_app], by simp [upd_app], by simp [upd_app], by simp [upd_app], by simp [upd_app], b1, k1, rfl⟩) (by decide) ?_ ?_
  · clear b1 k1 hG1
    rintro i t g n' hi t24 t23 ⟨t0, t1, t2, t8, t22, b, hkp, hnn⟩
    have hwg := hkp.src hw2 hwd
    obtain ⟨p, i1, l1, _⟩ := srcN hwg hi
    have hx : byt first i < s.length := hf _ (by rw [byt_eq hi]; exact List.getElem_mem hi)
    have hnl := nxRun_len s first i
    have hsucc : nxRun s first (i + 1) = (nxRun s first i).set (byt first i) (if i + 1 < first.length then byt first (i + 1) else s.length) := rfl
    generalize byt first i = x at *
    have iy := idxI n s.length x s.length hx
    have s1 := stN (m := s.length) (i := x) (x := s.length) b hnl (by rw [hnl]; exact hx)
    refine s_run (by simp only [runL, awant_none, astep, evl, put, ap_none, List.length_nil, Nat.add_zero, upd_app, ↓reduceIte, Nat.reduceEqDiff, t22, t24, i1, l1] <;> rfl) ?_
    refine s_run (by simp only [runL, awant_none, astep, evl, put, ap_none, ap_wr, List.length_nil, Nat.add_zero, upd_app, stepCall, reduceCtorEq, ↓reduceIte, Nat.reduceEqDiff, undef, t8, t0, hlv, iy, s1] <;> rfl) (w_heap fun G2 hG2 => ?_)
    have b2 : G2 n = some ⟨false, 3, ints ((nxRun s first i).set x s.length)⟩ := by rw [hG2]; simp []
    have k2 : Kp n g2 G2 := by rw [hG2]; exact kp_upd hkp (Nat.le_refl _)
    clear hG2
    have w1 : IntKind.i64.wrap ((i : Int) + 1) = ((i + 1 : Nat) : Int) := wrap_succ (by omega)
    by_cases h : i + 1 < first.length
    · have d : decide (((i + 1 : Nat) : Int) < (first.length : Int)) = true := decide_eq_true (by omega)
      rw [if_pos h] at hsucc
      obtain ⟨q, i2, l2, _⟩ := srcN (k2.src hw2 hwd) h
      have s2' := stN (m := s.length) (i := x) (x := byt first (i + 1)) b2 (by simp [hnl]) (by simp [hnl]; exact hx)
      rw [List.set_set, ← hsucc] at s2'
      refine s_run (by simp only [runL, awant_none, astep, evl, put, ap_none, List.length_nil, Nat.add_zero, upd_app, stepBin, abin, stepCall, ↓reduceIte, Nat.reduceEqDiff, t1, hlw, w1, d] <;> rfl) ?_
      refine w_true (by simp [evl]) ?_
      refine region_run (id := 7) (by simp only [runL, awant_none, astep, evl, put, ap_none, ap_wr, List.length_nil, Nat.add_zero, upd_app, stepBin, abin, ↓reduceIte, Nat.reduceEqDiff, undef, t8, t1, w1, i2, l2, iy, s2'] <;> rfl) ?_
      simp only [rngPost]
      exact ⟨by simp [upd_app, t24], by simp [upd_app, t23], fun _ _ _ => ⟨by simp [upd_app, t0], by simp [upd_app, t1], by simp [upd_app, t2], by simp [upd_app, t8], by simp [upd_app, t22], by simp [], kp_upd k2 (Nat.le_refl _), hnn⟩⟩
    · have d : decide (((i + 1 : Nat) : Int) < (first.length : Int)) = false := decide_eq_false (by omega)
      rw [if_neg h] at hsucc
      refine s_run (by simp only [runL, awant_none, astep, evl, put, ap_none, List.length_nil, Nat.add_zero, upd_app, stepBin, abin, stepCall, ↓reduceIte, Nat.reduceEqDiff, t1, hlw, w1, d] <;> rfl) ?_
      refine w_false (by simp [evl]) (w_skip ?_)
      simp only [rngPost]
      exact ⟨by simp [upd_app, t24], by simp [upd_app, t23], fun _ _ _ => ⟨by simp [upd_app, t0], by simp [upd_app, t1], by simp [upd_app, t2], by simp [upd_app, t8], by simp [upd_app, t22], by rw [hsucc]; exact b2, k2, hnn⟩⟩
  clear b1 k1 hG1
  rintro t g N ⟨t0, t1, t2, t8, t22, b, hkp, hnn⟩
  have hN2 : nxRun s first first.length = nxL s first := rfl
  rw [hN2] at b
  have hnl : (nxL s first).length = s.length := nxRun_len s first _
  have hnle : ∀ x ∈ nxL s first, x ≤ s.length := nxRun_le hf _ (Nat.le_refl _)
  obtain ⟨nx, hnx⟩ : ∃ nx, nxL s first = nx := ⟨_, rfl⟩
  have hfinN : nmsN s first order = (nmRun s nx order order.length).2.1 + 1 := by rw [← hnx]; rfl
  have hfinL : nmsL s first order = first.map (byt (nmRun s nx order order.length).1) := by rw [← hnx]; rfl
  rw [hnx] at b hnl hnle hpc
  subst hnn
  refine s_run (by simp only [runL, awant_none, astep, evl, put, ap_none, ap_new, List.length_nil, List.length_cons, Nat.add_zero, Nat.zero_add, upd_app, stepCall, ↓reduceIte, t0, hlv, mkInts s.length (n + 1) (by omega)] <;> rfl) (w_heap fun G1 hG1 => ?_)
  have b1 : G1 (n + 1) = some ⟨false, 3, ints (nmRun s nx order 0).1⟩ := by rw [hG1]; simp [nmRun]
  have b0 : G1 n = some ⟨false, 3, ints nx⟩ := by rw [hG1, upd_ne _ _ (by omega)]; exact b
  have k1 : Kp n g2 G1 := by rw [hG1]; exact kp_upd hkp (by omega)
  clear hG1 b hkp
  refine s_run (by simp only [runL, awant_none, astep, evl, put, ap_none, List.length_nil, Nat.add_zero] <;> rfl) ?_
  refine w_assoc (s_run (by simp only [runL, awant_none, astep, evl, put, ap_none, List.length_nil, Nat.add_zero, upd_app, stepCall, ↓reduceIte, Nat.reduceEqDiff, t2, hlu] <;> rfl) ?_)
  refine s_rng order.length (fun i t g n' => t 0 = v ∧ t 1 = w ∧ t 8 = .slice (some ⟨n, 0, some s.length⟩) s.length 1 ∧ t 11 = .slice (some ⟨n + 1, 0, some s.length⟩) s.length 1 ∧ t 51 = u ∧ t 12 = .int .i64 ((nmRun s nx order i).2.1 : Nat) ∧ t 13 = .int .i64 (nmRun s nx order i).2.2 ∧ g n = some ⟨false, 3, ints nx⟩ ∧ g (n + 1) = some ⟨false, 3, ints (nmRun s nx order i).1⟩ ∧ Kp n g2 g ∧ n' = n + 1 + 1) (by omega) (by simp []) (by simp [upd_app])
    (fun _ => ⟨by simp [upd_app, t0], by simp [upd_app, t1], by simp [upd_app, t8], by simp [upd_app], by simp [upd_app], by simp [upd_app, nmRun], by simp [upd_app, nmRun], b0, b1, k1, rfl⟩) (by decide) ?_ ?_
  · clear t0 t1 t2 t8 t22 b0 b1 k1
    rintro i t g n' hi t53 t52 ⟨t0, t1, t8, t11, t51, t12, t13, b0, b1, hkp, hnn⟩
    obtain ⟨p, i1, l1, _⟩ := srcN (hkp.src hu2 hud) hi
    have hjm : byt order i ∈ order := by rw [byt_eq hi]; exact List.getElem_mem hi
    have hj := ho _ hjm
    have hpj := hpc _ hjm
    have hnm := nmRun_len s nx order i
    have hnn2 := nmRun_n s nx order i
    have hlast := nmRun_last s nx order i (by omega)
    have hsucc : nmRun s nx order (i + 1) = nmSt s nx (nmRun s nx order i) (byt order i) := rfl
    obtain ⟨st, hst⟩ : ∃ st : NS, nmRun s nx order i = st := ⟨_, rfl⟩
    rw [hst] at t12 t13 b1 hnm hnn2 hlast hsucc
    generalize byt order i = j at *
    have iy := idxI n s.length j s.length hj
    have ly := ldN (m := s.length) (i := j) b0 hnl (by rw [hnl]; exact hj)
    refine s_run (by simp only [runL, awant_none, astep, evl, put, ap_none, List.length_nil, Nat.add_zero, upd_app, ↓reduceIte, t51, t53, i1, l1] <;> rfl) ?_
    refine w_gen (fun t => t 0 = v ∧ t 1 = w ∧ t 8 = .slice (some ⟨n, 0, some s.length⟩) s.length 1 ∧ t 11 = .slice (some ⟨n + 1, 0, some s.length⟩) s.length 1 ∧ t 51 = u ∧ t 12 = .int .i64 (st.2.1 : Nat) ∧ t 13 = .int .i64 st.2.2 ∧ t 15 = .int .i64 j ∧ t 53 = .int .i64 i ∧ t 52 = .int .i64 order.length) (by simp [upd_app, t0, t1, t8, t11, t51, t12, t13, t53, t52]) ?_
    clear t0 t1 t8 t11 t51 t12 t13 t53 t52
    rintro t ⟨t0, t1, t8, t11, t51, t12, t13, t15, t53, t52⟩
    by_cases h0 : byt nx j = 0
    · have e0 : (((byt nx j : Nat) : Int) == 0) = true := ieq_t (by omega)
      have hs1 : nmSt s nx st j = st := by rw [nmSt, if_pos h0]
      rw [hs1] at hsucc
      refine w_assoc (s_run (by simp only [runL, awant_none, astep, evl, put, ap_none, List.length_nil, Nat.add_zero, upd_app, stepBin, abin, ↓reduceIte, Nat.reduceEqDiff, t8, t15, iy, ly, e0] <;> rfl) ?_)
      refine s_true (by simp [evl]) (s_exit ?_)
      simp only [rngPost]
      rw [hsucc]
      exact ⟨by simp [upd_app, t53], by simp [upd_app, t52], fun _ _ _ => ⟨by simp [upd_app, t0], by simp [upd_app, t1], by simp [upd_app, t8], by simp [upd_app, t11], by simp [upd_app, t51], by simp [upd_app, t12], by simp [upd_app, t13], b0, b1, hkp, hnn⟩⟩
    have e0 : (((byt nx j : Nat) : Int) == 0) = false := ieq_f (by omega)
    have hs1 : nmSt s nx st j = (st.1.set j (if newB s nx st.2.2 j then st.2.1 + 1 else st.2.1), (if newB s nx st.2.2 j then st.2.1 + 1 else st.2.1), (j : Int)) := by rw [nmSt, if_neg h0]
    rw [hs1] at hsucc
    refine w_assoc (s_run (by simp only [runL, awant_none, astep, evl, put, ap_none, List.length_nil, Nat.add_zero, upd_app, stepBin, abin, ↓reduceIte, Nat.reduceEqDiff, t8, t15, iy, ly, e0] <;> rfl) ?_)
    refine s_false (by simp [evl]) (s_skip ?_)
    refine w_gen (fun t => t 0 = v ∧ t 1 = w ∧ t 8 = .slice (some ⟨n, 0, some s.length⟩) s.length 1 ∧ t 11 = .slice (some ⟨n + 1, 0, some s.length⟩) s.length 1 ∧ t 51 = u ∧ t 12 = .int .i64 (st.2.1 : Nat) ∧ t 13 = .int .i64 st.2.2 ∧ t 15 = .int .i64 j ∧ t 53 = .int .i64 i ∧ t 52 = .int .i64 order.length) (by simp [upd_app, t0, t1, t8, t11, t51, t12, t13, t15, t53, t52]) ?_
    clear t0 t1 t8 t11 t51 t12 t13 t15 t53 t52
    rintro t ⟨t0, t1, t8, t11, t51, t12, t13, t15, t53, t52⟩
    refine s_cut (fun t' G' N' => G' = g ∧ N' = n' ∧ t' 0 = v ∧ t' 1 = w ∧ t' 8 = .slice (some ⟨n, 0, some s.length⟩) s.length 1 ∧ t' 11 = .slice (some ⟨n + 1, 0, some s.length⟩) s.length 1 ∧ t' 51 = u ∧ t' 12 = .int .i64 ((if newB s nx st.2.2 j then st.2.1 + 1 else st.2.1 : Nat) : Int) ∧ t' 15 = .int .i64 j ∧ t' 53 = .int .i64 i ∧ t' 52 = .int .i64 order.length) ?_ ?_
    · have w1 : IntKind.i64.wrap (((st.2.1 : Nat) : Int) + 1) = ((st.2.1 + 1 : Nat) : Int) := wrap_succ (by omega)
      refine s_cut (fun t' G' N' => G' = g ∧ N' = n' ∧ t' 0 = v ∧ t' 1 = w ∧ t' 8 = .slice (some ⟨n, 0, some s.length⟩) s.length 1 ∧ t' 11 = .slice (some ⟨n + 1, 0, some s.length⟩) s.length 1 ∧ t' 51 = u ∧ t' 12 = .int .i64 (st.2.1 : Nat) ∧ t' 15 = .int .i64 j ∧ t' 53 = .int .i64 i ∧ t' 52 = .int .i64 order.length ∧ t' 93 = .bool (newB s nx st.2.2 j)) ?_ ?_
      · rcases hlast with hla | ⟨y, hla, hym, hy0⟩
        · rw [hla] at t13
          have hB : newB s nx st.2.2 j = false := by rw [hla]; rfl
          rw [hB]
          refine region_run (id := 15) (by simp only [runL, awant_some, List.getElem?_toArray, List.getElem?_cons_succ, List.getElem?_cons_zero, Option.bind_some, b_ft, awant_none, astep, evl, put, ap_none, List.length_nil, Nat.add_zero, upd_app, stepBin, abin, stepPick, ↓reduceIte, Nat.reduceEqDiff, Bool.false_eq_true, Int.reduceLE, decide_false, undef, t13, Int.reduceNeg, ge_iff_le, Int.reduceLE] <;> rfl) ?_
          exact ⟨rfl, rfl, rfl, by simp [upd_app, t0], by simp [upd_app, t1], by simp [upd_app, t8], by simp [upd_app, t11], by simp [upd_app, t51], by simp [upd_app, t12], by simp [upd_app, t15], by simp [upd_app, t53], by simp [upd_app, t52], by simp []⟩
        · rw [hla] at t13
          have hyl := ho y hym
          have d1 : decide ((y : Int) ≥ 0) = true := decide_eq_true (by omega)
          have hBe : newB s nx st.2.2 j = (decide (byt nx j = s.length) || (decide (byt nx y = s.length) || !decide (pcL s nx y = pcL s nx j))) := by
            rw [hla, newB, Int.toNat_natCast]; simp
          by_cases c1 : byt nx j = s.length
          · have e1 : (((byt nx j : Nat) : Int) == (s.length : Int)) = true := ieq_t (by omega)
            have hB : newB s nx st.2.2 j = true := by rw [hBe]; simp [c1]
            rw [hB]
            refine region_run (id := 15) (by simp only [runL, awant_some, List.getElem?_toArray, List.getElem?_cons_succ, List.getElem?_cons_zero, Option.bind_some, b_tt, b_tf, awant_none, astep, evl, put, ap_none, List.length_nil, Nat.add_zero, upd_app, stepBin, abin, stepPick, stepCall, reduceCtorEq, ↓reduceIte, Nat.reduceEqDiff, undef, t13, d1, t8, t15, iy, ly, t0, hlv, e1] <;> rfl) ?_
            exact ⟨rfl, rfl, rfl, by simp [upd_app, t0], by simp [upd_app, t1], by simp [upd_app, t8], by simp [upd_app, t11], by simp [upd_app, t51], by simp [upd_app, t12], by simp [upd_app, t15], by simp [upd_app, t53], by simp [upd_app, t52], by simp []⟩
          have e1 : (((byt nx j : Nat) : Int) == (s.length : Int)) = false := ieq_f (by omega)
          have iz := idxI n s.length y s.length hyl
          have lz := ldN (m := s.length) (i := y) b0 hnl (by rw [hnl]; exact hyl)
          by_cases c2 : byt nx y = s.length
          · have e2 : (((byt nx y : Nat) : Int) == (s.length : Int)) = true := ieq_t (by omega)
            have hB : newB s nx st.2.2 j = true := by rw [hBe]; simp [c2]
            rw [hB]
            refine region_run (id := 15) (by simp only [runL, awant_some, List.getElem?_toArray, List.getElem?_cons_succ, List.getElem?_cons_zero, Option.bind_some, b_tt, b_tf, b_ff, awant_none, astep, evl, put, ap_none, List.length_nil, Nat.add_zero, upd_app, stepBin, abin, stepPick, stepCall, reduceCtorEq, ↓reduceIte, Nat.reduceEqDiff, Bool.false_eq_true, undef, t13, d1, t8, t15, iy, ly, t0, hlv, e1, iz, lz, e2] <;> rfl) ?_
            exact ⟨rfl, rfl, rfl, by simp [upd_app, t0], by simp [upd_app, t1], by simp [upd_app, t8], by simp [upd_app, t11], by simp [upd_app, t51], by simp [upd_app, t12], by simp [upd_app, t15], by simp [upd_app, t53], by simp [upd_app, t52], by simp []⟩
          have e2 : (((byt nx y : Nat) : Int) == (s.length : Int)) = false := ieq_f (by omega)
          have hB : newB s nx st.2.2 j = !decide (pcL s nx y = pcL s nx j) := by rw [hBe]; simp [c1, c2]
          rw [hB]
          have hvg := hkp.src hv2 hvd
          have hnl2 : ∀ x ∈ nx, x ≤ 2 ^ 38 := fun x hx => by have := hnle x hx; omega
          have hsn : Src g (.slice (some ⟨n, 0, some s.length⟩) s.length 1) 1 nx.length (ints nx) := by have := src_ints (m := s.length) b0 hnl.symm; exact this
          have hp1 := piece_spec v (.slice (some ⟨n, 0, some s.length⟩) s.length 1) s nx y g (by omega) hnl2 (by omega) (hpc y hym hy0) hvg hsn
          have hp2 := piece_spec v (.slice (some ⟨n, 0, some s.length⟩) s.length 1) s nx j g (by omega) hnl2 (by omega) (hpj h0) hvg hsn
          obtain ⟨_, sr1, _⟩ := sliceN hvg (some (.int .i64 (y : Int))) (some (.int .i64 ((pcE s nx y : Nat) : Int))) y (pcE s nx y) (by simp [boundOf]) (by simp [boundOf]) (hpc y hym hy0) (by unfold pcE; omega)
          obtain ⟨_, sr2, _⟩ := sliceN hvg (some (.int .i64 (j : Int))) (some (.int .i64 ((pcE s nx j : Nat) : Int))) j (pcE s nx j) (by simp [boundOf]) (by simp [boundOf]) (hpj h0) (by unfold pcE; omega)
          have hll : ∀ x, (pcL s nx x).length ≤ s.length := fun x => by simp [pcL]; omega
          have heq := equal_spec (slV v y (pcE s nx y)) (slV v j (pcE s nx j)) (zs (pcL s nx y)) (zs (pcL s nx j)) g (by have := hll y; simp [zs]; omega) (by have := hll j; simp [zs]; omega) (by rw [ints_zs] at sr1; simpa [zs, pcL] using sr1) (by rw [ints_zs] at sr2; simpa [zs, pcL] using sr2)
          rw [show decide (zs (pcL s nx y) = zs (pcL s nx j)) = decide (pcL s nx y = pcL s nx j) by rw [decide_eq_decide]; exact ⟨fun h => by have := congrArg nats h; rwa [nats_zs, nats_zs] at this, fun h => by rw [h]⟩] at heq
          refine region_take (id := 15) 23 (by simp only [runL, awant_some, List.getElem?_toArray, List.getElem?_cons_succ, List.getElem?_cons_zero, Option.bind_some, b_tt, b_ff, List.take_succ_cons, List.take_zero, awant_none, astep, evl, put, ap_none, List.length_nil, Nat.add_zero, upd_app, stepBin, abin, stepPick, stepCall, reduceCtorEq, ↓reduceIte, Nat.reduceEqDiff, Bool.false_eq_true, t13, d1, t8, t15, iy, ly, t0, hlv, e1, iz, lz, e2] <;> rfl) ?_
          refine g_call 56 _ (by simp only [awant_some, List.getElem?_toArray, List.getElem?_cons_succ, List.getElem?_cons_zero, Option.bind_some, b_ff, upd_app, ↓reduceIte, Nat.reduceEqDiff] <;> rfl) rfl (by simp only [upd_app, evl, List.map_cons, List.map_nil, ↓reduceIte, Nat.reduceEqDiff]; exact hp1) (fun h => (h rfl).elim) ?_
          refine ops_take 3 (by simp only [runL, awant_some, List.getElem?_toArray, List.getElem?_cons_succ, List.getElem?_cons_zero, Option.bind_some, b_ff, List.take_succ_cons, List.take_zero, astep, evl, put, ap_none, List.length_nil, Nat.add_zero, upd_app, reduceCtorEq, ↓reduceIte, Nat.reduceEqDiff, t0, t8, t15] <;> rfl) ?_
          refine g_call 56 _ (by simp only [awant_some, List.getElem?_toArray, List.getElem?_cons_succ, List.getElem?_cons_zero, Option.bind_some, b_ff, upd_app, ↓reduceIte, Nat.reduceEqDiff] <;> rfl) rfl (by simp only [upd_app, evl, List.map_cons, List.map_nil, ↓reduceIte, Nat.reduceEqDiff]; exact hp2) (fun h => (h rfl).elim) ?_
          refine g_call 30 _ (by simp only [awant_some, List.getElem?_toArray, List.getElem?_cons_succ, List.getElem?_cons_zero, Option.bind_some, b_ff, put, upd_app, ↓reduceIte, Nat.reduceEqDiff] <;> rfl) rfl (by simp only [upd_app, evl, put, List.map_cons, List.map_nil, ↓reduceIte, Nat.reduceEqDiff]; exact heq) (fun h => (h rfl).elim) ?_
          cases hd : decide (pcL s nx y = pcL s nx j) with
          | true =>
            refine ops_run (by simp only [runL, awant_some, List.getElem?_toArray, List.getElem?_cons_succ, List.getElem?_cons_zero, Option.bind_some, b_tt, b_ff, Bool.not_true, awant_none, astep, evl, put, ap_none, List.length_nil, Nat.add_zero, upd_app, stepUn, stepPick, ↓reduceIte, Nat.reduceEqDiff, Bool.false_eq_true] <;> rfl) ?_
            exact ⟨rfl, rfl, rfl, by simp [upd_app, t0], by simp [upd_app, t1], by simp [upd_app, t8], by simp [upd_app, t11], by simp [upd_app, t51], by simp [upd_app, t12], by simp [upd_app, t15], by simp [upd_app, t53], by simp [upd_app, t52], by simp []⟩
          | false =>
            refine ops_run (by simp only [runL, awant_some, List.getElem?_toArray, List.getElem?_cons_succ, List.getElem?_cons_zero, Option.bind_some, b_tt, b_ff, Bool.not_false, awant_none, astep, evl, put, ap_none, List.length_nil, Nat.add_zero, upd_app, stepUn, stepPick, ↓reduceIte, Nat.reduceEqDiff, Bool.false_eq_true] <;> rfl) ?_
            exact ⟨rfl, rfl, rfl, by simp [upd_app, t0], by simp [upd_app, t1], by simp [upd_app, t8], by simp [upd_app, t11], by simp [upd_app, t51], by simp [upd_app, t12], by simp [upd_app, t15], by simp [upd_app, t53], by simp [upd_app, t52], by simp []⟩
      · clear t0 t1 t8 t11 t51 t12 t13 t15 t53 t52
        rintro t G' N' ⟨hgg, hnn', t0, t1, t8, t11, t51, t12, t15, t53, t52, t93⟩
        cases hB : newB s nx st.2.2 j with
        | true =>
          rw [hB] at t93
          refine w_true (by simp [evl, t93]) ?_
          refine region_run (id := 16) (by simp only [runL, awant_none, astep, evl, put, ap_none, List.length_nil, Nat.add_zero, upd_app, stepBin, abin, ↓reduceIte, t12, w1] <;> rfl) ?_
          exact ⟨rfl, hgg, hnn', by simp [upd_app, t0], by simp [upd_app, t1], by simp [upd_app, t8], by simp [upd_app, t11], by simp [upd_app, t51], by simp [], by simp [upd_app, t15], by simp [upd_app, t53], by simp [upd_app, t52]⟩
        | false =>
          rw [hB] at t93
          refine w_false (by simp [evl, t93]) (w_skip ?_)
          exact ⟨rfl, hgg, hnn', t0, t1, t8, t11, t51, by simpa using t12, t15, t53, t52⟩
    · clear t0 t1 t8 t11 t51 t12 t13 t15 t53 t52
      rintro t G' N' ⟨hgg, hnn', t0, t1, t8, t11, t51, t12, t15, t53, t52⟩
      subst hgg hnn'
      generalize (if newB s nx st.2.2 j then st.2.1 + 1 else st.2.1) = m at *
      have iw := idxI (n + 1) s.length j s.length hj
      have s1 := stN (m := s.length) (i := j) (x := m) b1 hnm (by rw [hnm]; exact hj)
      refine region_run (id := 17) (by simp only [runL, awant_none, astep, evl, put, ap_none, ap_wr, List.length_nil, Nat.add_zero, upd_app, ↓reduceIte, Nat.reduceEqDiff, undef, t11, t15, t12, iw, s1] <;> rfl) ?_
      simp only [rngPost]
      rw [hsucc]
      exact ⟨by simp [upd_app, t53], by simp [upd_app, t52], fun _ _ _ => ⟨by simp [upd_app, t0], by simp [upd_app, t1], by simp [upd_app, t8], by simp [upd_app, t11], by simp [upd_app, t51], by simp [upd_app, t12], by simp [upd_app], by rw [upd_ne _ _ (by omega)]; exact b0, by simp [], kp_upd hkp (by omega), hnn⟩⟩
  · clear t0 t1 t2 t8 t22 b0 b1 k1
    rintro t g n' ⟨t0, t1, t8, t11, t51, t12, t13, b0, b1, hkp, hnn⟩
    have hnm := nmRun_len s nx order order.length
    obtain ⟨names, hnames⟩ : ∃ names, (nmRun s nx order order.length).1 = names := ⟨_, rfl⟩
    have hnn2 := nmRun_n s nx order order.length
    obtain ⟨m, hm⟩ : ∃ m, (nmRun s nx order order.length).2.1 = m := ⟨_, rfl⟩
    rw [hnames] at hfinL b1 hnm
    rw [hm] at hfinN t12 hnn2
    rw [hfinN, hfinL]
    subst hnn
    refine s_run (by simp only [runL, awant_none, astep, evl, put, ap_none, List.length_nil, Nat.add_zero] <;> rfl) ?_
    refine w_assoc (s_run (by simp only [runL, awant_none, astep, evl, put, ap_none, List.length_nil, Nat.add_zero, upd_app, stepCall, ↓reduceIte, Nat.reduceEqDiff, t1, hlw] <;> rfl) ?_)
    refine s_rng first.length (fun i t g n' => t 11 = .slice (some ⟨n + 1, 0, some s.length⟩) s.length 1 ∧ t 12 = .int .i64 (m : Nat) ∧ t 102 = w ∧ Own 3 g (t 16) (ints ((first.take i).map (byt names))) (n + 1 + 1) n' ∧ g (n + 1) = some ⟨false, 3, ints names⟩ ∧ Kp n g2 g ∧ n + 1 + 1 ≤ n') (by omega) (by simp []) (by simp [upd_app])
      (fun _ => ⟨by simp [upd_app, t11], by simp [upd_app, t12], by simp [upd_app], by simp [upd_app]; exact Own.nil _ _ _ _, b1, hkp, Nat.le_refl _⟩) (by decide) ?_ ?_
    · clear t0 t1 t8 t11 t51 t12 t13 b0 b1 hkp
      rintro i t g n' hi t104 t103 ⟨t11, t12, t102, hO, b1, hkp, hnn⟩
      obtain ⟨p, i1, l1, _⟩ := srcN (hkp.src hw2 hwd) hi
      have hx : byt first i < s.length := hf _ (by rw [byt_eq hi]; exact List.getElem_mem hi)
      have htk := take_byt hi
      generalize byt first i = x at *
      have iw := idxI (n + 1) s.length x s.length hx
      have lw := ldN (m := s.length) (i := x) b1 hnm (by rw [hnm]; exact hx)
      obtain ⟨f, hf', hO', hk'⟩ := hO.push (P := Try.prog) (T := 22) (c := .int .i64 (byt names x : Nat)) Try.underlying22 tinf3 (by simp; omega) (by omega) hnn
      refine s_run (by simp only [runL, awant_none, astep, evl, put, ap_none, List.length_nil, Nat.add_zero, upd_app, ↓reduceIte, t102, t104, i1, l1] <;> rfl) ?_
      refine region_run (id := 23) (by simp only [runL, awant_none, astep, evl, put, ap_none, ap_new, List.length_nil, List.length_cons, Nat.add_zero, Nat.zero_add, upd_app, stepCall, ↓reduceIte, Nat.reduceEqDiff, List.map_cons, List.map_nil, undef, t11, iw, lw, litI_1, hf'] <;> rfl) ?_
      simp only [rngPost]
      refine ⟨by simp [upd_app, t104], by simp [upd_app, t103], fun _ _ _ => ⟨by simp [upd_app, t11], by simp [upd_app, t12], by simp [upd_app, t102], ?_, by rw [hk' _ (by omega)]; exact b1, fun q hq => by rw [hk' q (by omega)]; exact hkp q hq, by omega⟩⟩
      rw [htk, List.map_append, ← ints_app]
      simpa [upd_app] using hO'
    · clear t0 t1 t8 t11 t51 t12 t13 b0 b1 hkp
      rintro t g n' ⟨t11, t12, t102, hO, b1, hkp, hnn⟩
      rw [List.take_length] at hO
      have w1 : IntKind.i64.wrap (((m : Nat) : Int) + 1) = ((m + 1 : Nat) : Int) := wrap_succ (by omega)
      refine s_run (by simp only [runL, awant_none, astep, evl, put, ap_none, List.length_nil, Nat.add_zero, upd_app, stepBin, abin, ↓reduceIte, Nat.reduceEqDiff, t12, w1] <;> rfl) ?_
      refine w_ret ⟨.inr rfl, fun _ r hr => ?_, ?_⟩
      · obtain ⟨a, k, ha⟩ := own_sl hO
        simp at hr
        rcases hr with rfl | rfl
        · simp [upd_app, ha, isTup]
        · simp [isTup]
      · have := (hO.low (show n ≤ n + 1 + 1 by omega)).fin_tupleI (q := ((m + 1 : Nat) : Int)) (r := srcBlk v ++ srcBlk w ++ srcBlk u) (j := jj) (plain_is _) hs hwf hkp
        simpa [resVal, upd_app, rnE] using this
end Go.Proofs.Ytdpkhijbikbhnaa
