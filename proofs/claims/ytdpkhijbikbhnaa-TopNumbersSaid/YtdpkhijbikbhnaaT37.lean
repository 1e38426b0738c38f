import Derived.Test.YtdpkhijbikbhnaaT36
namespace Go.Proofs.Ytdpkhijbikbhnaa
open Go Abs Plain
set_option linter.unusedSimpArgs false
set_option linter.unusedVariables false

theorem rnE_ap (l : List Nat) (m : Nat) (r : List Nat) (j : Nat) (g : Heap) : (rnE l m r j).ap g = (newE 3 (ints l) r j).ap g := by unfold rnE newE; split <;> rfl

/-- What skew.Ints comes to; at most f times deep. -/
def skL (f : Nat) (s : List Nat) : List Nat := skewF f (sqL s) (s.length + 1)

set_option maxRecDepth 20000 in
theorem skI_spec (f : Nat) (v : Value) (s : List Nat) (k : Nat) (g : Heap) (j : Nat) (hl : s.length ≤ 100000) (hk : k ≤ 1048576) (hsk : ∀ x ∈ s, x < k) (hok : SkewOk f (sqL s) (s.length + 1)) (hv : Src g v 1 s.length (ints s)) :
    FnSpec Try.prog 6 [v, .int .i64 k] g (rnE (skL f s) 0 (srcBlk v) j) := by
  refine spec_of_body [4, 5] follows Try.func6 rfl (by kernel_rfl) (by simp [Try.f6]) (by kernel_rfl) rfl ?_
  intro g2 s2 n hg hfr hs hn hwf hsv
  rw [rnE_fp] at hg
  have hv2 : Src g2 v 1 s.length (ints s) := hv.congr fun i hi => hg i hi
  have hvd := dom_of hs hwf hv2
  have hlen := hv2.len Try.underlying22
  clear hg hfr hn hv
  have d : decide ((s.length : Int) > 100000) = false := decide_eq_false (by omega)
  refine s_run (by simp only [runL, awant_none, astep, evl, put, ap_none, List.length_nil, Nat.add_zero, undef] <;> rfl) ?_
  refine w_assoc (s_run (by simp only [runL, Option.getD_some, List.getElem?_cons_zero, awant_none, astep, evl, put, ap_none, List.length_nil, Nat.add_zero, upd_app, stepBin, abin, stepCall, reduceCtorEq, ↓reduceIte, hlen, d] <;> rfl) ?_)
  refine s_false (by simp [evl]) (s_skip ?_)
  refine w_assoc (s_take 2 (by simp only [runL, Option.getD_some, List.getElem?_cons_succ, List.getElem?_cons_zero, List.take_succ_cons, List.take_zero, awant_none, astep, evl, put, ap_none, List.length_nil, Nat.add_zero, upd_app, reduceCtorEq, ↓reduceIte, Nat.reduceEqDiff] <;> rfl) ?_)
  refine ops_call 17 _ rfl (counts_spec v s k g2 n (by omega) hk hsk hv2) (fun _ => rfl) ?_
  refine ops_heap fun G1 hG1 => ?_
  have k1 : Kp n g2 G1 := by rw [hG1]; simp only [okE, ap_new]; exact kp_upd (Kp.refl _ _) (Nat.le_refl _)
  clear hG1
  refine ops_run (by simp only [runL, List.getElem?_toArray, List.getElem?_cons_succ, List.getElem?_cons_zero, awant_none, astep, evl, put, ap_none, List.length_nil, List.length_cons, Nat.add_zero, Nat.zero_add, upd_app, stepExtract, ↓reduceIte, Nat.reduceEqDiff, okE] <;> rfl) ?_
  refine w_assoc (s_run (by simp only [runL, Bool.not_true, awant_none, astep, evl, put, ap_none, List.length_nil, Nat.add_zero, upd_app, stepUn, ↓reduceIte] <;> rfl) ?_)
  refine s_false (by simp [evl]) (s_skip ?_)
  refine w_gen (fun t => t 0 = v ∧ t 1 = .int .i64 k) (by simp [upd_app]) ?_
  rintro t ⟨t0, t1⟩
  show awp _ _ _ _ G1 (n + 1)
  have hsq := squeezed_spec v s G1 (n + 1) hl (fun x hx => by have := hsk x hx; omega) (k1.src hv2 hvd)
  refine s_take 1 (by simp only [runL, List.take_succ_cons, List.take_zero, awant_none, astep, evl, put, ap_none, List.length_nil, Nat.add_zero, t0] <;> rfl) ?_
  refine ops_call 20 _ rfl (by simp only [upd_app, evl, List.map_cons, List.map_nil]; exact hsq) (fun _ => rfl) ?_
  dsimp only
  refine ops_heap fun G2 hG2 => ?_
  have b2 : G2 (n + 1) = some ⟨false, 3, ints (sqL s)⟩ := by rw [hG2]; simp [ap_new]
  have k2 : Kp n g2 G2 := by rw [hG2]; simp only [ap_new]; exact kp_upd k1 (by omega)
  clear hG2 hsq
  have w1 : IntKind.i64.wrap ((s.length : Int) + 1) = ((s.length + 1 : Nat) : Int) := wrap_succ (by omega)
  refine ops_take 3 (by simp only [runL, List.take_succ_cons, List.take_zero, awant_none, astep, evl, put, ap_none, List.length_nil, List.length_cons, Nat.add_zero, Nat.zero_add, upd_app, stepBin, abin, stepCall, reduceCtorEq, ↓reduceIte, t0, hlen, w1] <;> rfl) ?_
  have hs1 : Src G2 (.slice (some ⟨n + 1, 0, some s.length⟩) s.length 1) 1 (sqL s).length (ints (sqL s)) := by rw [sqL_len]; exact src_cells b2 (by simp [sqL_len])
  have hso := sksort_spec f _ (sqL s) (s.length + 1) G2 (n + 2) hok hs1
  refine ops_call 19 _ rfl (by simp only [upd_app, evl, List.map_cons, List.map_nil]; exact hso) (fun _ => newE_j _ _ _ _) ?_
  refine ops_heap fun G3 hG3 => ?_
  have hO := newE_Own (e := 3) (cs := ints (skewF f (sqL s) (s.length + 1))) (r := srcBlk (.slice (some ⟨n + 1, 0, some s.length⟩) s.length 1)) G2 (show n ≤ n + 2 by omega)
  rw [← hG3] at hO
  have k3 : Kp n g2 G3 := by rw [hG3]; exact newE_kp k2 (show n ≤ n + 2 by omega)
  obtain ⟨z, hz⟩ : ∃ z, (newE 3 (ints (skewF f (sqL s) (s.length + 1))) (srcBlk (.slice (some ⟨n + 1, 0, some s.length⟩) s.length 1)) (n + 2)).v = z := ⟨_, rfl⟩
  rw [hz] at hO ⊢
  refine ops_run (by simp only [runL, awant_none, astep, evl, put, ap_none, List.length_nil, Nat.add_zero, upd_app, ↓reduceIte] <;> rfl) ?_
  refine w_ret ⟨.inr rfl, fun _ r hr => ?_, ?_⟩
  · obtain ⟨a, q, hzf⟩ := own_sl hO
    simp at hr
    rcases hr with rfl | rfl
    · simp [upd_app, hzf, isTup]
    · simp [isTup]
  · have := hO.fin_tupleI (r := srcBlk v) (j := j) (q := ((0 : Nat) : Int)) (plain_is _) hs hwf k3
    simpa [resVal, upd_app, put, rnE, skL] using this

set_option maxRecDepth 40000 in
theorem skB_spec (f : Nat) (v : Value) (s : List Nat) (g : Heap) (jj : Nat) (hl : s.length ≤ 100000) (hb : ∀ x ∈ s, x < 256) (hok : SkewOk f (sqL s) (s.length + 1)) (hv : Src g v 1 s.length (bs s)) :
    FnSpec Try.prog 62 [v] g (rnE (skL f s) 0 (srcBlk v) jj) := by
  refine spec_of_body [2, 3] follows Try.func62 rfl (by kernel_rfl) (by simp [Try.f62]) (by kernel_rfl) rfl ?_
  intro g2 s2 n hg hfr hs hn hwf hsv
  rw [rnE_fp] at hg
  have hv2 : Src g2 v 1 s.length (bs s) := hv.congr fun i hi => hg i hi
  have hvd := dom_of hs hwf hv2
  have hlen := hv2.len Try.underlying30
  clear hg hfr hn hv
  have d : decide ((s.length : Int) > 100000) = false := decide_eq_false (by omega)
  refine s_run (by simp only [runL, awant_none, astep, evl, put, ap_none, List.length_nil, Nat.add_zero, undef] <;> rfl) ?_
  refine w_assoc (s_run (by simp only [runL, Option.getD_some, List.getElem?_cons_zero, awant_none, astep, evl, put, ap_none, List.length_nil, Nat.add_zero, upd_app, stepBin, abin, stepCall, reduceCtorEq, ↓reduceIte, hlen, d] <;> rfl) ?_)
  refine s_false (by simp [evl]) (s_skip ?_)
  refine s_run (by simp only [runL, Option.getD_some, List.getElem?_cons_zero, awant_none, astep, evl, put, ap_none, ap_new, List.length_nil, List.length_cons, Nat.add_zero, Nat.zero_add, upd_app, stepCall, reduceCtorEq, ↓reduceIte, hlen, mkInts s.length n (by omega)] <;> rfl) (w_heap fun G2 hG2 => ?_)
  have b2 : G2 n = some ⟨false, 3, ints (preR s 0)⟩ := by rw [hG2, preR_zero]; simp []
  have k2 : Kp n g2 G2 := by rw [hG2]; exact kp_upd (Kp.refl _ _) (Nat.le_refl _)
  clear hG2
  refine w_assoc (s_run (by simp only [runL, Option.getD_some, List.getElem?_cons_zero, awant_none, astep, evl, put, ap_none, List.length_nil, Nat.add_zero, upd_app, stepCall, reduceCtorEq, ↓reduceIte, hlen] <;> rfl) ?_)
  refine s_rng s.length (fun i t g n' => t 4 = .slice (some ⟨n, 0, some s.length⟩) s.length 1 ∧ t 13 = v ∧ g n = some ⟨false, 3, ints (preR s i)⟩ ∧ Kp n g2 g ∧ n' = n + 1) (by omega) (by simp []) (by simp [upd_app])
    (fun _ => ⟨by simp [upd_app], by simp [upd_app], b2, k2, rfl⟩) (by decide) ?_ ?_
  · clear b2 k2
    rintro i t g n' hi t15 t14 ⟨t4, t13, b, hkp, hnn⟩
    obtain ⟨p, i1, l1, _⟩ := srcB (hkp.src hv2 hvd) hi
    have hbk := byt_lt hb i
    have w1 : IntKind.i64.wrap ((byt s i : Nat) : Int) = ((byt s i : Nat) : Int) := wrap_nat (by omega)
    have hpl := preR_len (l := s) (k := i) (by omega)
    have ix := idxI n s.length i s.length hi
    have s1 := stN (m := s.length) (i := i) (x := byt s i) b hpl (by rw [hpl]; exact hi)
    rw [preR_set hi] at s1
    refine s_run (by simp only [runL, awant_none, astep, evl, put, ap_none, List.length_nil, Nat.add_zero, upd_app, ↓reduceIte, Nat.reduceEqDiff, t13, t15, i1, l1] <;> rfl) ?_
    refine region_run (id := 7) (by simp only [runL, awant_none, astep, evl, put, ap_none, ap_wr, List.length_nil, Nat.add_zero, upd_app, ↓reduceIte, Nat.reduceEqDiff, undef, t4, conv5_3, w1, ix, s1] <;> rfl) ?_
    simp only [rngPost]
    exact ⟨by simp [upd_app, t15], by simp [upd_app, t14], fun _ _ _ => ⟨by simp [upd_app, t4], by simp [upd_app, t13], by rw [upd_self], kp_upd hkp (Nat.le_refl _), hnn⟩⟩
  · rintro t g N ⟨t4, t13, b, hkp, rfl⟩
    rw [preR_all] at b
    have hsO : Src g (.slice (some ⟨n, 0, some s.length⟩) s.length 1) 1 s.length (ints s) := src_cells b (by simp)
    have hsp := skI_spec f _ s 256 g (n + 1) hl (by omega) hb hok hsO
    refine s_take 1 (by simp only [runL, List.take_succ_cons, List.take_zero, awant_none, astep, evl, put, ap_none, List.length_nil, Nat.add_zero, t4] <;> rfl) ?_
    refine ops_call 6 _ rfl (by simp only [upd_app, evl, List.map_cons, List.map_nil]; exact hsp) (fun _ => rfl) ?_
    refine ops_heap fun G3 hG3 => ?_
    have hap : G3 = (newE 3 (ints (skL f s)) (srcBlk (.slice (some ⟨n, 0, some s.length⟩) s.length 1)) (n + 1)).ap g := by rw [hG3]; exact rnE_ap _ _ _ _ _
    have hO := newE_Own (e := 3) (cs := ints (skL f s)) (r := srcBlk (.slice (some ⟨n, 0, some s.length⟩) s.length 1)) g (show n ≤ n + 1 by omega)
    rw [← hap] at hO
    have k3 : Kp n g2 G3 := by rw [hap]; exact newE_kp hkp (by omega)
    obtain ⟨z, hz⟩ : ∃ z, (newE 3 (ints (skL f s)) (srcBlk (.slice (some ⟨n, 0, some s.length⟩) s.length 1)) (n + 1)).v = z := ⟨_, rfl⟩
    rw [hz] at hO
    refine ops_run (by simp only [runL, List.getElem?_toArray, List.getElem?_cons_succ, List.getElem?_cons_zero, awant_none, astep, evl, put, ap_none, List.length_nil, Nat.add_zero, upd_app, stepExtract, ↓reduceIte, Nat.reduceEqDiff, rnE, hz] <;> rfl) ?_
    refine w_ret ⟨.inr rfl, fun _ r hr => ?_, ?_⟩
    · obtain ⟨a, q, hzf⟩ := own_sl hO
      simp at hr
      rcases hr with rfl | rfl
      · simp [upd_app, hzf, isTup]
      · simp [isTup]
    · have := hO.fin_tupleI (r := srcBlk v) (j := jj) (q := ((0 : Nat) : Int)) (plain_is _) hs hwf k3
      simpa [resVal, upd_app, put, rnE] using this
end Go.Proofs.Ytdpkhijbikbhnaa
