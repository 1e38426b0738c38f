import Derived.Test.YtdpkhijbikbhnaaT23
namespace Go.Proofs.Ytdpkhijbikbhnaa
open Go Abs Plain
set_option linter.unusedSimpArgs false
set_option linter.unusedVariables false

/-- Endings in order, by induced sorting; at most f times deep. -/
def saisF : Nat → List Nat → Nat → List Nat
  | 0, _, _ => []
  | f + 1, s, k =>
    if (firstL s).length < 2 then nats (indL s k (firstL s))
    else nats (indL s k ((saisF f (nmsL s (firstL s) (nats (indL s k (firstL s)))) (nmsN s (firstL s) (nats (indL s k (firstL s))))).map (byt (firstL s))))
/-- It goes through. -/
def SaisOk : Nat → List Nat → Nat → Prop
  | 0, _, _ => False
  | f + 1, s, k => k ≤ 1048576 ∧ (∀ x ∈ s, x < k) ∧ srt (zs (firstL s)) = zs (firstL s) ∧ (0 < s.length → IndOk s k (firstL s)) ∧ indL s k (firstL s) = zs (nats (indL s k (firstL s))) ∧
    (¬ (firstL s).length < 2 →
      (∀ x ∈ nats (indL s k (firstL s)), x < s.length) ∧ (∀ x ∈ nats (indL s k (firstL s)), byt (nxL s (firstL s)) x ≠ 0 → x ≤ pcE s (nxL s (firstL s)) x) ∧
      SaisOk f (nmsL s (firstL s) (nats (indL s k (firstL s)))) (nmsN s (firstL s) (nats (indL s k (firstL s)))) ∧
      (∀ x ∈ saisF f (nmsL s (firstL s) (nats (indL s k (firstL s)))) (nmsN s (firstL s) (nats (indL s k (firstL s)))), x < (firstL s).length) ∧
      srt (zs ((saisF f (nmsL s (firstL s) (nats (indL s k (firstL s)))) (nmsN s (firstL s) (nats (indL s k (firstL s))))).map (byt (firstL s)))) = zs (firstL s) ∧
      (0 < s.length → IndOk s k ((saisF f (nmsL s (firstL s) (nats (indL s k (firstL s)))) (nmsN s (firstL s) (nats (indL s k (firstL s))))).map (byt (firstL s)))) ∧
      indL s k ((saisF f (nmsL s (firstL s) (nats (indL s k (firstL s)))) (nmsN s (firstL s) (nats (indL s k (firstL s))))).map (byt (firstL s))) = zs (nats (indL s k ((saisF f (nmsL s (firstL s) (nats (indL s k (firstL s)))) (nmsN s (firstL s) (nats (indL s k (firstL s))))).map (byt (firstL s))))))
theorem indL_len (s : List Nat) (k : Nat) (first : List Nat) : (indL s k first).length = s.length := by
  unfold indL
  split
  · rename_i h; simp [h]
  · exact indRow3_len s k first
theorem firstL_lt (s : List Nat) : ∀ x ∈ firstL s, x < s.length := by
  intro x hx
  simp [firstL, firstP] at hx
  exact hx.1

set_option maxRecDepth 40000 in
set_option maxHeartbeats 1000000 in
theorem sais_spec : ∀ (f : Nat) (v : Value) (s : List Nat) (k : Nat) (g : Heap) (j : Nat), s.length ≤ 2 ^ 37 → SaisOk f s k → Src g v 1 s.length (ints s) →
    FnSpec Try.prog 18 [v, .int .i64 k] g { v := .slice (some ⟨j, 0, some (saisF f s k).length⟩) (saisF f s k).length 1, r := srcBlk v, j := j, a := [⟨false, 3, ints (saisF f s k)⟩] } := by
  intro f
  induction f with
  | zero => exact fun v s k g j hl h _ => h.elim
  | succ f ih =>
  intro v s k g j hl hok hv
  obtain ⟨hk, hsk, hfs, hin, hor, hrec⟩ := hok
  refine spec_of_body [4] follows Try.func18 rfl (by kernel_rfl) (by simp [Try.f18]) (by kernel_rfl) rfl ?_
  intro g2 s2 n hg hfr hs hn hwf hsv
  have hv2 : Src g2 v 1 s.length (ints s) := hv.congr fun i hi => hg i (by simp [Eff.fp, hi])
  have hvd : ∀ i ∈ srcBlk v, i < n := dom_of hs hwf hv2
  clear hg hfr hn hv
  have hfl : (firstL s).length ≤ s.length := firstP_len s _
  have hflt := firstL_lt s
  have hsF : saisF (f + 1) s k = if (firstL s).length < 2 then nats (indL s k (firstL s)) else nats (indL s k ((saisF f (nmsL s (firstL s) (nats (indL s k (firstL s)))) (nmsN s (firstL s) (nats (indL s k (firstL s))))).map (byt (firstL s)))) := rfl
  have hil := indL_len s k (firstL s)
  obtain ⟨fi, hfi⟩ : ∃ fi, firstL s = fi := ⟨_, rfl⟩
  rw [hfi] at hfs hin hor hrec hfl hflt hsF hil
  refine s_run (by simp only [runL, awant_none, astep, evl, put, ap_none, List.length_nil, Nat.add_zero, undef] <;> rfl) ?_
  refine s_take 1 (by simp only [runL, Option.getD_some, List.getElem?_cons_zero, List.take_succ_cons, List.take_zero, awant_none, astep, evl, put, ap_none, List.length_nil, Nat.add_zero, upd_app, reduceCtorEq, ↓reduceIte] <;> rfl) ?_
  have hf1 := first_spec v s g2 n (by omega) hv2
  rw [hfi] at hf1
  refine ops_call 31 _ rfl hf1 (fun _ => newE_j _ _ _ _) ?_
  refine ops_heap fun G1 hG1 => ?_
  have k1 : Kp n g2 G1 := by rw [hG1]; exact newE_kp (Kp.refl _ _) (Nat.le_refl _)
  have hsr1 : Src G1 (newE 3 (ints fi) (srcBlk v) n).v 1 fi.length (ints fi) := by rw [hG1]; simpa using newE_src 3 (ints fi) (srcBlk v) n g2
  have hdm1 := newE_blk 3 (ints fi) (srcBlk v) n
  obtain ⟨zf, hzf⟩ : ∃ z, (newE 3 (ints fi) (srcBlk v) n).v = z := ⟨_, rfl⟩
  rw [hzf] at hsr1 hdm1
  refine ops_run (by simp only [runL, awant_none, astep, evl, put, ap_none, List.length_nil, Nat.add_zero, upd_app, ↓reduceIte, hzf] <;> rfl) ?_
  refine w_gen (fun t => t 0 = v ∧ t 1 = .int .i64 k ∧ t 5 = zf) (by simp [upd_app]) ?_
  rintro t ⟨t0, t1, t5⟩
  refine w_num fun N1 hN1 => ?_
  replace hN1 : N1 = n + (newE 3 (ints fi) (srcBlk v) n).a.length := hN1
  have hzd : ∀ i ∈ srcBlk zf, i < N1 := fun i hi => by
    obtain ⟨h1, h2⟩ := hdm1 i hi
    omega
  have hnN1 : n ≤ N1 := by omega
  clear hN1 hdm1 hG1 hzf hf1
  have hv1 := k1.src hv2 hvd
  have his := isort_spec v zf s k fi G1 N1 hl hk (by omega) hsk (by rw [hfi]; exact hfs) hin hv1 hsr1
  show awp _ _ _ _ G1 N1
  refine s_take 3 (by simp only [runL, List.take_succ_cons, List.take_zero, awant_none, astep, evl, put, ap_none, List.length_nil, Nat.add_zero, upd_app, ↓reduceIte, Nat.reduceEqDiff, t0, t1, t5] <;> rfl) ?_
  refine ops_call 32 _ rfl (by simp only [upd_app, evl, List.map_cons, List.map_nil]; exact his) (fun _ => okE_j _ _ _) ?_
  refine ops_heap fun G2 hG2 => ?_
  have b2 : G2 N1 = some ⟨false, 3, intsI (indL s k fi)⟩ := by rw [hG2]; simp only [okE, ap_new]; simp []
  have k2 : Kp N1 G1 G2 := by rw [hG2]; simp only [okE, ap_new]; exact kp_upd (Kp.refl _ _) (Nat.le_refl _)
  clear hG2
  refine ops_run (by simp only [runL, List.getElem?_toArray, List.getElem?_cons_succ, List.getElem?_cons_zero, awant_none, astep, evl, put, ap_none, List.length_nil, List.length_cons, Nat.add_zero, Nat.zero_add, upd_app, stepExtract, ↓reduceIte, Nat.reduceEqDiff, okE, hil] <;> rfl) ?_
  refine w_gen (fun t => t 0 = v ∧ t 1 = .int .i64 k ∧ t 5 = zf ∧ t 6 = .slice (some ⟨N1, 0, some s.length⟩) s.length 1) (by simp [upd_app, t0, t1, t5]) ?_
  clear t0 t1 t5
  rintro t ⟨t0, t1, t5, t6⟩
  refine w_num fun N2 hN2 => ?_
  replace hN2 : N2 = N1 + 1 := hN2
  rw [hor, ← ints_zs] at b2
  obtain ⟨ord, hord⟩ : ∃ ord, nats (indL s k fi) = ord := ⟨_, rfl⟩
  have hordl : ord.length = s.length := by rw [← hord, nats_len, hil]
  rw [hord] at b2 hrec hsF
  have q2 : Kp n g2 G2 := fun q hq => by rw [k2 q (by omega)]; exact k1 q hq
  have hsr2 := k2.src hsr1 hzd
  have hlf := hsr2.len Try.underlying22
  show awp _ _ _ _ G2 N2
  by_cases h2 : fi.length < 2
  · have d : decide ((fi.length : Int) < 2) = true := decide_eq_true (by omega)
    rw [if_pos h2] at hsF
    rw [hsF]
    refine w_assoc (s_run (by simp only [runL, awant_none, astep, evl, put, ap_none, List.length_nil, Nat.add_zero, upd_app, stepBin, abin, stepCall, ↓reduceIte, t5, hlf, d] <;> rfl) ?_)
    refine s_true (by simp [evl]) (w_assoc (s_run (by simp only [runL, awant_none, astep, evl, put, ap_none, List.length_nil, Nat.add_zero, upd_app, ↓reduceIte, Nat.reduceEqDiff, t6] <;> rfl) ?_))
    refine s_ret ?_
    show _ ∧ _
    exact sl_fin (k := N1) rfl (by simp [hordl]) (by simp) (by omega) b2 (plain_is _) hs hwf q2
  have d : decide ((fi.length : Int) < 2) = false := decide_eq_false (by omega)
  rw [if_neg h2] at hsF
  obtain ⟨r1, r2, r3, r4, r5, r6, r7⟩ := hrec h2
  refine w_assoc (s_run (by simp only [runL, awant_none, astep, evl, put, ap_none, List.length_nil, Nat.add_zero, upd_app, stepBin, abin, stepCall, ↓reduceIte, t5, hlf, d] <;> rfl) ?_)
  refine s_false (by simp [evl]) (s_skip ?_)
  have hv2' := q2.src hv2 hvd
  have hso : Src G2 (.slice (some ⟨N1, 0, some s.length⟩) s.length 1) 1 ord.length (ints ord) := by rw [hordl]; have := src_ints (m := s.length) b2 hordl.symm; rwa [hordl] at this
  have hnm := named_spec v zf (.slice (some ⟨N1, 0, some s.length⟩) s.length 1) s fi ord G2 N2 hl (by omega) (by omega) hflt r1 r2 hv2' hsr2 hso
  refine w_gen (fun t => t 0 = v ∧ t 1 = .int .i64 k ∧ t 5 = zf ∧ t 6 = .slice (some ⟨N1, 0, some s.length⟩) s.length 1) (by simp [upd_app, t0, t1, t5, t6]) ?_
  clear t0 t1 t5 t6
  rintro t ⟨t0, t1, t5, t6⟩
  show awp _ _ _ _ G2 N2
  refine s_take 3 (by simp only [runL, List.take_succ_cons, List.take_zero, awant_none, astep, evl, put, ap_none, List.length_nil, Nat.add_zero, upd_app, ↓reduceIte, Nat.reduceEqDiff, t0, t5, t6] <;> rfl) ?_
  refine ops_call 33 _ rfl (by simp only [upd_app, evl, List.map_cons, List.map_nil]; exact hnm) (fun _ => rfl) ?_
  refine ops_heap fun G3 hG3 => ?_
  obtain ⟨nms, hnms⟩ : ∃ nms, nmsL s fi ord = nms := ⟨_, rfl⟩
  obtain ⟨nn, hnn⟩ : ∃ nn, nmsN s fi ord = nn := ⟨_, rfl⟩
  have hnml : nms.length = fi.length := by rw [← hnms]; simp [nmsL]
  rw [hnms, hnn] at hsF r3 r4 r5 r6 r7
  rw [hnms, hnn] at hG3 ⊢
  obtain ⟨R3, hR3⟩ : ∃ R, srcBlk v ++ srcBlk zf ++ srcBlk (.slice (some ⟨N1, 0, some s.length⟩) s.length 1) = R := ⟨_, rfl⟩
  rw [hR3] at hG3 ⊢
  have hap : (rnE nms nn R3 N2).ap G2 = (newE 3 (ints nms) R3 N2).ap G2 := by
    simp only [Eff.ap, rnE, newE_w, newE_j]
  have k3 : Kp N2 G2 G3 := by rw [hG3, hap]; exact newE_kp (Kp.refl _ _) (Nat.le_refl _)
  have hsr3 : Src G3 (newE 3 (ints nms) R3 N2).v 1 nms.length (ints nms) := by rw [hG3, hap]; simpa using newE_src 3 (ints nms) R3 N2 G2
  have hdm3 := newE_blk 3 (ints nms) R3 N2
  obtain ⟨zn, hzn⟩ : ∃ z, (newE 3 (ints nms) R3 N2).v = z := ⟨_, rfl⟩
  rw [hzn] at hsr3 hdm3
  refine ops_run (by simp only [runL, List.getElem?_toArray, List.getElem?_cons_succ, List.getElem?_cons_zero, awant_none, astep, evl, put, ap_none, List.length_nil, Nat.add_zero, upd_app, stepExtract, ↓reduceIte, Nat.reduceEqDiff, rnE, hzn] <;> rfl) ?_
  refine w_gen (fun t => t 0 = v ∧ t 1 = .int .i64 k ∧ t 5 = zf ∧ t 8 = zn ∧ t 9 = .int .i64 nn) (by simp [upd_app, t0, t1, t5]) ?_
  clear t0 t1 t5 t6
  rintro t ⟨t0, t1, t5, t8, t9⟩
  refine w_num fun N3 hN3 => ?_
  replace hN3 : N3 = N2 + (newE 3 (ints nms) R3 N2).a.length := hN3
  have hznd : ∀ i ∈ srcBlk zn, i < N3 := fun i hi => by
    obtain ⟨h1, h2⟩ := hdm3 i hi
    omega
  have hN32 : N2 ≤ N3 := by omega
  clear hN3 hdm3 hG3 hap hzn hnm hso his
  have q3 : Kp n g2 G3 := fun q hq => by rw [k3 q (by omega)]; exact q2 q hq
  have hsf3 := k3.src hsr2 (fun i hi => by have := hzd i hi; omega)
  show awp _ _ _ _ G3 N3
  refine s_run (by simp only [runL, awant_none, astep, evl, put, ap_none, List.length_nil, Nat.add_zero] <;> rfl) ?_
  have hrecS := ih zn nms nn G3 N3 (by omega) r3 hsr3
  obtain ⟨sub, hsub⟩ : ∃ sub, saisF f nms nn = sub := ⟨_, rfl⟩
  rw [hsub] at hrecS hsF r4 r5 r6 r7
  refine w_assoc (s_take 2 (by simp only [runL, List.take_succ_cons, List.take_zero, awant_none, astep, evl, put, ap_none, List.length_nil, Nat.add_zero, upd_app, ↓reduceIte, Nat.reduceEqDiff, t8, t9] <;> rfl) ?_)
  refine ops_call 18 _ rfl (by simp only [upd_app, evl, List.map_cons, List.map_nil]; exact hrecS) (fun _ => rfl) ?_
  dsimp only
  refine ops_heap fun G4 hG4 => ?_
  have b4 : G4 N3 = some ⟨false, 3, ints sub⟩ := by rw [hG4]; simp [ap_new]
  have k4 : Kp N3 G3 G4 := by rw [hG4]; simp only [ap_new]; exact kp_upd (Kp.refl _ _) (Nat.le_refl _)
  clear hG4 hrecS
  refine ops_run (by simp only [runL, awant_none, astep, evl, put, ap_none, List.length_nil, List.length_cons, Nat.add_zero, Nat.zero_add, upd_app, stepCall, ↓reduceIte, lenI] <;> rfl) ?_
  have q4 : Kp n g2 G4 := fun q hq => by rw [k4 q (by omega)]; exact q3 q hq
  have hsf4 := k4.src hsf3 (fun i hi => by have := hzd i hi; omega)
  have hrl : (sub.map (byt fi)).length = fi.length := by
    have := congrArg List.length r5
    rw [srt_len] at this
    simpa [zs] using this
  have hsubl : sub.length = fi.length := by simpa using hrl
  refine s_rng sub.length (fun i t g n' => t 0 = v ∧ t 1 = .int .i64 k ∧ t 5 = zf ∧ t 35 = .slice (some ⟨N3, 0, some sub.length⟩) sub.length 1 ∧ Own 3 g (t 10) (ints ((sub.take i).map (byt fi))) (N3 + 1) n' ∧ g N3 = some ⟨false, 3, ints sub⟩ ∧ Kp N3 G4 g ∧ N3 + 1 ≤ n') (by omega) (by simp []) (by simp [upd_app])
    (fun _ => ⟨by simp [upd_app, t0], by simp [upd_app, t1], by simp [upd_app, t5], by simp [upd_app], by simp [upd_app]; exact Own.nil _ _ _ _, b4, Kp.refl _ _, by simp⟩) (by decide) ?_ ?_
  · clear t0 t1 t5 t8 t9
    rintro i t g n' hi t37 t36 ⟨t0, t1, t5, t35, hO, b, hkp, hnn⟩
    have i1 := idxI N3 sub.length i sub.length hi
    have l1 := ldN (m := sub.length) (i := i) b rfl hi
    have hx : byt sub i < fi.length := r4 _ (by rw [byt_eq hi]; exact List.getElem_mem hi)
    have htk := take_byt hi
    generalize byt sub i = x at *
    obtain ⟨p, i2, l2, _⟩ := srcN (hkp.src hsf4 (fun q hq => by have := hzd q hq; omega)) hx
    obtain ⟨f', hf', hO', hk'⟩ := hO.push (P := Try.prog) (T := 22) (c := .int .i64 (byt fi x : Nat)) Try.underlying22 tinf3 (by simp; omega) (by omega) hnn
    refine s_run (by simp only [runL, awant_none, astep, evl, put, ap_none, List.length_nil, Nat.add_zero, upd_app, ↓reduceIte, t35, t37, i1, l1] <;> rfl) ?_
    refine region_run (id := 10) (by simp only [runL, awant_none, astep, evl, put, ap_none, ap_new, List.length_nil, List.length_cons, Nat.add_zero, Nat.zero_add, upd_app, stepCall, ↓reduceIte, Nat.reduceEqDiff, List.map_cons, List.map_nil, undef, t5, i2, l2, litI_1, hf'] <;> rfl) ?_
    simp only [rngPost]
    refine ⟨by simp [upd_app, t37], by simp [upd_app, t36], fun _ _ _ => ⟨by simp [upd_app, t0], by simp [upd_app, t1], by simp [upd_app, t5], by simp [upd_app, t35], ?_, by rw [hk' _ (by omega)]; exact b, fun q hq => by rw [hk' q (by omega)]; exact hkp q hq, by omega⟩⟩
    rw [htk, List.map_append, ← ints_app]
    simpa [upd_app] using hO'
  clear t0 t1 t5 t8 t9
  rintro t g N ⟨t0, t1, t5, t35, hO, b, hkp, hnn⟩
  rw [List.take_length] at hO
  obtain ⟨right, hright⟩ : ∃ right, sub.map (byt fi) = right := ⟨_, rfl⟩
  rw [hright] at hO hsF r5 r6 r7 hrl
  have q5 : Kp n g2 g := fun q hq => by rw [hkp q (by omega)]; exact q4 q hq
  have hsO : Src g (t 10) 1 right.length (ints right) := by simpa using hO.src
  have his2 := isort_spec v (t 10) s k right g N hl hk (by omega) hsk (by rw [hfi]; exact r5) r6 (q5.src hv2 hvd) hsO
  have hil2 := indL_len s k right
  refine s_take 3 (by simp only [runL, List.take_succ_cons, List.take_zero, awant_none, astep, evl, put, ap_none, List.length_nil, Nat.add_zero, upd_app, ↓reduceIte, Nat.reduceEqDiff, t0, t1] <;> rfl) ?_
  refine ops_call 32 _ rfl (by simp only [upd_app, evl, List.map_cons, List.map_nil]; exact his2) (fun _ => okE_j _ _ _) ?_
  refine ops_heap fun G6 hG6 => ?_
  have b6 : G6 N = some ⟨false, 3, intsI (indL s k right)⟩ := by rw [hG6]; simp only [okE, ap_new]; simp []
  have k6 : Kp N g G6 := by rw [hG6]; simp only [okE, ap_new]; exact kp_upd (Kp.refl _ _) (Nat.le_refl _)
  clear hG6
  refine ops_run (by simp only [runL, List.getElem?_toArray, List.getElem?_cons_succ, List.getElem?_cons_zero, awant_none, astep, evl, put, ap_none, List.length_nil, List.length_cons, Nat.add_zero, Nat.zero_add, upd_app, stepExtract, ↓reduceIte, Nat.reduceEqDiff, okE, hil2] <;> rfl) ?_
  refine s_run (by simp only [runL, awant_none, astep, evl, put, ap_none, List.length_nil, Nat.add_zero, upd_app, ↓reduceIte] <;> rfl) ?_
  rw [hsF]
  rw [r7, ← ints_zs] at b6
  exact w_ret (sl_fin (k := N) rfl (by simp [nats_len, hil2]) (by simp) (by omega) b6 (plain_is _) hs hwf (fun q hq => by rw [k6 q (by omega)]; exact q5 q hq))
end Go.Proofs.Ytdpkhijbikbhnaa
