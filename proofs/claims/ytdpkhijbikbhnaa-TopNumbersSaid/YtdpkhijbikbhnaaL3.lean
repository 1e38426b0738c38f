import Derived.Test.YtdpkhijbikbhnaaT41
import Derived.Test.YtdpkhijbikbhnaaBB
namespace Go.Proofs.Ytdpkhijbikbhnaa
open Go Abs Plain
set_option linter.unusedSimpArgs false
set_option linter.unusedVariables false

set_option maxRecDepth 40000 in
set_option maxHeartbeats 1000000 in
/-- What TopNumbers does with numbers that fit. -/
theorem lawNumbers_tail {v : Value} {s : List Nat} {k n : Nat} {g2 : Heap} {s2 : Nat → Prop} {t : Nat → Value} (hl : s.length ≤ 200) (hk : k ≤ 3000) (hsk : ∀ x ∈ s, x < k) (hv2 : Src g2 v 1 s.length (ints s)) (hvd : ∀ i ∈ srcBlk v, i < n) (hs : ∀ i, s2 i → i < n) (hwf : ∀ i b, g2 i = some b → s2 i ∧ ∀ c ∈ b.cells, SV1 s2 c)
    (t0 : t 0 = v) (t1 : t 1 = .int .i64 (k : Nat)) :
    awp Try.prog (Try.f3.body.getD .skip |> cr |> cr |> cr) (fun e t' g' _ => (e = .normal ∨ e = .ret) ∧ (([4] : List Tmp).length ≠ 1 → ∀ r ∈ ([4] : List Tmp), isTup (t' r) = false) ∧ ∃ ids, Abs.Fin { v := .bool true, r := srcBlk v } ids s2 g2 n g' (resVal [4] t')) t g2 n := by
  show awp Try.prog (.seq _ _) _ t g2 n
  have hlv := hv2.len Try.underlying22
  obtain ⟨hok, hS⟩ := sais_all (s.length + 1) s k (by omega) (by omega) (by omega) hsk
  obtain ⟨hok2, hS2⟩ := skew_all (s := s) (f := s.length + 1) (by omega) (by omega)
  have hD := dbl_SA s
  have hsa := saisI_spec (s.length + 1) v s k g2 n (by omega) hok hv2
  obtain ⟨A, hA⟩ : ∃ A, saisF (s.length + 1) s k = A := ⟨_, rfl⟩
  rw [hA] at hS hsa
  have e2 : skL (s.length + 1) s = A := hS2.uniq hS
  have e3 : dblL s = A := hD.uniq hS
  obtain ⟨m, hm⟩ : ∃ m, A.length = m := ⟨_, rfl⟩
  have hsm : s.length = m := by rw [← hm]; exact hS.len.symm
  have hAu : A = ordL s s.length := hS.uniq (ordL_SA s)
  have hsaB : saB s (zs A) = true := by rw [saB_iff, ← hAu]; simp
  have hpB : permB (zs A) = true := by simp only [saB, Bool.and_eq_true] at hsaB; exact hsaB.1
  have hzA : (zs A).length = m := by simp [zs, hm]
  have srA : ∀ (G : Heap) (b : Nat), G b = some ⟨false, 3, ints A⟩ → Src G (slB b m) 1 (zs A).length (intsI (zs A)) := fun G b h => by rw [hzA, ← ints_zs]; exact src_cells h (by simp [hm])
  refine s_take 2 (by simp only [runL, List.take_succ_cons, List.take_zero, awant_none, astep, evl, put, ap_none, List.length_nil, Nat.add_zero, upd_app, ↓reduceIte, Nat.reduceEqDiff, t0, t1] <;> rfl) ?_
  refine ops_call 5 _ rfl (by simp only [upd_app, evl, List.map_cons, List.map_nil]; exact hsa) (fun _ => rfl) ?_
  refine ops_heap fun G1 hG1 => ?_
  have a1 : G1 n = some ⟨false, 3, ints A⟩ := by rw [hG1]; simp only [ieE, ap_new]; rw [upd_self]
  have k1 : Kp n g2 G1 := by rw [hG1]; simp only [ieE, ap_new]; exact kp_upd (Kp.refl _ _) (Nat.le_refl _)
  clear hG1 hsa
  refine ops_run (by simp only [runL, List.getElem?_toArray, List.getElem?_cons_succ, List.getElem?_cons_zero, awant_none, astep, evl, put, ap_none, List.length_nil, List.length_cons, Nat.add_zero, Nat.zero_add, upd_app, stepExtract, ↓reduceIte, Nat.reduceEqDiff, ieE, hm] <;> rfl) ?_
  refine w_gen (fun t => t 0 = v ∧ t 1 = .int .i64 (k : Nat) ∧ t 6 = slB n m ∧ t 7 = .int .i64 0) (by simp [upd_app, t0, t1]) ?_
  clear t0 t1
  rintro t ⟨t0, t1, t6, t7⟩
  show awp _ _ _ _ G1 (n + 1)
  have hsk' := skI_spec (s.length + 1) v s k G1 (n + 1) (by omega) (by omega) hsk hok2 (k1.src hv2 hvd)
  rw [e2] at hsk'
  refine s_take 2 (by simp only [runL, List.take_succ_cons, List.take_zero, awant_none, astep, evl, put, ap_none, List.length_nil, Nat.add_zero, upd_app, ↓reduceIte, Nat.reduceEqDiff, t0, t1] <;> rfl) ?_
  refine ops_call 6 _ rfl (by simp only [upd_app, evl, List.map_cons, List.map_nil]; exact hsk') (fun _ => rfl) ?_
  refine ops_heap fun G2 hG2 => ?_
  rw [rnE_ap] at hG2
  have s3 : Src G2 (newE 3 (ints A) (srcBlk v) (n + 1)).v 1 (ints A).length (ints A) := by rw [hG2]; exact newE_src 3 (ints A) (srcBlk v) (n + 1) G1
  have hd3 := newE_blk 3 (ints A) (srcBlk v) (n + 1)
  have k2 : Kp (n + 1) G1 G2 := by rw [hG2]; exact newE_kp (Kp.refl _ _) (Nat.le_refl _)
  clear hG2 hsk'
  obtain ⟨w, hw⟩ : ∃ w, (newE 3 (ints A) (srcBlk v) (n + 1)).v = w := ⟨_, rfl⟩
  obtain ⟨d, hd⟩ : ∃ d, (newE 3 (ints A) (srcBlk v) (n + 1)).a.length = d := ⟨_, rfl⟩
  refine ops_run (by simp only [runL, List.getElem?_toArray, List.getElem?_cons_succ, List.getElem?_cons_zero, awant_none, astep, evl, put, ap_none, List.length_nil, Nat.add_zero, upd_app, stepExtract, ↓reduceIte, Nat.reduceEqDiff, rnE, hw] <;> rfl) ?_
  refine w_gen (fun t => t 0 = v ∧ t 1 = .int .i64 (k : Nat) ∧ t 6 = slB n m ∧ t 7 = .int .i64 0 ∧ t 8 = w ∧ t 9 = .int .i64 0) (by simp [upd_app, t0, t1, t6, t7]) ?_
  clear t0 t1 t6 t7
  rintro t ⟨t0, t1, t6, t7, t8, t9⟩
  show awp _ _ _ _ G2 (n + 1 + (newE 3 (ints A) (srcBlk v) (n + 1)).a.length)
  rw [hd]
  rw [hw] at s3 hd3
  rw [hd] at hd3
  have hwd : ∀ i ∈ srcBlk w, i < n + 1 + d := fun i hi => by have := hd3 i hi; omega
  clear hd3 hw hd
  have a2 : G2 n = some ⟨false, 3, ints A⟩ := by rw [k2 _ (by omega)]; exact a1
  have q2 : Kp n g2 G2 := fun q hq => by rw [k2 q (by omega), k1 q hq]
  have hdb := dInts_spec v s k G2 (n + 1 + d) (by omega) (by omega) hsk (q2.src hv2 hvd)
  rw [e3] at hdb
  refine s_take 2 (by simp only [runL, List.take_succ_cons, List.take_zero, awant_none, astep, evl, put, ap_none, List.length_nil, Nat.add_zero, upd_app, ↓reduceIte, Nat.reduceEqDiff, t0, t1] <;> rfl) ?_
  refine ops_call 7 _ rfl (by simp only [upd_app, evl, List.map_cons, List.map_nil]; exact hdb) (fun _ => rfl) ?_
  refine ops_heap fun G3 hG3 => ?_
  have d3 : G3 (n + 1 + d) = some ⟨false, 3, ints A⟩ := by rw [hG3]; simp only [ieE, ap_new]; rw [upd_self]
  have k3 : Kp (n + 1 + d) G2 G3 := by rw [hG3]; simp only [ieE, ap_new]; exact kp_upd (Kp.refl _ _) (Nat.le_refl _)
  clear hG3 hdb
  refine ops_run (by simp only [runL, List.getElem?_toArray, List.getElem?_cons_succ, List.getElem?_cons_zero, awant_none, astep, evl, put, ap_none, List.length_nil, List.length_cons, Nat.add_zero, Nat.zero_add, upd_app, stepExtract, ↓reduceIte, Nat.reduceEqDiff, ieE, hm] <;> rfl) ?_
  refine w_gen (fun t => t 0 = v ∧ t 6 = slB n m ∧ t 7 = .int .i64 0 ∧ t 8 = w ∧ t 9 = .int .i64 0 ∧ t 10 = slB (n + 1 + d) m ∧ t 11 = .int .i64 0) (by simp [upd_app, t0, t6, t7, t8, t9]) ?_
  clear t0 t1 t6 t7 t8 t9
  rintro t ⟨t0, t6, t7, t8, t9, t10, t11⟩
  show awp _ _ _ _ G3 (n + 1 + d + 1)
  have a3 : G3 n = some ⟨false, 3, ints A⟩ := by rw [k3 _ (by omega)]; exact a2
  have b3 : Src G3 w 1 (zs A).length (intsI (zs A)) := by
    have := k3.src s3 hwd
    rw [hzA, ← ints_zs]; simpa [hm] using this
  have q3 : Kp n g2 G3 := fun q hq => by rw [k3 q (by omega), q2 q hq]
  clear k1 k2 k3 a1 a2 q2 s3
  have his := ris_spec (slB n m) (zs A) G3 (by omega) (srA G3 _ a3)
  rw [hpB] at his
  have hr1 := rints_spec (slB n m) w (zs A) (zs A) G3 (by omega) (by omega) (srA G3 _ a3) b3
  have hr2 := rints_spec (slB n m) (slB (n + 1 + d) m) (zs A) (zs A) G3 (by omega) (by omega) (srA G3 _ a3) (srA G3 _ d3)
  rw [decide_eq_true rfl] at hr1 hr2
  have f0 : ((0 : Int) == 0) = true := rfl
  have f1 : ((m : Int) == (s.length : Int)) = true := ieq_t (by omega)
  refine s_take 12 (by simp only [runL, awant_some, List.getElem?_toArray, List.getElem?_cons_succ, List.getElem?_cons_zero, Option.bind_some, b_tt, List.take_succ_cons, List.take_zero, awant_none, astep, evl, put, ap_none, List.length_nil, Nat.add_zero, upd_app, stepBin, abin, stepPick, ↓reduceIte, Nat.reduceEqDiff, t6, t7, t9, t11, f0] <;> rfl) ?_
  refine g_call 8 _ (by simp only [awant_some, List.getElem?_toArray, List.getElem?_cons_succ, List.getElem?_cons_zero, Option.bind_some, b_tt, upd_app, ↓reduceIte, Nat.reduceEqDiff] <;> rfl) rfl (by simp only [upd_app, evl, List.map_cons, List.map_nil]; exact his) (fun h => (h rfl).elim) ?_
  refine ops_take 11 (by simp only [runL, awant_some, List.getElem?_toArray, List.getElem?_cons_succ, List.getElem?_cons_zero, Option.bind_some, b_tt, List.take_succ_cons, List.take_zero, awant_none, astep, evl, put, ap_none, List.length_nil, Nat.add_zero, upd_app, stepBin, abin, stepPick, stepCall, reduceCtorEq, ↓reduceIte, Nat.reduceEqDiff, t0, t6, t8, lenI, hlv, f1] <;> rfl) ?_
  refine g_call 9 _ (by simp only [awant_some, List.getElem?_toArray, List.getElem?_cons_succ, List.getElem?_cons_zero, Option.bind_some, b_tt, upd_app, ↓reduceIte, Nat.reduceEqDiff] <;> rfl) rfl (by simp only [upd_app, evl, List.map_cons, List.map_nil]; exact hr1) (fun h => (h rfl).elim) ?_
  refine ops_take 4 (by simp only [runL, awant_some, List.getElem?_toArray, List.getElem?_cons_succ, List.getElem?_cons_zero, Option.bind_some, b_tt, List.take_succ_cons, List.take_zero, awant_none, astep, evl, put, ap_none, List.length_nil, Nat.add_zero, upd_app, stepPick, ↓reduceIte, Nat.reduceEqDiff, t6, t10] <;> rfl) ?_
  refine g_call 9 _ (by simp only [awant_some, List.getElem?_toArray, List.getElem?_cons_succ, List.getElem?_cons_zero, Option.bind_some, b_tt, upd_app, ↓reduceIte, Nat.reduceEqDiff] <;> rfl) rfl (by simp only [upd_app, evl, List.map_cons, List.map_nil]; exact hr2) (fun h => (h rfl).elim) ?_
  refine ops_take 2 (by simp only [runL, List.take_succ_cons, List.take_zero, awant_none, astep, evl, put, ap_none, List.length_nil, Nat.add_zero, upd_app, stepPick, ↓reduceIte, Nat.reduceEqDiff] <;> rfl) ?_
  refine g_call 10 _ (by simp only [awant_some, List.getElem?_toArray, List.getElem?_cons_succ, List.getElem?_cons_zero, Option.bind_some, b_tt, upd_app, ↓reduceIte] <;> rfl) rfl (by simp only [List.map_nil]; exact known_ok _) (fun h => (h rfl).elim) ?_
  refine ops_run (by simp only [runL, awant_none, astep, evl, put, ap_none, List.length_nil, Nat.add_zero, upd_app, stepPick, ↓reduceIte, Nat.reduceEqDiff] <;> rfl) ?_
  exact w_ret ⟨.inr rfl, by simp, [], fin_none (by simp [resVal]) trivial (fun i b hb => q3.at (hs i (hwf i b hb).1) hb)⟩

set_option maxRecDepth 40000 in
set_option maxHeartbeats 1000000 in
theorem lawNumbers_spec (v : Value) (l : List Int) (k : Int) (g : Heap) (hv : Src g v 1 l.length (intsI l)) :
    FnSpec Try.prog 3 [v, .int .i64 k] g { v := .bool true, r := srcBlk v } := by
  refine spec_of_body [4] follows Try.func3 rfl (by kernel_rfl) (by simp [Try.f3]) (by kernel_rfl) rfl ?_
  intro g2 s2 n hg hfr hs hn hwf hsv
  have hv2 : Src g2 v 1 l.length (intsI l) := hv.congr fun i hi => hg i (by simp [Eff.fp, hi])
  have hvd : ∀ i ∈ srcBlk v, i < n := dom_of hs hwf hv2
  have hlv := hv2.len Try.underlying22
  clear hg hfr hn hv
  refine s_run (by simp only [runL, awant_none, astep, evl, put, ap_none, List.length_nil, Nat.add_zero, undef] <;> rfl) ?_
  by_cases ea1 : (l.length : Int) > 200
  · have ed1 : (decide ((l.length : Int) > 200)) = true := decide_eq_true ea1
    refine w_assoc (s_run (by simp only [runL, awant_some, Option.getD_some, List.getElem?_toArray, List.getElem?_cons_succ, List.getElem?_cons_zero, Option.bind_some, b_tf, awant_none, astep, evl, put, ap_none, List.length_nil, Nat.add_zero, upd_app, stepBin, abin, stepPick, stepCall, reduceCtorEq, ↓reduceIte, Nat.reduceEqDiff, undef, hlv, ed1] <;> rfl) ?_)
    refine s_true (by simp [evl]) (w_assoc (s_run (by simp only [runL, awant_none, astep, evl, put, ap_none, List.length_nil, Nat.add_zero] <;> rfl) ?_))
    refine s_ret ⟨.inr rfl, by simp, [], fin_none ?_ trivial (fun _ _ h => h)⟩
    simp [resVal]
  have ed1 : (decide ((l.length : Int) > 200)) = false := decide_eq_false ea1
  by_cases ea2 : k < 1
  · have ed2 : (decide (k < 1)) = true := decide_eq_true ea2
    refine w_assoc (s_run (by simp only [runL, awant_some, Option.getD_some, List.getElem?_toArray, List.getElem?_cons_succ, List.getElem?_cons_zero, Option.bind_some, b_tf, b_ff, awant_none, astep, evl, put, ap_none, List.length_nil, Nat.add_zero, upd_app, stepBin, abin, stepPick, stepCall, reduceCtorEq, ↓reduceIte, Nat.reduceEqDiff, Bool.false_eq_true, undef, hlv, ed1, ed2] <;> rfl) ?_)
    refine s_true (by simp [evl]) (w_assoc (s_run (by simp only [runL, awant_none, astep, evl, put, ap_none, List.length_nil, Nat.add_zero] <;> rfl) ?_))
    refine s_ret ⟨.inr rfl, by simp, [], fin_none ?_ trivial (fun _ _ h => h)⟩
    simp [resVal]
  have ed2 : (decide (k < 1)) = false := decide_eq_false ea2
  by_cases ea3 : k > 3000
  · have ed3 : (decide (k > 3000)) = true := decide_eq_true ea3
    refine w_assoc (s_run (by simp only [runL, awant_some, Option.getD_some, List.getElem?_toArray, List.getElem?_cons_succ, List.getElem?_cons_zero, Option.bind_some, b_ff, awant_none, astep, evl, put, ap_none, List.length_nil, Nat.add_zero, upd_app, stepBin, abin, stepPick, stepCall, reduceCtorEq, ↓reduceIte, Nat.reduceEqDiff, Bool.false_eq_true, hlv, ed1, ed2, ed3] <;> rfl) ?_)
    refine s_true (by simp [evl]) (w_assoc (s_run (by simp only [runL, awant_none, astep, evl, put, ap_none, List.length_nil, Nat.add_zero] <;> rfl) ?_))
    refine s_ret ⟨.inr rfl, by simp, [], fin_none ?_ trivial (fun _ _ h => h)⟩
    simp [resVal]
  have ed3 : (decide (k > 3000)) = false := decide_eq_false ea3
  refine w_assoc (s_run (by simp only [runL, awant_some, Option.getD_some, List.getElem?_toArray, List.getElem?_cons_succ, List.getElem?_cons_zero, Option.bind_some, b_ff, awant_none, astep, evl, put, ap_none, List.length_nil, Nat.add_zero, upd_app, stepBin, abin, stepPick, stepCall, reduceCtorEq, ↓reduceIte, Nat.reduceEqDiff, Bool.false_eq_true, hlv, ed1, ed2, ed3] <;> rfl) ?_)
  refine s_false (by simp [evl]) (s_skip ?_)
  refine w_assoc (s_run (by simp only [runL, awant_none, astep, evl, put, ap_none, List.length_nil, Nat.add_zero] <;> rfl) ?_)
  refine s_for 0 l.length (fun i t g' n' => t 0 = v ∧ t 1 = .int .i64 k ∧ (∀ x ∈ l.take i, 0 ≤ x ∧ x < k) ∧ g2 = g' ∧ n' = n) (by omega) (by omega) (by simp []) ⟨by simp [upd_app], by simp [upd_app], by simp, rfl, rfl⟩ ?_ ?_ ?_
  · rintro i t g N hk t5 ⟨t0, t1, h1, rfl, rfl⟩
    have dl : decide ((i : Int) < (l.length : Int)) = decide (i < l.length) := by
      by_cases h : i < l.length
      · rw [decide_eq_true (by omega), decide_eq_true h]
      · rw [decide_eq_false (by omega), decide_eq_false h]
    exact ⟨_, (by simp only [runL, awant_none, astep, evl, put, ap_none, List.length_nil, Nat.add_zero, upd_app, stepBin, abin, stepCall, reduceCtorEq, ↓reduceIte, Nat.reduceEqDiff, t5, t0, hlv, dl] <;> rfl), by simp [], by simp [upd_app, t5], by simp [upd_app, t0], by simp [upd_app, t1], h1, rfl, rfl⟩
  · rintro i t g N hi t5 ⟨t0, t1, h1, rfl, rfl⟩
    obtain ⟨p, i1, l1, _⟩ := srcI hv2 hi
    obtain ⟨x, hx⟩ : ∃ x, l[i] = x := ⟨_, rfl⟩
    rw [hx] at l1
    by_cases c1 : x < 0
    · have d1 : decide (x < 0) = true := decide_eq_true c1
      refine s_run (by simp only [runL, awant_some, List.getElem?_toArray, List.getElem?_cons_succ, List.getElem?_cons_zero, Option.bind_some, b_tf, awant_none, astep, evl, put, ap_none, List.length_nil, Nat.add_zero, upd_app, stepBin, abin, stepPick, ↓reduceIte, Nat.reduceEqDiff, undef, t0, t5, i1, l1, d1] <;> rfl) ?_
      refine w_true (by simp [evl]) ?_
      refine s_run (by simp only [runL, awant_none, astep, evl, put, ap_none, List.length_nil, Nat.add_zero] <;> rfl) ?_
      refine w_ret ?_
      simp only [rngPost]
      exact ⟨.inr rfl, by simp, [], fin_none (by simp [resVal]) trivial (fun _ _ h => h)⟩
    have d1 : decide (x < 0) = false := decide_eq_false c1
    by_cases c2 : x ≥ k
    · have d2 : decide (x ≥ k) = true := decide_eq_true c2
      refine s_run (by simp only [runL, awant_some, List.getElem?_toArray, List.getElem?_cons_succ, List.getElem?_cons_zero, Option.bind_some, b_ff, awant_none, astep, evl, put, ap_none, List.length_nil, Nat.add_zero, upd_app, stepBin, abin, stepPick, reduceCtorEq, ↓reduceIte, Nat.reduceEqDiff, Bool.false_eq_true, t0, t1, t5, i1, l1, d1, d2] <;> rfl) ?_
      refine w_true (by simp [evl]) ?_
      refine s_run (by simp only [runL, awant_none, astep, evl, put, ap_none, List.length_nil, Nat.add_zero] <;> rfl) ?_
      refine w_ret ?_
      simp only [rngPost]
      exact ⟨.inr rfl, by simp, [], fin_none (by simp [resVal]) trivial (fun _ _ h => h)⟩
    have d2 : decide (x ≥ k) = false := decide_eq_false c2
    refine s_run (by simp only [runL, awant_some, List.getElem?_toArray, List.getElem?_cons_succ, List.getElem?_cons_zero, Option.bind_some, b_ff, awant_none, astep, evl, put, ap_none, List.length_nil, Nat.add_zero, upd_app, stepBin, abin, stepPick, reduceCtorEq, ↓reduceIte, Nat.reduceEqDiff, Bool.false_eq_true, t0, t1, t5, i1, l1, d1, d2] <;> rfl) ?_
    refine w_false (by simp [evl]) (w_skip ?_)
    simp only [rngPost]
    refine ⟨by simp [upd_app, t5], fun _ _ _ => ⟨by simp [upd_app, t0], by simp [upd_app, t1], fun y hy => ?_, by trivial, by trivial⟩⟩
    rw [List.take_succ_eq_append_getElem hi, hx] at hy
    rcases List.mem_append.1 hy with hy | hy
    · exact h1 y hy
    · obtain rfl := List.mem_singleton.1 hy; omega
  · rintro t g N ⟨t0, t1, h1, rfl, rfl⟩
    rw [List.take_length] at h1
    obtain ⟨K, rfl⟩ : ∃ K : Nat, k = (K : Int) := ⟨k.toNat, by omega⟩
    have hz : l = zs (nats l) := by
      unfold zs nats
      rw [List.map_map]
      conv => lhs; rw [← List.map_id l]
      refine List.map_congr_left fun x hx => ?_
      have := h1 x hx
      show x = ((x.toNat : Nat) : Int)
      omega
    have hnl : (nats l).length = l.length := by simp [nats]
    have hv3 : Src g2 v 1 (nats l).length (ints (nats l)) := by rw [hnl, ints_zs, ← hz]; exact hv2
    exact lawNumbers_tail (by omega) (by omega) (fun x hx => by
      obtain ⟨y, hy, rfl⟩ := List.mem_map.1 hx
      have := h1 y hy
      omega) hv3 hvd hs hwf t0 t1
end Go.Proofs.Ytdpkhijbikbhnaa
