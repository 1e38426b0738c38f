import Derived.Test.YtdpkhijbikbhnaaT41
import Derived.Test.YtdpkhijbikbhnaaAA
namespace Go.Proofs.Ytdpkhijbikbhnaa
open Go Abs Plain
set_option linter.unusedSimpArgs false
set_option linter.unusedVariables false

set_option maxRecDepth 40000 in
set_option maxHeartbeats 1000000 in
theorem lawLCP_spec (v : Value) (s : List Nat) (g : Heap) (hb : ∀ x ∈ s, x < 256) (hv : Src g v 1 s.length (bs s)) :
    FnSpec Try.prog 4 [v] g { v := .bool true, r := srcBlk v } := by
  refine spec_of_body [2] follows Try.func4 rfl (by kernel_rfl) (by simp [Try.f4]) (by kernel_rfl) rfl ?_
  intro g2 s2 n hg hfr hs hn hwf hsv
  have hv2 : Src g2 v 1 s.length (bs s) := hv.congr fun i hi => hg i (by simp [Eff.fp, hi])
  have hvd : ∀ i ∈ srcBlk v, i < n := dom_of hs hwf hv2
  have hlv := hv2.len Try.underlying30
  clear hg hfr hn hv
  refine s_run (by simp only [runL, awant_none, astep, evl, put, ap_none, List.length_nil, Nat.add_zero, undef] <;> rfl) ?_
  by_cases ea1 : (s.length : Int) > 300
  · have ed1 : (decide ((s.length : Int) > 300)) = true := decide_eq_true ea1
    refine w_assoc (s_run (by simp only [runL, Option.getD_some, List.getElem?_cons_zero, awant_none, astep, evl, put, ap_none, List.length_nil, Nat.add_zero, upd_app, stepBin, abin, stepCall, reduceCtorEq, ↓reduceIte, hlv, ed1] <;> rfl) ?_)
    refine s_true (by simp [evl]) (w_assoc (s_run (by simp only [runL, awant_none, astep, evl, put, ap_none, List.length_nil, Nat.add_zero] <;> rfl) ?_))
    refine s_ret ⟨.inr rfl, by simp, [], fin_none ?_ trivial (fun _ _ h => h)⟩
    simp [resVal]
  have ed1 : (decide ((s.length : Int) > 300)) = false := decide_eq_false ea1
  refine w_assoc (s_run (by simp only [runL, Option.getD_some, List.getElem?_cons_zero, awant_none, astep, evl, put, ap_none, List.length_nil, Nat.add_zero, upd_app, stepBin, abin, stepCall, reduceCtorEq, ↓reduceIte, hlv, ed1] <;> rfl) ?_)
  refine s_false (by simp [evl]) (s_skip ?_)
  obtain ⟨hok, hS⟩ := sais_all (s.length + 1) s 256 (by omega) (by omega) (by omega) hb
  have hsa := saisB_spec (s.length + 1) v s g2 n (by omega) hb hok hv2
  obtain ⟨A, hA⟩ : ∃ A, saisF (s.length + 1) s 256 = A := ⟨_, rfl⟩
  rw [hA] at hS hsa
  obtain ⟨m, hm⟩ : ∃ m, A.length = m := ⟨_, rfl⟩
  have hsm : s.length = m := by rw [← hm]; exact hS.len.symm
  have hlcl : (lcpL s A).length = m := by rw [lcpL_len, hm]
  have hAu : A = ordL s s.length := hS.uniq (ordL_SA s)
  have hsaB : saB s (zs A) = true := by rw [saB_iff, ← hAu]; simp
  have hpB : permB (zs A) = true := by simp only [saB, Bool.and_eq_true] at hsaB; exact hsaB.1
  have hlcB : lcpB s (zs A) = some (zs (lcpL s A)) := by rw [lcpB_of hsaB, nats_zs]
  have hokc : lcpOK s (zs A) (zs (lcpL s A)) = true := by unfold lcpOK; rw [hsaB, nats_zs]; simp
  have hzA : (zs A).length = m := by simp [zs, hm]
  have hzL : (zs (lcpL s A)).length = m := by simp [zs, hlcl]
  have srA : ∀ (G : Heap) (b : Nat), G b = some ⟨false, 3, ints A⟩ → Src G (slB b m) 1 (zs A).length (intsI (zs A)) := fun G b h => by rw [hzA, ← ints_zs]; exact src_cells h (by simp [hm])
  have srL : ∀ (G : Heap) (b : Nat), G b = some ⟨false, 3, ints (lcpL s A)⟩ → Src G (slB b m) 1 (zs (lcpL s A)).length (intsI (zs (lcpL s A))) := fun G b h => by rw [hzL, ← ints_zs]; exact src_cells h (by simp [hlcl])
  refine s_take 1 (by simp only [runL, Option.getD_some, List.getElem?_cons_zero, List.take_succ_cons, List.take_zero, awant_none, astep, evl, put, ap_none, List.length_nil, Nat.add_zero, upd_app, reduceCtorEq, ↓reduceIte] <;> rfl) ?_
  refine ops_call 11 _ rfl (by simp only [upd_app, evl, List.map_cons, List.map_nil]; exact hsa) (fun _ => rfl) ?_
  refine ops_heap fun G1 hG1 => ?_
  have a1 : G1 n = some ⟨false, 3, ints A⟩ := by rw [hG1]; simp only [ieE, ap_new]; rw [upd_self]
  have k1 : Kp n g2 G1 := by rw [hG1]; simp only [ieE, ap_new]; exact kp_upd (Kp.refl _ _) (Nat.le_refl _)
  clear hG1 hsa
  refine ops_run (by simp only [runL, List.getElem?_toArray, List.getElem?_cons_succ, List.getElem?_cons_zero, awant_none, astep, evl, put, ap_none, List.length_nil, List.length_cons, Nat.add_zero, Nat.zero_add, upd_app, stepExtract, ↓reduceIte, Nat.reduceEqDiff, ieE, hm] <;> rfl) ?_
  refine w_gen (fun t => t 0 = v ∧ t 3 = slB n m ∧ t 4 = .int .i64 0) (by simp [upd_app]) ?_
  rintro t ⟨t0, t3, t4⟩
  show awp _ _ _ _ G1 (n + 1)
  have hlc := lcp_spec v (slB n m) s (zs A) G1 (n + 1) (by omega) (by omega) (k1.src hv2 hvd) (srA G1 _ a1)
  rw [hlcB] at hlc
  refine s_take 2 (by simp only [runL, List.take_succ_cons, List.take_zero, awant_none, astep, evl, put, ap_none, List.length_nil, Nat.add_zero, upd_app, ↓reduceIte, Nat.reduceEqDiff, t0, t3] <;> rfl) ?_
  refine ops_call 12 _ rfl (by simp only [upd_app, evl, List.map_cons, List.map_nil]; exact hlc) (fun _ => rfl) ?_
  refine ops_heap fun G2 hG2 => ?_
  have c2 : G2 (n + 1) = some ⟨false, 3, ints (lcpL s A)⟩ := by rw [hG2, ints_zs]; simp [okE, ap_new]
  have k2 : Kp (n + 1) G1 G2 := by rw [hG2]; simp only [okE, ap_new]; exact kp_upd (Kp.refl _ _) (Nat.le_refl _)
  clear hG2 hlc
  refine ops_run (by simp only [runL, List.getElem?_toArray, List.getElem?_cons_succ, List.getElem?_cons_zero, awant_none, astep, evl, put, ap_none, List.length_nil, List.length_cons, Nat.add_zero, Nat.zero_add, upd_app, stepExtract, ↓reduceIte, Nat.reduceEqDiff, okE, hzL] <;> rfl) ?_
  refine w_gen (fun t => t 0 = v ∧ t 3 = slB n m ∧ t 4 = .int .i64 0 ∧ t 5 = slB (n + 1) m ∧ t 6 = .bool true) (by simp [upd_app, t0, t3, t4]) ?_
  clear t0 t3 t4
  rintro t ⟨t0, t3, t4, t5, t6⟩
  show awp _ _ _ _ G2 (n + 2)
  have a2 : G2 n = some ⟨false, 3, ints A⟩ := by rw [k2 _ (by omega)]; exact a1
  have q2 : Kp n g2 G2 := fun q hq => by rw [k2 q (by omega), k1 q hq]
  have hph := philcp_spec v (slB n m) s A G2 (n + 2) hS (by omega) (q2.src hv2 hvd) (by rw [hm]; exact src_cells a2 (by simp [hm]))
  refine s_take 2 (by simp only [runL, List.take_succ_cons, List.take_zero, awant_none, astep, evl, put, ap_none, List.length_nil, Nat.add_zero, upd_app, ↓reduceIte, Nat.reduceEqDiff, t0, t3] <;> rfl) ?_
  refine ops_call 13 _ rfl (by simp only [upd_app, evl, List.map_cons, List.map_nil]; exact hph) (fun _ => rfl) ?_
  refine ops_heap fun G3 hG3 => ?_
  have d3 : G3 (n + 2) = some ⟨false, 3, ints (lcpL s A)⟩ := by rw [hG3, ints_zs]; simp [okE, ap_new]
  have k3 : Kp (n + 2) G2 G3 := by rw [hG3]; simp only [okE, ap_new]; exact kp_upd (Kp.refl _ _) (Nat.le_refl _)
  clear hG3 hph
  refine ops_run (by simp only [runL, List.getElem?_toArray, List.getElem?_cons_succ, List.getElem?_cons_zero, awant_none, astep, evl, put, ap_none, List.length_nil, List.length_cons, Nat.add_zero, Nat.zero_add, upd_app, stepExtract, ↓reduceIte, Nat.reduceEqDiff, okE, hzL] <;> rfl) ?_
  refine w_gen (fun t => t 0 = v ∧ t 3 = slB n m ∧ t 4 = .int .i64 0 ∧ t 5 = slB (n + 1) m ∧ t 6 = .bool true ∧ t 7 = slB (n + 2) m ∧ t 8 = .bool true) (by simp [upd_app, t0, t3, t4, t5, t6]) ?_
  clear t0 t3 t4 t5 t6
  rintro t ⟨t0, t3, t4, t5, t6, t7, t8⟩
  show awp _ _ _ _ G3 (n + 3)
  have a3 : G3 n = some ⟨false, 3, ints A⟩ := by rw [k3 _ (by omega)]; exact a2
  have c3 : G3 (n + 1) = some ⟨false, 3, ints (lcpL s A)⟩ := by rw [k3 _ (by omega)]; exact c2
  have q3 : Kp n g2 G3 := fun q hq => by rw [k3 q (by omega), q2 q hq]
  clear k1 k2 k3 a1 a2 c2 q2
  have hvg := q3.src hv2 hvd
  have hri := rints_spec (slB (n + 1) m) (slB (n + 2) m) (zs (lcpL s A)) (zs (lcpL s A)) G3 (by omega) (by omega) (srL G3 _ c3) (srL G3 _ d3)
  rw [decide_eq_true rfl] at hri
  have his := ris_spec (slB n m) (zs A) G3 (by omega) (srA G3 _ a3)
  rw [hpB] at his
  have e0 : ((0 : Int) != 0) = false := rfl
  have e1 : ((m : Int) != (s.length : Int)) = false := ine_f (by omega)
  refine w_assoc (s_take 13 (by simp only [runL, awant_some, List.getElem?_toArray, List.getElem?_cons_succ, List.getElem?_cons_zero, Option.bind_some, b_ff, Bool.not_true, List.take_succ_cons, List.take_zero, awant_none, astep, evl, put, ap_none, List.length_nil, Nat.add_zero, upd_app, stepBin, abin, stepUn, stepPick, ↓reduceIte, Nat.reduceEqDiff, Bool.false_eq_true, t4, t5, t6, t7, t8, e0] <;> rfl) ?_)
  refine g_call 9 _ (by simp only [awant_some, List.getElem?_toArray, List.getElem?_cons_succ, List.getElem?_cons_zero, Option.bind_some, b_ff, upd_app, ↓reduceIte, Nat.reduceEqDiff] <;> rfl) rfl (by simp only [upd_app, evl, List.map_cons, List.map_nil]; exact hri) (fun h => (h rfl).elim) ?_
  refine ops_take 18 (by simp only [runL, awant_some, List.getElem?_toArray, List.getElem?_cons_succ, List.getElem?_cons_zero, Option.bind_some, b_ff, Bool.not_true, List.take_succ_cons, List.take_zero, awant_none, astep, evl, put, ap_none, List.length_nil, Nat.add_zero, upd_app, stepBin, abin, stepUn, stepPick, stepCall, reduceCtorEq, ↓reduceIte, Nat.reduceEqDiff, Bool.false_eq_true, t0, t3, t5, lenI, hlv, e1] <;> rfl) ?_
  refine g_call 8 _ (by simp only [awant_some, List.getElem?_toArray, List.getElem?_cons_succ, List.getElem?_cons_zero, Option.bind_some, b_ff, upd_app, ↓reduceIte, Nat.reduceEqDiff] <;> rfl) rfl (by simp only [upd_app, evl, List.map_cons, List.map_nil]; exact his) (fun h => (h rfl).elim) ?_
  refine ops_run (by simp only [runL, awant_some, List.getElem?_toArray, List.getElem?_cons_succ, List.getElem?_cons_zero, Option.bind_some, b_ff, Bool.not_true, awant_none, astep, evl, put, ap_none, List.length_nil, Nat.add_zero, upd_app, stepUn, stepPick, ↓reduceIte, Nat.reduceEqDiff, Bool.false_eq_true] <;> rfl) ?_
  refine s_false (by simp [evl]) (s_skip ?_)
  refine w_gen (fun t => t 0 = v ∧ t 3 = slB n m ∧ t 5 = slB (n + 1) m) (by simp [upd_app, t0, t3, t5]) ?_
  clear t0 t3 t4 t5 t6 t7 t8 hri his
  rintro t ⟨t0, t3, t5⟩
  show awp _ _ _ _ G3 (n + 3)
  refine w_assoc (s_run (by simp only [runL, awant_none, astep, evl, put, ap_none, List.length_nil, Nat.add_zero] <;> rfl) ?_)
  refine s_for 1 (max 1 m) (fun k t g n' => t 0 = v ∧ t 3 = slB n m ∧ t 5 = slB (n + 1) m ∧ 1 ≤ k ∧ G3 = g) (by omega) (by omega) (by simp []) ⟨by simp [upd_app, t0], by simp [upd_app, t3], by simp [upd_app, t5], Nat.le_refl _, rfl⟩ ?_ ?_ ?_
  · rintro k t g N hk t9 ⟨t0, t3, t5, h1, rfl⟩
    have dl : decide ((k : Int) < (m : Int)) = decide (k < max 1 m) := by
      by_cases h : k < m
      · rw [decide_eq_true (by omega), decide_eq_true (by omega)]
      · rw [decide_eq_false (by omega), decide_eq_false (by omega)]
    exact ⟨_, (by simp only [runL, awant_none, astep, evl, put, ap_none, List.length_nil, Nat.add_zero, upd_app, stepBin, abin, stepCall, ↓reduceIte, Nat.reduceEqDiff, t9, t5, lenI, dl] <;> rfl), by simp [], by simp [upd_app, t9], by simp [upd_app, t0], by simp [upd_app, t3], by simp [upd_app, t5], h1, rfl⟩
  · clear t0 t3 t5
    rintro k t g N hk t9 ⟨t0, t3, t5, h1, rfl⟩
    have hkm : k < m := by omega
    have w1 : IntKind.i64.wrap ((k : Int) - 1) = ((k - 1 : Nat) : Int) := wrap_sub1 h1 (by omega)
    have iA1 := idxI n m (k - 1) m (by omega)
    have iA := idxI n m k m hkm
    have iL := idxI (n + 1) m k m hkm
    have lA1 := ldN (m := m) (i := k - 1) a3 hm (by omega)
    have lA := ldN (m := m) (i := k) a3 hm (by omega)
    have lL := ldN (m := m) (i := k) c3 hlcl (by omega)
    have hval : byt (lcpL s A) k = cp (s.drop (byt A (k - 1))) (s.drop (byt A k)) := by
      rw [← nth_byt, lcpL_at (by omega), if_neg (by omega), nth_byt, nth_byt]
    rw [hval] at lL
    have hx := hS.lt (show k - 1 < A.length by omega)
    have hy := hS.lt (show k < A.length by omega)
    rw [nth_byt] at hx hy
    generalize byt A (k - 1) = x at *
    generalize byt A k = y at *
    have hcom := rcommon_spec v s x y G3 (by omega) (by omega) (by omega) hvg
    have e2 : (((cp (s.drop x) (s.drop y) : Nat) : Int) != ((cp (s.drop x) (s.drop y) : Nat) : Int)) = false := ine_f rfl
    refine s_drawn #[0, 0, 3, 7, 0, 0, 0, 64, 224, 480, 0, 0, 3072, 7168, 16368, 32767] (by decide +kernel) ?_
    refine d_readsB 14 (by simp) (by simp only [runR, List.take_succ_cons, List.take_zero, awant_none, astep, evl, put, upd_app, stepBin, abin, reduceCtorEq, ↓reduceIte, Nat.reduceEqDiff, List.isEmpty_nil, Bool.and_self, t0, t3, t5, t9, w1, iL, lL, iA1, lA1, iA, lA] <;> rfl) fun a1 ha1 => ?_
    refine d_rcall 14 _ rfl rfl rfl (by simp only [awant_none] <;> rfl) hcom rfl rfl ha1 fun a2 ha2 => ?_
    refine d_readsB 1 ha2 (by simp only [runR, List.take_succ_cons, List.take_zero, awant_none, astep, evl, put, upd_app, stepBin, abin, ↓reduceIte, Nat.reduceEqDiff, List.isEmpty_nil, Bool.and_self, e2] <;> rfl) fun a3 ha3 => ?_
    refine w_false (by simp [evl]) (w_skip ?_)
    simp only [rngPost]
    exact ⟨by simp [upd_app, t9], fun _ _ _ => ⟨by simp [upd_app, t0], by simp [upd_app, t3], by simp [upd_app, t5], by omega, trivial⟩⟩
  · clear t0 t3 t5
    rintro t g N ⟨t0, t3, t5, h1, rfl⟩
    have h1 := sa_spec v (slB n m) s (zs A) G3 (by omega) (by omega) hvg (srA G3 _ a3)
    have h3 := clcp_spec v (slB n m) (slB (n + 1) m) s (zs A) (zs (lcpL s A)) G3 (by omega) (by omega) (by omega) hvg (srA G3 _ a3) (srL G3 _ c3)
    rw [hsaB] at h1
    rw [hokc] at h3
    refine s_take 2 (by simp only [runL, List.take_succ_cons, List.take_zero, awant_none, astep, evl, put, ap_none, List.length_nil, Nat.add_zero, upd_app, ↓reduceIte, Nat.reduceEqDiff, t0, t3] <;> rfl) ?_
    refine ops_call 15 _ rfl (by simp only [upd_app, evl, List.map_cons, List.map_nil]; exact h1) (fun h => (h rfl).elim) ?_
    refine ops_take 4 (by simp only [runL, awant_some, List.getElem?_toArray, List.getElem?_cons_succ, List.getElem?_cons_zero, Option.bind_some, b_tt, List.take_succ_cons, List.take_zero, awant_none, astep, evl, put, ap_none, List.length_nil, Nat.add_zero, upd_app, reduceCtorEq, ↓reduceIte, Nat.reduceEqDiff, t0, t3, t5] <;> rfl) ?_
    refine g_call 16 _ (by simp only [awant_some, List.getElem?_toArray, List.getElem?_cons_succ, List.getElem?_cons_zero, Option.bind_some, b_tt, upd_app, ↓reduceIte, Nat.reduceEqDiff] <;> rfl) rfl (by simp only [upd_app, evl, List.map_cons, List.map_nil]; exact h3) (fun h => (h rfl).elim) ?_
    refine ops_take 2 (by simp only [runL, List.take_succ_cons, List.take_zero, awant_none, astep, evl, put, ap_none, List.length_nil, Nat.add_zero, upd_app, stepPick, ↓reduceIte, Nat.reduceEqDiff] <;> rfl) ?_
    refine g_call 10 _ (by simp only [awant_some, List.getElem?_toArray, List.getElem?_cons_succ, List.getElem?_cons_zero, Option.bind_some, b_tt, upd_app, ↓reduceIte] <;> rfl) rfl (by simp only [List.map_nil]; exact known_ok _) (fun h => (h rfl).elim) ?_
    refine ops_run (by simp only [runL, awant_none, astep, evl, put, ap_none, List.length_nil, Nat.add_zero, upd_app, stepPick, ↓reduceIte, Nat.reduceEqDiff] <;> rfl) ?_
    exact w_ret ⟨.inr rfl, by simp, [], fin_none (by simp [resVal]) trivial (fun i b hb => q3.at (hs i (hwf i b hb).1) hb)⟩
end Go.Proofs.Ytdpkhijbikbhnaa
