import Derived.Test.YtdpkhijbikbhnaaT25
namespace Go.Proofs.Ytdpkhijbikbhnaa
open Go Abs Plain
set_option linter.unusedSimpArgs false
set_option linter.unusedVariables false

set_option maxRecDepth 10000 in
theorem is_spec (v : Value) (a : List Int) (g : Heap) (hl : a.length ≤ 2 ^ 38) (hv : Src g v 1 a.length (intsI a)) : FnSpec Try.prog 65 [v] g { v := .bool (permB a), r := srcBlk v } := by
  refine spec_of_body [2] follows Try.func65 rfl (by kernel_rfl) (by simp [Try.f65]) (by kernel_rfl) rfl ?_
  intro g2 s2 n hg hfr hs hn hwf hsv
  have hv2 : Src g2 v 1 a.length (intsI a) := hv.congr fun i hi => hg i (by simp [Eff.fp, hi])
  have hvd : ∀ i ∈ srcBlk v, i < n := dom_of hs hwf hv2
  clear hg hfr hn hv
  have hcall := inverse_spec v a g2 n hl hv2
  refine s_run (by simp only [runL, awant_none, astep, evl, put, ap_none, List.length_nil, Nat.add_zero, undef] <;> rfl) ?_
  refine s_take 1 (by simp only [runL, Option.getD_some, List.getElem?_cons_zero, List.take_succ_cons, List.take_zero, awant_none, astep, evl, put, ap_none, List.length_nil, Nat.add_zero, upd_app, reduceCtorEq, ↓reduceIte] <;> rfl) ?_
  refine ops_call 25 _ rfl hcall (fun _ => okE_j _ _ _) ?_
  refine ops_heap fun G1 hG1 => ?_
  have k1 : Kp n g2 G1 := by rw [hG1]; exact kp_ap (Kp.refl _ _) (okE_w _ _ _) (fun _ => by rw [okE_j]; exact Nat.le_refl _)
  clear hG1
  cases hp : permB a with
  | true =>
    refine ops_run (by simp only [runL, List.getElem?_toArray, List.getElem?_cons_succ, List.getElem?_cons_zero, awant_none, astep, evl, put, ap_none, List.length_nil, List.length_cons, Nat.add_zero, Nat.zero_add, upd_app, stepExtract, ↓reduceIte, Nat.reduceEqDiff, okE] <;> rfl) ?_
    refine s_run (by simp only [runL, awant_none, astep, evl, put, ap_none, List.length_nil, Nat.add_zero, upd_app, ↓reduceIte] <;> rfl) ?_
    refine w_ret ⟨.inr rfl, by simp, [], fin_plain hs hwf k1 (by simp [resVal]) trivial⟩
  | false =>
    refine ops_run (by simp only [runL, List.getElem?_toArray, List.getElem?_cons_succ, List.getElem?_cons_zero, awant_none, astep, evl, put, ap_none, List.length_nil, Nat.add_zero, upd_app, stepExtract, ↓reduceIte, Nat.reduceEqDiff, Bool.false_eq_true, okE] <;> rfl) ?_
    refine s_run (by simp only [runL, awant_none, astep, evl, put, ap_none, List.length_nil, Nat.add_zero, upd_app, ↓reduceIte] <;> rfl) ?_
    refine w_ret ⟨.inr rfl, by simp, [], fin_plain hs hwf k1 (by simp [resVal]) trivial⟩

/-- Of each place the one ahead of it. -/
def ahL (A : List Nat) (k : Nat) : List Int := (List.range A.length).map fun x => if A.idxOf x < k then (if A.idxOf x = 0 then -1 else ((nth A (A.idxOf x - 1) : Nat) : Int)) else 0
theorem ahL_len (A : List Nat) (k : Nat) : (ahL A k).length = A.length := by simp [ahL]
theorem ahL_set {s A : List Nat} (h : SA s A) {k : Nat} (hk : k < A.length) : (ahL A k).set (byt A k) (if k = 0 then -1 else ((byt A (k - 1) : Nat) : Int)) = ahL A (k + 1) := by
  apply List.ext_getElem
  · simp [ahL]
  · intro i h1 h2
    have hi : i < A.length := by rw [ahL_len] at h2; exact h2
    have hid : A.idxOf (byt A k) = k := by rw [← nth_byt]; exact idx_nth h.nd hk
    rw [List.getElem_set]
    simp only [ahL, List.getElem_map, List.getElem_range]
    by_cases e : byt A k = i
    · subst e
      rw [if_pos rfl, hid, if_pos (show k < k + 1 by omega), nth_byt]
    · rw [if_neg e]
      have hne : A.idxOf i ≠ k := fun e2 => e (by rw [← e2, ← nth_byt]; exact nth_idx (h.mem (by rw [← h.len]; exact hi)))
      have : (A.idxOf i < k + 1) ↔ (A.idxOf i < k) := by omega
      simp only [this]

set_option maxRecDepth 20000 in
theorem ahead_spec (w : Value) (s A : List Nat) (g : Heap) (j : Nat) (hS : SA s A) (hl : A.length ≤ 2 ^ 38) (hw : Src g w 1 A.length (ints A)) : FnSpec Try.prog 45 [w] g (okE (some (ahL A A.length)) (srcBlk w) j) := by
  refine spec_of_body [2, 3] follows Try.func45 rfl (by kernel_rfl) (by simp [Try.f45]) (by kernel_rfl) rfl ?_
  intro g2 s2 n hg hfr hs hn hwf hsv
  rw [okE_fp] at hg
  have hw2 : Src g2 w 1 A.length (ints A) := hw.congr fun i hi => hg i hi
  have hwd := dom_of hs hwf hw2
  have hlen := hw2.len Try.underlying22
  clear hg hfr hn hw
  have hp : permB (zs A) = true := permB_of_perm hS.perm
  have hwz : Src g2 w 1 (zs A).length (intsI (zs A)) := by rw [ints_zs] at hw2; simpa [zs] using hw2
  have his := is_spec w (zs A) g2 (by simp [zs]; omega) hwz
  rw [hp] at his
  refine s_run (by simp only [runL, awant_none, astep, evl, put, ap_none, List.length_nil, Nat.add_zero, undef] <;> rfl) ?_
  refine w_assoc (s_take 1 (by simp only [runL, Option.getD_some, List.getElem?_cons_zero, List.take_succ_cons, List.take_zero, awant_none, astep, evl, put, ap_none, List.length_nil, Nat.add_zero, upd_app, reduceCtorEq, ↓reduceIte] <;> rfl) ?_)
  refine ops_call 65 _ rfl his (fun h => (h rfl).elim) ?_
  refine ops_run (by simp only [runL, Bool.not_true, awant_none, astep, evl, put, ap_none, List.length_nil, Nat.add_zero, upd_app, stepUn, ↓reduceIte] <;> rfl) ?_
  refine s_false (by simp [evl]) (s_skip ?_)
  refine w_gen (fun t => t 0 = w) (by simp [upd_app]) ?_
  intro t t0
  show awp _ _ _ _ g2 n
  refine s_run (by simp only [runL, awant_none, astep, evl, put, ap_none, ap_new, List.length_nil, List.length_cons, Nat.add_zero, Nat.zero_add, upd_app, stepCall, ↓reduceIte, t0, hlen, mkIntsI A.length n (by omega)] <;> rfl) (w_heap fun G1 hG1 => ?_)
  have b1 : G1 n = some ⟨false, 3, intsI (ahL A 0)⟩ := by
    have : ahL A 0 = List.replicate A.length 0 := by unfold ahL; rw [List.eq_replicate_iff]; simp
    rw [hG1, this]; simp []
  have k1 : Kp n g2 G1 := by rw [hG1]; exact kp_upd (Kp.refl _ _) (Nat.le_refl _)
  refine s_run (by simp only [runL, awant_none, astep, evl, put, ap_none, List.length_nil, Nat.add_zero] <;> rfl) ?_
  refine w_assoc (s_run (by simp only [runL, awant_none, astep, evl, put, ap_none, List.length_nil, Nat.add_zero, upd_app, stepCall, reduceCtorEq, ↓reduceIte, t0, hlen] <;> rfl) ?_)
  refine s_rng A.length (fun i t g n' => t 4 = .slice (some ⟨n, 0, some A.length⟩) A.length 1 ∧ t 5 = .int .i64 (if i = 0 then -1 else ((byt A (i - 1) : Nat) : Int)) ∧ t 14 = w ∧ g n = some ⟨false, 3, intsI (ahL A i)⟩ ∧ Kp n g2 g) (by omega) (by simp []) (by simp [upd_app])
    (fun _ => ⟨by simp [upd_app], by simp [upd_app], by simp [upd_app], b1, k1⟩) (by decide) ?_ ?_
  · clear t0 b1 k1 hG1
    rintro i t g n' hi t16 t15 ⟨t4, t5, t14, b, hkp⟩
    obtain ⟨p, i1, l1, _⟩ := srcN (hkp.src hw2 hwd) hi
    have hx := hS.lt hi
    rw [nth_byt, ← hS.len] at hx
    have hset := ahL_set hS hi
    have iy := idxI n A.length (byt A i) A.length hx
    have s1 := stI (m := A.length) (i := byt A i) (x := if i = 0 then -1 else ((byt A (i - 1) : Nat) : Int)) b (ahL_len A i) (by rw [ahL_len]; exact hx)
    rw [hset] at s1
    refine s_run (by simp only [runL, awant_none, astep, evl, put, ap_none, List.length_nil, Nat.add_zero, upd_app, ↓reduceIte, t14, t16, i1, l1] <;> rfl) ?_
    refine region_run (id := 8) (by simp only [runL, awant_none, astep, evl, put, ap_none, ap_wr, List.length_nil, Nat.add_zero, upd_app, ↓reduceIte, Nat.reduceEqDiff, undef, t4, t5, iy, s1] <;> rfl) ?_
    simp only [rngPost]
    exact ⟨by simp [upd_app, t16], by simp [upd_app, t15], fun _ _ _ => ⟨by simp [upd_app, t4], by simp [upd_app], by simp [upd_app, t14], by simp [], kp_upd hkp (Nat.le_refl _)⟩⟩
  · rintro t g n' ⟨t4, t5, t14, b, hkp⟩
    refine s_run (by simp only [runL, awant_none, astep, evl, put, ap_none, List.length_nil, Nat.add_zero, upd_app, ↓reduceIte, t4] <;> rfl) ?_
    exact w_ret (okE_some (k := n) (l := ahL A A.length) rfl (by simp [upd_app, ahL_len]) (by simp []) (Nat.le_refl _) b hs hwf hkp rfl)

set_option maxRecDepth 20000 in
theorem falls_spec (v w : Value) (s A : List Nat) (g : Heap) (hS : SA s A) (hl : s.length ≤ 2 ^ 38) (hv : Src g v 1 s.length (bs s)) (hw : Src g w 1 A.length (ints A)) : FnSpec Try.prog 46 [v, w] g { v := .bool true, r := srcBlk v ++ srcBlk w } := by
  refine spec_of_body [4] follows Try.func46 rfl (by kernel_rfl) (by simp [Try.f46]) (by kernel_rfl) rfl ?_
  intro g2 s2 n hg hfr hs hn hwf hsv
  have hv2 : Src g2 v 1 s.length (bs s) := hv.congr fun i hi => hg i (by simp [Eff.fp, hi])
  have hvd : ∀ i ∈ srcBlk v, i < n := dom_of hs hwf hv2
  have hw2 : Src g2 w 1 A.length (ints A) := hw.congr fun i hi => hg i (by simp [Eff.fp, hi])
  have hwd : ∀ i ∈ srcBlk w, i < n := dom_of hs hwf hw2
  have hlw := hw2.len Try.underlying22
  clear hg hfr hn hv hw
  have hAl := hS.len
  have hp : permB (zs A) = true := permB_of_perm hS.perm
  have hwz : Src g2 w 1 (zs A).length (intsI (zs A)) := by rw [ints_zs] at hw2; simpa [zs] using hw2
  have hcall := inverse_spec w (zs A) g2 n (by simp [zs]; omega) hwz
  have hinv := (permB_nat hp).2.2
  rw [nats_zs] at hinv
  rw [if_pos hp, hinv] at hcall
  have hrkl : (zs (rkL A)).length = A.length := by simp [zs, rkL_len]
  refine s_run (by simp only [runL, awant_none, astep, evl, put, ap_none, List.length_nil, Nat.add_zero, undef] <;> rfl) ?_
  refine s_take 1 (by simp only [runL, Option.getD_some, List.getElem?_cons_succ, List.getElem?_cons_zero, List.take_succ_cons, List.take_zero, awant_none, astep, evl, put, ap_none, List.length_nil, Nat.add_zero, upd_app, ↓reduceIte, Nat.reduceEqDiff] <;> rfl) ?_
  refine ops_call 25 _ rfl hcall (fun _ => rfl) ?_
  refine ops_heap fun G1 hG1 => ?_
  have b1 : G1 n = some ⟨false, 3, intsI (zs (rkL A))⟩ := by rw [hG1]; simp [okE, ap_new]
  have k1 : Kp n g2 G1 := by rw [hG1]; simp only [okE, ap_new]; exact kp_upd (Kp.refl _ _) (Nat.le_refl _)
  clear hG1
  refine ops_run (by simp only [runL, List.getElem?_toArray, List.getElem?_cons_succ, List.getElem?_cons_zero, awant_none, astep, evl, put, ap_none, List.length_nil, List.length_cons, Nat.add_zero, Nat.zero_add, upd_app, stepExtract, ↓reduceIte, Nat.reduceEqDiff, okE, hrkl] <;> rfl) ?_
  refine w_gen (fun t => t 0 = v ∧ t 1 = w ∧ t 5 = .slice (some ⟨n, 0, some (intsI (zs (rkL A))).length⟩) (intsI (zs (rkL A))).length 1) (by simp [upd_app, rkL_len]) ?_
  rintro t ⟨t0, t1, t5⟩
  refine w_num fun N hN => ?_
  replace hN : N = n + 1 := hN
  have o1 : OwnB 3 G1 (.slice (some ⟨n, 0, some (intsI (zs (rkL A))).length⟩) (intsI (zs (rkL A))).length 1) (intsI (zs (rkL A))) n := ⟨rfl, b1⟩
  obtain ⟨f, hf, hfa, o2, hk2⟩ := o1.push (P := Try.prog) (T := 22) (j := N) (c := .int .i64 (-1)) (by omega) Try.underlying22 tinf3 (by simp [rkL_len]; omega) (by omega)
  show awp _ _ _ _ G1 N
  refine s_run (by simp only [runL, awant_none, astep, evl, put, ap_none, ap_new, List.length_nil, List.length_cons, Nat.add_zero, Nat.zero_add, upd_app, stepCall, ↓reduceIte, Nat.reduceEqDiff, List.map_cons, List.map_nil, undef, t5, litI_1, hf] <;> rfl) (w_heap fun G2 hG2 => ?_)
  rw [← hG2] at o2 hk2
  have k2 : Kp n g2 G2 := fun q hq => by rw [hk2 q (by omega) (by omega)]; exact k1 q hq
  have hrk : intsI (zs (rkL A)) ++ [.int .i64 (-1)] = intsI (rk1 A) := by simp [rk1, intsI]
  rw [hrk] at o2
  obtain ⟨o3, b2⟩ := o2
  have hrl : (intsI (rk1 A)).length = A.length + 1 := by simp [rk1_len]
  rw [hrl] at o3
  have hsr : Src G2 (.slice (some ⟨n, 0, some (A.length + 1)⟩) (A.length + 1) 1) 1 (rk1 A).length (intsI (rk1 A)) := src_intsI' b2 (rk1_len A).symm
  refine w_gen (fun t => t 0 = v ∧ t 1 = w ∧ t 5 = .slice (some ⟨n, 0, some (A.length + 1)⟩) (A.length + 1) 1) (by simp [upd_app, t0, t1, o3]) ?_
  clear t0 t1 t5 hf hk2 hG2 o1 o3
  rintro t ⟨t0, t1, t5⟩
  have hv3 := k2.src hv2 hvd
  have hw3 := k2.src hw2 hwd
  refine w_assoc (s_run (by simp only [runL, awant_none, astep, evl, put, ap_none, List.length_nil, Nat.add_zero, upd_app, stepCall, ↓reduceIte, t1, hlw] <;> rfl) ?_)
  refine s_rng A.length (fun k t g n' => t 0 = v ∧ t 1 = w ∧ t 5 = .slice (some ⟨n, 0, some (A.length + 1)⟩) (A.length + 1) 1 ∧ t 18 = w ∧ G2 = g) (by omega) (by simp []) (by simp [upd_app])
    (fun _ => ⟨by simp [upd_app, t0], by simp [upd_app, t1], by simp [upd_app, t5], by simp [upd_app], rfl⟩) (by decide) ?_ ?_
  · clear t0 t1 t5
    rintro k t g m hk t20 t19 ⟨t0, t1, t5, t18, hgg⟩
    subst hgg
    obtain ⟨q, i2, l2, _⟩ := srcN hw3 hk
    refine s_run (by simp only [runL, awant_none, astep, evl, put, ap_none, List.length_nil, Nat.add_zero, upd_app, ↓reduceIte, Nat.reduceEqDiff, t18, t20, i2, l2] <;> rfl) ?_
    refine w_gen (fun t => t 0 = v ∧ t 1 = w ∧ t 5 = .slice (some ⟨n, 0, some (A.length + 1)⟩) (A.length + 1) 1 ∧ t 18 = w ∧ t 7 = .int .i64 k ∧ t 8 = .int .i64 (byt A k : Nat) ∧ t 20 = .int .i64 k ∧ t 19 = .int .i64 A.length) (by simp [upd_app, t0, t1, t5, t18, t20, t19]) ?_
    clear t0 t1 t5 t18 t20 t19
    rintro t ⟨t0, t1, t5, t18, t7, t8, t20, t19⟩
    by_cases h0 : k = 0
    · have e0 : ((k : Int) == 0) = true := ieq_t (by omega)
      refine w_assoc (s_run (by simp only [runL, awant_none, astep, evl, put, ap_none, List.length_nil, Nat.add_zero, upd_app, stepBin, abin, ↓reduceIte, t7, e0] <;> rfl) ?_)
      refine s_true (by simp [evl]) (s_exit ?_)
      simp only [rngPost]
      exact ⟨by simp [upd_app, t20], by simp [upd_app, t19], fun _ _ _ => ⟨by simp [upd_app, t0], by simp [upd_app, t1], by simp [upd_app, t5], by simp [upd_app, t18], trivial⟩⟩
    have e0 : ((k : Int) == 0) = false := ieq_f (by omega)
    refine w_assoc (s_run (by simp only [runL, awant_none, astep, evl, put, ap_none, List.length_nil, Nat.add_zero, upd_app, stepBin, abin, ↓reduceIte, t7, e0] <;> rfl) ?_)
    refine s_false (by simp [evl]) (s_skip ?_)
    have w1 : IntKind.i64.wrap ((k : Int) - 1) = ((k - 1 : Nat) : Int) := wrap_sub1 (by omega) (by omega)
    obtain ⟨p, i1, l1, _⟩ := srcN hw3 (show k - 1 < A.length by omega)
    have hx := hS.lt (show k - 1 < A.length by omega)
    have hy := hS.lt hk
    have hnb := of_decide_eq_true (chk_of hS) k hk (by omega)
    unfold bad at hnb
    simp only [nth_byt] at hnb hx hy
    refine s_run (by simp only [runL, awant_none, astep, evl, put, ap_none, List.length_nil, Nat.add_zero, upd_app, stepBin, abin, ↓reduceIte, Nat.reduceEqDiff, t1, t7, w1, i1, l1] <;> rfl) ?_
    refine w_gen (fun t => t 0 = v ∧ t 1 = w ∧ t 5 = .slice (some ⟨n, 0, some (A.length + 1)⟩) (A.length + 1) 1 ∧ t 18 = w ∧ t 8 = .int .i64 (byt A k : Nat) ∧ t 9 = .int .i64 (byt A (k - 1) : Nat) ∧ t 20 = .int .i64 k ∧ t 19 = .int .i64 A.length) (by simp [upd_app, t0, t1, t5, t18, t8, t20, t19]) ?_
    clear t0 t1 t5 t18 t20 t19 t7 t8
    generalize byt A (k - 1) = x at *
    generalize byt A k = y at *
    rintro t ⟨t0, t1, t5, t18, t8, t9, t20, t19⟩
    obtain ⟨p1, j1, m1, _⟩ := srcB hv3 hx
    obtain ⟨p2, j2, m2, _⟩ := srcB hv3 hy
    have wx : IntKind.i64.wrap ((x : Int) + 1) = ((x + 1 : Nat) : Int) := wrap_succ (by omega)
    have wy : IntKind.i64.wrap ((y : Int) + 1) = ((y + 1 : Nat) : Int) := wrap_succ (by omega)
    obtain ⟨p3, j3, m3, _⟩ := srcI hsr (show x + 1 < (rk1 A).length by rw [rk1_len]; omega)
    obtain ⟨p4, j4, m4, _⟩ := srcI hsr (show y + 1 < (rk1 A).length by rw [rk1_len]; omega)
    rw [rk1_at (by omega)] at m3 m4
    have d1 : decide (((byt s x : Nat) : Int) > ((byt s y : Nat) : Int)) = false := decide_eq_false (by omega)
    by_cases c2 : byt s x = byt s y
    · have e2 : (((byt s x : Nat) : Int) == ((byt s y : Nat) : Int)) = true := ieq_t (by rw [c2])
      have d3 : decide (rkI A (x + 1) > rkI A (y + 1)) = false := decide_eq_false (by omega)
      refine s_draw #[0, 0, 3, 7, 0, 0, 48, 112, 255, 511, 1023, 1023, 4095, 8191, 1023, 1023, 50175, 115711, 262143, 524287, 1048575, 1048575, 3145727, 8388607, 16777215, 1048575, 1048575, 68157439, 235929599, 504365055, 1073741823, 2147483647, 4294967295] (by decide +kernel) (by simp only [runR, awant_some, List.getElem?_toArray, List.getElem?_cons_succ, List.getElem?_cons_zero, Option.bind_some, b_tt, b_ff, awant_none, astep, evl, put, upd_app, stepBin, abin, stepPick, reduceCtorEq, ↓reduceIte, Nat.reduceEqDiff, Bool.false_eq_true, List.isEmpty_nil, Bool.and_self, t0, t5, t8, t9, j1, m1, j2, m2, d1, e2, wx, wy, j3, m3, j4, m4, d3] <;> rfl) ?_
      refine w_false (by simp [evl]) (w_skip ?_)
      simp only [rngPost]
      exact ⟨by simp [upd_app, t20], by simp [upd_app, t19], fun _ _ _ => ⟨by simp [upd_app, t0], by simp [upd_app, t1], by simp [upd_app, t5], by simp [upd_app, t18], trivial⟩⟩
    · have e2 : (((byt s x : Nat) : Int) == ((byt s y : Nat) : Int)) = false := ieq_f (by omega)
      refine s_draw #[0, 0, 3, 7, 0, 0, 48, 112, 255, 511, 1023, 1023, 4095, 8191, 1023, 1023, 50175, 115711, 262143, 524287, 1048575, 1048575, 3145727, 8388607, 16777215, 1048575, 1048575, 68157439, 235929599, 504365055, 1073741823, 2147483647, 4294967295] (by decide +kernel) (by simp only [runR, awant_some, List.getElem?_toArray, List.getElem?_cons_succ, List.getElem?_cons_zero, Option.bind_some, b_ft, b_ff, awant_none, astep, evl, put, upd_app, stepBin, abin, stepPick, reduceCtorEq, ↓reduceIte, Nat.reduceEqDiff, Bool.false_eq_true, undef, List.isEmpty_nil, Bool.and_self, t0, t8, t9, j1, m1, j2, m2, d1, e2] <;> rfl) ?_
      refine w_false (by simp [evl]) (w_skip ?_)
      simp only [rngPost]
      exact ⟨by simp [upd_app, t20], by simp [upd_app, t19], fun _ _ _ => ⟨by simp [upd_app, t0], by simp [upd_app, t1], by simp [upd_app, t5], by simp [upd_app, t18], trivial⟩⟩
  · rintro t g m ⟨t0, t1, t5, t18, hgg⟩
    subst hgg
    refine s_run (by simp only [runL, awant_none, astep, evl, put, ap_none, List.length_nil, Nat.add_zero] <;> rfl) ?_
    exact w_ret ⟨.inr rfl, by simp, [], fin_plain hs hwf k2 (by simp [resVal]) trivial⟩
end Go.Proofs.Ytdpkhijbikbhnaa
