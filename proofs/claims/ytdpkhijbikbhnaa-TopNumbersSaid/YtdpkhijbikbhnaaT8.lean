import Derived.Test.YtdpkhijbikbhnaaT7
namespace Go.Proofs.Ytdpkhijbikbhnaa
open Go Abs Plain
set_option linter.unusedSimpArgs false
set_option linter.unusedVariables false


def rk1 (A : List Nat) : List Int := zs (rkL A) ++ [-1]
theorem rk1_len (A : List Nat) : (rk1 A).length = A.length + 1 := by simp [rk1, zs, rkL]
theorem rk1_at {A : List Nat} {x : Nat} (h : x ≤ A.length) : (rk1 A)[x]'(by rw [rk1_len]; omega) = rkI A x := by
  unfold rk1 rkI
  by_cases e : x < A.length
  · rw [if_pos e, List.getElem_append_left (by simp [zs, rkL]; exact e)]; simp [zs, rkL]
  · rw [if_neg e, List.getElem_append_right (by simp [zs, rkL]; omega)]; simp

set_option maxRecDepth 10000 in
theorem sa_spec (v w : Value) (s : List Nat) (a : List Int) (g : Heap) (hl : s.length ≤ 2 ^ 38) (hla : a.length ≤ 2 ^ 38) (hv : Src g v 1 s.length (bs s)) (hw : Src g w 1 a.length (intsI a)) :
    FnSpec Try.prog 15 [v, w] g { v := .bool (saB s a), r := srcBlk v ++ srcBlk w } := by
  refine spec_of_body [4] follows Try.func15 rfl (by kernel_rfl) (by simp [Try.f15]) (by kernel_rfl) rfl ?_
  intro g2 s2 n hg hfr hs hn hwf hsv
  have hv2 : Src g2 v 1 s.length (bs s) := hv.congr fun i hi => hg i (by simp [Eff.fp, hi])
  have hvd : ∀ i ∈ srcBlk v, i < n := dom_of hs hwf hv2
  have hw2 : Src g2 w 1 a.length (intsI a) := hw.congr fun i hi => hg i (by simp [Eff.fp, hi])
  have hwd : ∀ i ∈ srcBlk w, i < n := dom_of hs hwf hw2
  have hlv := hv2.len Try.underlying30
  have hlw := hw2.len Try.underlying22
  clear hg hfr hn hv hw
  refine s_run (by simp only [runL, awant_none, astep, evl, put, ap_none, List.length_nil, Nat.add_zero, undef] <;> rfl) ?_
  have hcall := inverse_spec w a g2 n hla hw2
  by_cases hp : ¬ permB a = true
  · rw [if_neg hp] at hcall
    refine s_take 1 (by simp only [runL, Option.getD_some, List.getElem?_cons_succ, List.getElem?_cons_zero, List.take_succ_cons, List.take_zero, awant_none, astep, evl, put, ap_none, List.length_nil, Nat.add_zero, upd_app, ↓reduceIte, Nat.reduceEqDiff] <;> rfl) ?_
    refine ops_call 25 _ rfl hcall (fun h => (h rfl).elim) ?_
    refine ops_run (by simp only [runL, List.getElem?_toArray, List.getElem?_cons_succ, List.getElem?_cons_zero, awant_none, astep, evl, put, ap_none, List.length_nil, Nat.add_zero, upd_app, stepExtract, ↓reduceIte, Nat.reduceEqDiff, okE] <;> rfl) ?_
    refine w_assoc (s_run (by simp only [runL, awant_some, List.getElem?_toArray, List.getElem?_cons_succ, List.getElem?_cons_zero, Option.bind_some, b_tf, Bool.not_false, awant_none, astep, evl, put, ap_none, List.length_nil, Nat.add_zero, upd_app, stepUn, stepPick, ↓reduceIte, Nat.reduceEqDiff, undef] <;> rfl) ?_)
    refine s_true (by simp [evl]) (w_assoc (s_run (by simp only [runL, awant_none, astep, evl, put, ap_none, List.length_nil, Nat.add_zero] <;> rfl) ?_))
    refine s_ret ⟨.inr rfl, by simp, [], fin_none ?_ trivial (fun _ _ h => h)⟩
    simp [resVal, saB, hp]
  replace hp := Classical.not_not.1 hp
  rw [if_pos hp] at hcall
  refine s_take 1 (by simp only [runL, Option.getD_some, List.getElem?_cons_succ, List.getElem?_cons_zero, List.take_succ_cons, List.take_zero, awant_none, astep, evl, put, ap_none, List.length_nil, Nat.add_zero, upd_app, ↓reduceIte, Nat.reduceEqDiff] <;> rfl) ?_
  refine ops_call 25 _ rfl hcall (fun _ => rfl) ?_
  refine ops_heap fun G1 hG1 => ?_
  have b1 : G1 n = some ⟨false, 3, intsI (invL a)⟩ := by rw [hG1]; simp [okE, ap_new]
  have k1 : Kp n g2 G1 := by rw [hG1]; simp only [okE, ap_new]; exact kp_upd (Kp.refl _ _) (Nat.le_refl _)
  clear hG1
  refine ops_run (by simp only [runL, List.getElem?_toArray, List.getElem?_cons_succ, List.getElem?_cons_zero, awant_none, astep, evl, put, ap_none, List.length_nil, List.length_cons, Nat.add_zero, Nat.zero_add, upd_app, stepExtract, ↓reduceIte, Nat.reduceEqDiff, okE] <;> rfl) ?_
  refine w_gen (fun t => t 0 = v ∧ t 1 = w ∧ t 5 = .slice (some ⟨n, 0, some (invL a).length⟩) (invL a).length 1 ∧ t 6 = .bool true) (by simp [upd_app]) ?_
  rintro t ⟨t0, t1, t5, t6⟩
  refine w_num fun N hN => ?_
  replace hN : N = n + 1 := by rw [hN]
  by_cases hal : ¬ a.length = s.length
  · have e1 : ((a.length : Int) != (s.length : Int)) = true := ine_t (by omega)
    refine w_assoc (s_run (by simp only [runL, awant_some, List.getElem?_toArray, List.getElem?_cons_succ, List.getElem?_cons_zero, Option.bind_some, b_ff, Bool.not_true, awant_none, astep, evl, put, ap_none, List.length_nil, Nat.add_zero, upd_app, stepBin, abin, stepUn, stepPick, stepCall, reduceCtorEq, ↓reduceIte, Nat.reduceEqDiff, Bool.false_eq_true, t0, t1, t6, hlv, hlw, e1] <;> rfl) ?_)
    refine s_true (by simp [evl]) (w_assoc (s_run (by simp only [runL, awant_none, astep, evl, put, ap_none, List.length_nil, Nat.add_zero] <;> rfl) ?_))
    refine s_ret ⟨.inr rfl, by simp, [], fin_plain hs hwf k1 ?_ trivial⟩
    simp [resVal, saB, hal]
  replace hal := Classical.not_not.1 hal
  have e1 : ((a.length : Int) != (s.length : Int)) = false := ine_f (by omega)
  refine w_assoc (s_run (by simp only [runL, awant_some, List.getElem?_toArray, List.getElem?_cons_succ, List.getElem?_cons_zero, Option.bind_some, b_ff, Bool.not_true, awant_none, astep, evl, put, ap_none, List.length_nil, Nat.add_zero, upd_app, stepBin, abin, stepUn, stepPick, stepCall, reduceCtorEq, ↓reduceIte, Nat.reduceEqDiff, Bool.false_eq_true, t0, t1, t6, hlv, hlw, e1] <;> rfl) ?_)
  refine s_false (by simp [evl]) (s_skip ?_)
  have hO : saB s a = chk s (nats a) := by simp [saB, hp, hal]
  obtain ⟨ea, hperm, hinv⟩ := permB_nat hp
  have hAl := nats_len a
  obtain ⟨A, hA⟩ : ∃ A, nats a = A := ⟨_, rfl⟩
  rw [hA] at ea hperm hinv hO hAl
  rw [hal] at hperm
  have hwN : ∀ G, Kp n g2 G → Src G w 1 A.length (ints A) := fun G k => by rw [ints_zs, ← ea, hAl]; exact k.src hw2 hwd
  rw [← hAl] at hlw
  refine w_gen (fun t => t 0 = v ∧ t 1 = w ∧ t 5 = .slice (some ⟨n, 0, some (invL a).length⟩) (invL a).length 1) (by simp [upd_app, t0, t1, t5]) ?_
  clear t0 t1 t5 t6
  rintro t ⟨t0, t1, t5⟩
  have o1 : OwnB 3 G1 (.slice (some ⟨n, 0, some (invL a).length⟩) (invL a).length 1) (intsI (invL a)) n := ⟨by simp, b1⟩
  obtain ⟨f, hf, hfa, o2, hk2⟩ := o1.push (P := Try.prog) (T := 22) (j := N) (c := .int .i64 (-1)) (by omega) Try.underlying22 tinf3 (by simp [invL_len]; omega) (by omega)
  refine s_run (by simp only [runL, awant_none, astep, evl, put, ap_none, ap_new, List.length_nil, List.length_cons, Nat.add_zero, Nat.zero_add, upd_app, stepCall, ↓reduceIte, Nat.reduceEqDiff, List.map_cons, List.map_nil, undef, t5, litI_1, hf] <;> rfl) (w_heap fun G2 hG2 => ?_)
  rw [← hG2] at o2 hk2
  have k2 : Kp n g2 G2 := fun q hq => by rw [hk2 q (by omega) (by omega)]; exact k1 q hq
  have hrk : intsI (invL a) ++ [.int .i64 (-1)] = intsI (rk1 A) := by rw [hinv]; simp [rk1, intsI]
  rw [hrk] at o2
  obtain ⟨o3, b2⟩ := o2
  have hrl : (intsI (rk1 A)).length = A.length + 1 := by simp [rk1_len]
  rw [hrl] at o3
  have hsr : Src G2 (.slice (some ⟨n, 0, some (A.length + 1)⟩) (A.length + 1) 1) 1 (rk1 A).length (intsI (rk1 A)) := src_intsI' b2 (rk1_len A).symm
  refine w_gen (fun t => t 0 = v ∧ t 1 = w ∧ t 5 = .slice (some ⟨n, 0, some (A.length + 1)⟩) (A.length + 1) 1) (by simp [upd_app, t0, t1, o3]) ?_
  clear t0 t1 t5 hf hk2 hG2 o1 o3
  rintro t ⟨t0, t1, t5⟩
  have hv3 := k2.src hv2 hvd
  have hw3 := hwN G2 k2
  have hlt : ∀ i, i < A.length → byt A i < s.length := fun i hi => by
    have : byt A i ∈ A := by rw [byt_eq hi]; exact List.getElem_mem hi
    simpa using hperm.mem_iff.1 this
  refine w_assoc (s_run (by simp only [runL, awant_none, astep, evl, put, ap_none, List.length_nil, Nat.add_zero] <;> rfl) ?_)
  refine s_for 1 (max 1 A.length) (fun k t g n' => t 0 = v ∧ t 1 = w ∧ t 5 = .slice (some ⟨n, 0, some (A.length + 1)⟩) (A.length + 1) 1 ∧ G2 = g ∧ 1 ≤ k ∧ ∀ i, i < k → 0 < i → i < A.length → ¬ bad s A (nth A (i - 1)) (nth A i)) (by omega) (by omega) (by simp []) ⟨by simp [upd_app, t0], by simp [upd_app, t1], by simp [upd_app, t5], rfl, Nat.le_refl _, fun i h1 h2 => by omega⟩ ?_ ?_ ?_
  · rintro k t g m hk t7 ⟨t0, t1, t5, hgg, h1, hok⟩
    have dl : decide ((k : Int) < (A.length : Int)) = decide (k < max 1 A.length) := by
      by_cases h : k < A.length
      · rw [decide_eq_true (by omega), decide_eq_true (by omega)]
      · rw [decide_eq_false (by omega), decide_eq_false (by omega)]
    exact ⟨_, (by simp only [runL, awant_none, astep, evl, put, ap_none, List.length_nil, Nat.add_zero, upd_app, stepBin, abin, stepCall, ↓reduceIte, Nat.reduceEqDiff, t7, t1, hlw, dl] <;> rfl), by simp [], by simp [upd_app, t7], by simp [upd_app, t0], by simp [upd_app, t1], by simp [upd_app, t5], hgg, h1, hok⟩
  · rintro k t g m hk t7 ⟨t0, t1, t5, hgg, h1, hok⟩
    subst hgg
    have hkA : k < A.length := by omega
    have w1 : IntKind.i64.wrap ((k : Int) - 1) = ((k - 1 : Nat) : Int) := wrap_sub1 h1 (by omega)
    obtain ⟨p, i1, l1, _⟩ := srcN hw3 (show k - 1 < A.length by omega)
    obtain ⟨q, i2, l2, _⟩ := srcN hw3 hkA
    have hx := hlt (k - 1) (by omega)
    have hy := hlt k hkA
    have hbad : bad s A (nth A (k - 1)) (nth A k) ↔ byt s (byt A k) < byt s (byt A (k - 1)) ∨ (byt s (byt A (k - 1)) = byt s (byt A k) ∧ rkI A (byt A k + 1) < rkI A (byt A (k - 1) + 1)) := by
      unfold bad; rw [nth_byt, nth_byt, nth_byt, nth_byt]
    refine s_draw #[0, 0, 2, 7, 15, 0, 0, 96, 224, 31, 1023] (by decide +kernel) (by simp only [runR, awant_none, astep, evl, put, upd_app, stepBin, abin, ↓reduceIte, Nat.reduceEqDiff, List.isEmpty_nil, Bool.and_self, t1, t7, w1, i1, l1, i2, l2] <;> rfl) ?_
    generalize byt A (k - 1) = x at *
    generalize byt A k = y at *
    refine w_gen (fun t => t 0 = v ∧ t 1 = w ∧ t 5 = .slice (some ⟨n, 0, some (A.length + 1)⟩) (A.length + 1) 1 ∧ t 7 = .int .i64 k ∧ t 8 = .int .i64 x ∧ t 9 = .int .i64 y) (by simp [upd_app, t0, t1, t5, t7]) ?_
    clear t0 t1 t5 t7
    rintro t ⟨t0, t1, t5, t7, t8, t9⟩
    obtain ⟨p1, j1, m1, _⟩ := srcB hv3 hx
    obtain ⟨p2, j2, m2, _⟩ := srcB hv3 hy
    have cont : ¬ bad s A (nth A (k - 1)) (nth A k) → ∀ i, i < k + 1 → 0 < i → i < A.length → ¬ bad s A (nth A (i - 1)) (nth A i) := fun hb i ha hb' hc => by
      by_cases e : i = k
      · subst e; exact hb
      · exact hok i (by omega) hb' hc
    have neg : bad s A (nth A (k - 1)) (nth A k) → saB s a = false := fun h => by rw [hO]; exact chk_false hkA h1 h
    have wx : IntKind.i64.wrap ((x : Int) + 1) = ((x + 1 : Nat) : Int) := wrap_succ (by omega)
    have wy : IntKind.i64.wrap ((y : Int) + 1) = ((y + 1 : Nat) : Int) := wrap_succ (by omega)
    obtain ⟨p3, j3, m3, _⟩ := srcI hsr (show x + 1 < (rk1 A).length by rw [rk1_len]; omega)
    obtain ⟨p4, j4, m4, _⟩ := srcI hsr (show y + 1 < (rk1 A).length by rw [rk1_len]; omega)
    rw [rk1_at (by omega)] at m3 m4
    by_cases c1 : byt s y < byt s x
    · have d1 : decide (((byt s x : Nat) : Int) > ((byt s y : Nat) : Int)) = true := decide_eq_true (by omega)
      refine s_draw #[0, 0, 3, 7, 0, 0, 48, 112, 255, 511, 1023, 1023, 4095, 8191, 1023, 1023, 50175, 115711, 262143, 524287, 1048575, 1048575, 3145727, 8388607, 16777215, 1048575, 1048575, 68157439, 235929599, 504365055, 1073741823, 2147483647, 4294967295] (by decide +kernel) (by simp only [runR, awant_some, List.getElem?_toArray, List.getElem?_cons_succ, List.getElem?_cons_zero, Option.bind_some, b_tf, awant_none, astep, evl, put, upd_app, stepBin, abin, stepPick, reduceCtorEq, ↓reduceIte, Nat.reduceEqDiff, undef, List.isEmpty_nil, Bool.and_self, t0, t8, t9, j1, m1, j2, m2, d1] <;> rfl) ?_
      refine w_true (by simp [evl]) (s_run (by simp only [runL, awant_none, astep, evl, put, ap_none, List.length_nil, Nat.add_zero] <;> rfl) ?_)
      refine w_ret ?_
      exact ⟨.inr rfl, by simp, [], fin_plain hs hwf k2 (by simp [resVal, neg (hbad.2 (.inl c1))]) trivial⟩
    have d1 : decide (((byt s x : Nat) : Int) > ((byt s y : Nat) : Int)) = false := decide_eq_false (by omega)
    by_cases c2 : byt s x = byt s y
    · have e2 : (((byt s x : Nat) : Int) == ((byt s y : Nat) : Int)) = true := ieq_t (by rw [c2])
      by_cases c3 : rkI A (y + 1) < rkI A (x + 1)
      · have d3 : decide (rkI A (x + 1) > rkI A (y + 1)) = true := decide_eq_true c3
        refine s_draw #[0, 0, 3, 7, 0, 0, 48, 112, 255, 511, 1023, 1023, 4095, 8191, 1023, 1023, 50175, 115711, 262143, 524287, 1048575, 1048575, 3145727, 8388607, 16777215, 1048575, 1048575, 68157439, 235929599, 504365055, 1073741823, 2147483647, 4294967295] (by decide +kernel) (by simp only [runR, awant_some, List.getElem?_toArray, List.getElem?_cons_succ, List.getElem?_cons_zero, Option.bind_some, b_tt, b_ff, awant_none, astep, evl, put, upd_app, stepBin, abin, stepPick, reduceCtorEq, ↓reduceIte, Nat.reduceEqDiff, Bool.false_eq_true, List.isEmpty_nil, Bool.and_self, t0, t5, t8, t9, j1, m1, j2, m2, d1, e2, wx, wy, j3, m3, j4, m4, d3] <;> rfl) ?_
        refine w_true (by simp [evl]) (s_run (by simp only [runL, awant_none, astep, evl, put, ap_none, List.length_nil, Nat.add_zero] <;> rfl) ?_)
        refine w_ret ?_
        exact ⟨.inr rfl, by simp, [], fin_plain hs hwf k2 (by simp [resVal, neg (hbad.2 (.inr ⟨c2, c3⟩))]) trivial⟩
      · have d3 : decide (rkI A (x + 1) > rkI A (y + 1)) = false := decide_eq_false c3
        refine s_draw #[0, 0, 3, 7, 0, 0, 48, 112, 255, 511, 1023, 1023, 4095, 8191, 1023, 1023, 50175, 115711, 262143, 524287, 1048575, 1048575, 3145727, 8388607, 16777215, 1048575, 1048575, 68157439, 235929599, 504365055, 1073741823, 2147483647, 4294967295] (by decide +kernel) (by simp only [runR, awant_some, List.getElem?_toArray, List.getElem?_cons_succ, List.getElem?_cons_zero, Option.bind_some, b_tt, b_ff, awant_none, astep, evl, put, upd_app, stepBin, abin, stepPick, reduceCtorEq, ↓reduceIte, Nat.reduceEqDiff, Bool.false_eq_true, List.isEmpty_nil, Bool.and_self, t0, t5, t8, t9, j1, m1, j2, m2, d1, e2, wx, wy, j3, m3, j4, m4, d3] <;> rfl) ?_
        refine w_false (by simp [evl]) (w_skip ?_)
        simp only [rngPost]
        exact ⟨by simp [upd_app, t7], fun _ _ _ => ⟨by simp [upd_app, t0], by simp [upd_app, t1], by simp [upd_app, t5], trivial, by omega, cont (fun h => by rcases hbad.1 h with h | h <;> omega)⟩⟩
    · have e2 : (((byt s x : Nat) : Int) == ((byt s y : Nat) : Int)) = false := ieq_f (by omega)
      refine s_draw #[0, 0, 3, 7, 0, 0, 48, 112, 255, 511, 1023, 1023, 4095, 8191, 1023, 1023, 50175, 115711, 262143, 524287, 1048575, 1048575, 3145727, 8388607, 16777215, 1048575, 1048575, 68157439, 235929599, 504365055, 1073741823, 2147483647, 4294967295] (by decide +kernel) (by simp only [runR, awant_some, List.getElem?_toArray, List.getElem?_cons_succ, List.getElem?_cons_zero, Option.bind_some, b_ft, b_ff, awant_none, astep, evl, put, upd_app, stepBin, abin, stepPick, reduceCtorEq, ↓reduceIte, Nat.reduceEqDiff, Bool.false_eq_true, undef, List.isEmpty_nil, Bool.and_self, t0, t8, t9, j1, m1, j2, m2, d1, e2] <;> rfl) ?_
      refine w_false (by simp [evl]) (w_skip ?_)
      simp only [rngPost]
      exact ⟨by simp [upd_app, t7], fun _ _ _ => ⟨by simp [upd_app, t0], by simp [upd_app, t1], by simp [upd_app, t5], trivial, by omega, cont (fun h => by rcases hbad.1 h with h | h <;> omega)⟩⟩
  · rintro t g m ⟨t0, t1, t5, hgg, h1, hok⟩
    subst hgg
    have hc : chk s A = true := decide_eq_true fun i h1 h2 => hok i (by omega) h2 h1
    refine s_run (by simp only [runL, awant_none, astep, evl, put, ap_none, List.length_nil, Nat.add_zero] <;> rfl) ?_
    exact w_ret ⟨.inr rfl, by simp, [], fin_plain hs hwf k2 (by simp [resVal, hO, hc]) trivial⟩
end Go.Proofs.Ytdpkhijbikbhnaa
