import Derived.Test.YtdpkhijbikbhnaaT10
namespace Go.Proofs.Ytdpkhijbikbhnaa
open Go Abs Plain
set_option linter.unusedSimpArgs false
set_option linter.unusedVariables false

theorem rep_set (m k : Nat) (h : k < m) : (List.replicate k (-1 : Int) ++ List.replicate (m - k) 0).set k (-1) = List.replicate (k + 1) (-1) ++ List.replicate (m - (k + 1)) 0 := by
  apply List.ext_getElem
  · simp; omega
  · intro i h1 h2
    rw [List.getElem_set]
    by_cases e : k = i
    · subst e; rw [if_pos rfl, List.getElem_append_left (by simp)]; simp
    · rw [if_neg e, List.getElem_append, List.getElem_append]
      simp only [List.length_replicate, List.getElem_replicate]
      by_cases h3 : i < k
      · rw [dif_pos h3, dif_pos (by omega)]
      · rw [dif_neg h3, dif_neg (by omega)]

set_option maxRecDepth 10000 in
theorem rinverse_spec (v : Value) (a : List Int) (g : Heap) (j : Nat) (hl : a.length ≤ 2 ^ 38) (hv : Src g v 1 a.length (intsI a)) : FnSpec Try.prog 22 [v] g (okE (if permB a then some (invL a) else none) (srcBlk v) j) := by
  refine spec_of_body [2, 3] follows Try.func22 rfl (by kernel_rfl) (by simp [Try.f22]) (by kernel_rfl) rfl ?_
  intro g2 s2 n hg hfr hs hn hwf hsv
  rw [okE_fp] at hg
  have hv2 : Src g2 v 1 a.length (intsI a) := hv.congr fun i hi => hg i hi
  have hlen := hv2.len Try.underlying22
  have hvd := dom_of hs hwf hv2
  clear hg hfr hn hv
  refine s_run (by simp only [runL, awant_none, astep, evl, put, ap_none, List.length_nil, Nat.add_zero, undef] <;> rfl) ?_
  refine s_run (by simp only [runL, Option.getD_some, List.getElem?_cons_zero, awant_none, astep, evl, put, ap_none, ap_new, List.length_nil, List.length_cons, Nat.add_zero, Nat.zero_add, upd_app, stepCall, reduceCtorEq, ↓reduceIte, hlen, mkIntsI a.length n (by omega)] <;> rfl) (w_heap fun G1 hG1 => ?_)
  have b1 : G1 n = some ⟨false, 3, intsI (List.replicate 0 (-1) ++ List.replicate (a.length - 0) 0)⟩ := by rw [hG1]; simp []
  have k1 : Kp n g2 G1 := by rw [hG1]; exact kp_upd (Kp.refl _ _) (Nat.le_refl _)
  refine w_assoc (s_run (by simp only [runL, awant_none, astep, evl, put, ap_none, List.length_nil, Nat.add_zero] <;> rfl) ?_)
  refine s_for 0 a.length (fun k t g n' => t 0 = v ∧ t 4 = .slice (some ⟨n, 0, some a.length⟩) a.length 1 ∧ g n = some ⟨false, 3, intsI (List.replicate k (-1) ++ List.replicate (a.length - k) 0)⟩ ∧ Kp n g2 g) (by omega) (by omega) (by simp []) ⟨by simp [upd_app], by simp [upd_app], b1, k1⟩ ?_ ?_ ?_
  · rintro k t g m hk t5 ⟨t0, t4, b, hkp⟩
    have dl : decide ((k : Int) < (a.length : Int)) = decide (k < a.length) := by simp
    exact ⟨_, (by simp only [runL, awant_none, astep, evl, put, ap_none, List.length_nil, Nat.add_zero, upd_app, stepBin, abin, stepCall, reduceCtorEq, ↓reduceIte, Nat.reduceEqDiff, t5, t0, hlen, dl] <;> rfl), by simp [], by simp [upd_app, t5], by simp [upd_app, t0], by simp [upd_app, t4], b, hkp⟩
  · rintro k t g m hk t5 ⟨t0, t4, b, hkp⟩
    have iy := idxI n a.length k a.length hk
    have s1 := stI (m := a.length) (i := k) (x := -1) b (by simp; omega) (by simp; omega)
    rw [rep_set _ _ hk] at s1
    refine region_run (id := 5) (by simp only [runL, awant_none, astep, evl, put, ap_none, ap_wr, List.length_nil, Nat.add_zero, upd_app, ↓reduceIte, Nat.reduceEqDiff, undef, t4, t5, iy, s1] <;> rfl) ?_
    exact ⟨by simp [upd_app, t5], fun _ _ _ => ⟨by simp [upd_app, t0], by simp [upd_app, t4], by simp [], kp_upd hkp (Nat.le_refl _)⟩⟩
  clear b1 k1 hG1
  rintro t g m ⟨t0, t4, b, hkp⟩
  have e0 : List.replicate a.length (-1 : Int) ++ List.replicate (a.length - a.length) 0 = outL a 0 (-1) := by
    rw [Nat.sub_self, List.replicate_zero, List.append_nil]; symm; unfold outL; rw [List.eq_replicate_iff]; simp
  rw [e0] at b
  refine w_assoc (s_run (by simp only [runL, awant_none, astep, evl, put, ap_none, List.length_nil, Nat.add_zero] <;> rfl) ?_)
  refine s_for 0 a.length (fun k t g n' => t 0 = v ∧ t 4 = .slice (some ⟨n, 0, some a.length⟩) a.length 1 ∧ okTo a k ∧ g n = some ⟨false, 3, intsI (outL a k (-1))⟩ ∧ Kp n g2 g) (by omega) (by omega) (by simp []) ⟨by simp [upd_app, t0], by simp [upd_app, t4], okTo_zero a, b, hkp⟩ ?_ ?_ ?_
  · clear t0 t4 b hkp
    rintro k t g m hk t6 ⟨t0, t4, hok, b, hkp⟩
    have dl : decide ((k : Int) < (a.length : Int)) = decide (k < a.length) := by simp
    exact ⟨_, (by simp only [runL, awant_none, astep, evl, put, ap_none, List.length_nil, Nat.add_zero, upd_app, stepBin, abin, stepCall, reduceCtorEq, ↓reduceIte, Nat.reduceEqDiff, t6, t0, hlen, dl] <;> rfl), by simp [], by simp [upd_app, t6], by simp [upd_app, t0], by simp [upd_app, t4], hok, b, hkp⟩
  · clear t0 t4 b hkp
    rintro k t g m hk t6 ⟨t0, t4, hok, b, hkp⟩
    obtain ⟨p, i1, l1, _⟩ := srcI (hkp.src hv2 hvd) hk
    by_cases h0 : a[k] < 0
    · have d0 : decide (a[k] < 0) = true := decide_eq_true h0
      refine w_assoc (s_run (by simp only [runL, awant_some, List.getElem?_toArray, List.getElem?_cons_succ, List.getElem?_cons_zero, Option.bind_some, b_tf, awant_none, astep, evl, put, ap_none, List.length_nil, Nat.add_zero, upd_app, stepBin, abin, stepPick, ↓reduceIte, Nat.reduceEqDiff, undef, t6, t0, i1, l1, d0] <;> rfl) ?_)
      refine s_true (by simp [evl]) (w_assoc (s_run (by simp only [runL, awant_none, astep, evl, put, ap_none, List.length_nil, Nat.add_zero] <;> rfl) ?_))
      refine s_ret ?_
      show _ ∧ _
      exact okE_out rfl (by simp [upd_app]) (by simp []) hs hwf hkp (by rw [permB_not hk hok (.inl h0)]; rfl)
    have d0 : decide (a[k] < 0) = false := decide_eq_false h0
    by_cases h1 : (a.length : Int) ≤ a[k]
    · have d1 : decide (a[k] ≥ (a.length : Int)) = true := decide_eq_true h1
      refine w_assoc (s_run (by simp only [runL, awant_some, List.getElem?_toArray, List.getElem?_cons_succ, List.getElem?_cons_zero, Option.bind_some, b_tf, b_ff, awant_none, astep, evl, put, ap_none, List.length_nil, Nat.add_zero, upd_app, stepBin, abin, stepPick, stepCall, reduceCtorEq, ↓reduceIte, Nat.reduceEqDiff, Bool.false_eq_true, undef, t6, t0, i1, l1, hlen, d0, d1] <;> rfl) ?_)
      refine s_true (by simp [evl]) (w_assoc (s_run (by simp only [runL, awant_none, astep, evl, put, ap_none, List.length_nil, Nat.add_zero] <;> rfl) ?_))
      refine s_ret ?_
      show _ ∧ _
      exact okE_out rfl (by simp [upd_app]) (by simp []) hs hwf hkp (by rw [permB_not hk hok (.inr (.inl h1))]; rfl)
    have d1 : decide (a[k] ≥ (a.length : Int)) = false := decide_eq_false h1
    obtain ⟨y, hy⟩ : ∃ y : Nat, a[k] = (y : Int) := ⟨a[k].toNat, by omega⟩
    have hyl : y < a.length := by omega
    rw [hy] at l1 d0 d1
    have ix := idxI n a.length y a.length hyl
    have lx := ldI b (outL_len a k _) (by rw [outL_len]; exact hyl : y < _)
    have hse : (outL a k (-1))[y]'(by rw [outL_len]; exact hyl) = if (y : Int) ∈ a.take k then ((a.idxOf (y : Int) : Nat) : Int) else -1 := by simp [outL]
    rw [hse] at lx
    by_cases hm : (y : Int) ∈ a.take k
    · rw [if_pos hm] at lx
      have d2 : decide (((a.idxOf (y : Int) : Nat) : Int) ≥ 0) = true := decide_eq_true (by omega)
      refine w_assoc (s_run (by simp only [runL, awant_some, List.getElem?_toArray, List.getElem?_cons_succ, List.getElem?_cons_zero, Option.bind_some, b_ff, awant_none, astep, evl, put, ap_none, List.length_nil, Nat.add_zero, upd_app, stepBin, abin, stepPick, stepCall, reduceCtorEq, ↓reduceIte, Nat.reduceEqDiff, Bool.false_eq_true, t6, t0, t4, i1, l1, hlen, d0, d1, ix, lx, d2] <;> rfl) ?_)
      refine s_true (by simp [evl]) (w_assoc (s_run (by simp only [runL, awant_none, astep, evl, put, ap_none, List.length_nil, Nat.add_zero] <;> rfl) ?_))
      refine s_ret ?_
      show _ ∧ _
      exact okE_out rfl (by simp [upd_app]) (by simp []) hs hwf hkp (by rw [permB_not hk hok (.inr (.inr (by rw [hy]; exact hm)))]; rfl)
    · rw [if_neg hm] at lx
      refine w_assoc (s_run (by simp only [runL, awant_some, List.getElem?_toArray, List.getElem?_cons_succ, List.getElem?_cons_zero, Option.bind_some, b_ff, awant_none, astep, evl, put, ap_none, List.length_nil, Nat.add_zero, upd_app, stepBin, abin, stepPick, stepCall, reduceCtorEq, ↓reduceIte, Nat.reduceEqDiff, Bool.false_eq_true, Int.reduceLE, decide_false, t6, t0, t4, i1, l1, hlen, d0, d1, ix, lx, Int.reduceNeg, ge_iff_le, Int.reduceLE] <;> rfl) ?_)
      refine s_false (by simp [evl]) (s_skip ?_)
      refine w_gen (fun t => t 0 = v ∧ t 4 = .slice (some ⟨n, 0, some a.length⟩) a.length 1 ∧ t 6 = .int .i64 k) (by simp [upd_app, t0, t4, t6]) ?_
      clear t0 t4 t6
      rintro t ⟨t0, t4, t6⟩
      have s1 := stI (x := (k : Int)) b (outL_len a k _) (by rw [outL_len]; exact hyl : y < _)
      rw [out_set' hk hy hyl hm] at s1
      refine region_run (id := 11) (by simp only [runL, awant_none, astep, evl, put, ap_none, ap_wr, List.length_nil, Nat.add_zero, upd_app, reduceCtorEq, ↓reduceIte, Nat.reduceEqDiff, undef, t0, t4, t6, i1, l1, ix, s1] <;> rfl) ?_
      exact ⟨by simp [upd_app, t6], fun _ _ _ => ⟨by simp [upd_app, t0], by simp [upd_app, t4], (okTo_succ hk).2 ⟨hok, by omega, by omega, by rw [hy]; exact hm⟩, by simp [], kp_upd hkp (Nat.le_refl _)⟩⟩
  · clear t0 t4 b hkp
    rintro t g m ⟨t0, t4, hok, b, hkp⟩
    have hp := permB_of hok
    rw [outL_all hp] at b
    have hll := invL_len a
    refine s_run (by simp only [runL, awant_none, astep, evl, put, ap_none, List.length_nil, Nat.add_zero, upd_app, ↓reduceIte, t4] <;> rfl) ?_
    exact w_ret (okE_some (k := n) rfl (by simp [upd_app, hll]) (by simp []) (Nat.le_refl _) b hs hwf hkp (by rw [hp]; rfl))

set_option maxRecDepth 10000 in
theorem ris_spec (v : Value) (a : List Int) (g : Heap) (hl : a.length ≤ 2 ^ 38) (hv : Src g v 1 a.length (intsI a)) : FnSpec Try.prog 8 [v] g { v := .bool (permB a), r := srcBlk v } := by
  refine spec_of_body [2] follows Try.func8 rfl (by kernel_rfl) (by simp [Try.f8]) (by kernel_rfl) rfl ?_
  intro g2 s2 n hg hfr hs hn hwf hsv
  have hv2 : Src g2 v 1 a.length (intsI a) := hv.congr fun i hi => hg i (by simp [Eff.fp, hi])
  have hvd : ∀ i ∈ srcBlk v, i < n := dom_of hs hwf hv2
  clear hg hfr hn hv
  have hcall := rinverse_spec v a g2 n hl hv2
  refine s_run (by simp only [runL, awant_none, astep, evl, put, ap_none, List.length_nil, Nat.add_zero, undef] <;> rfl) ?_
  refine s_take 1 (by simp only [runL, Option.getD_some, List.getElem?_cons_zero, List.take_succ_cons, List.take_zero, awant_none, astep, evl, put, ap_none, List.length_nil, Nat.add_zero, upd_app, reduceCtorEq, ↓reduceIte] <;> rfl) ?_
  refine ops_call 22 _ rfl hcall (fun _ => okE_j _ _ _) ?_
  refine ops_heap fun G1 hG1 => ?_
  have k1 : Kp n g2 G1 := by rw [hG1]; exact kp_ap (Kp.refl _ _) (okE_w _ _ _) (fun _ => by rw [okE_j]; exact Nat.le_refl _)
  clear hG1
  cases hp : permB a with
  | true =>
    refine ops_run (by simp only [runL, List.getElem?_toArray, List.getElem?_cons_succ, List.getElem?_cons_zero, awant_none, astep, evl, put, ap_none, List.length_nil, List.length_cons, Nat.add_zero, Nat.zero_add, upd_app, stepExtract, ↓reduceIte, Nat.reduceEqDiff, okE] <;> rfl) ?_
    refine s_run (by simp only [runL, awant_none, astep, evl, put, ap_none, List.length_nil, Nat.add_zero, upd_app, ↓reduceIte] <;> rfl) ?_
    refine w_ret ⟨.inr rfl, by simp, [], fin_plain hs hwf k1 (by simp [resVal]) trivial⟩
  | false =>
    refine ops_run (by simp only [runL, List.getElem?_toArray, List.getElem?_cons_succ, List.getElem?_cons_zero, awant_none, astep, evl, put, ap_none, List.length_nil, Nat.add_zero, upd_app, stepExtract, ↓reduceIte, Nat.reduceEqDiff, Bool.false_eq_true, okE] <;> rfl) ?_
    refine s_run (by simp only [runL, awant_none, astep, evl, put, ap_none, List.length_nil, Nat.add_zero, upd_app, ↓reduceIte] <;> rfl) ?_
    refine w_ret ⟨.inr rfl, by simp, [], fin_plain hs hwf k1 (by simp [resVal]) trivial⟩

end Go.Proofs.Ytdpkhijbikbhnaa
