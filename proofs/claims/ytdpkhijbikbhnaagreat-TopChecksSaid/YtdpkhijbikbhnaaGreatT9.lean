import Derived.Test.YtdpkhijbikbhnaaGreatT8
namespace Go.Proofs.YtdpkhijbikbhnaaGreat
open Go Abs Plain
set_option linter.unusedSimpArgs false
set_option linter.unusedVariables false

def lcpOK (s : List Nat) (a h : List Int) : Bool := saB s a && decide (zs (lcpL s (nats a)) = h)
theorem lcpB_of {s : List Nat} {a : List Int} (h : saB s a = true) : lcpB s a = some (zs (lcpL s (nats a))) := by
  simp only [saB, Bool.and_eq_true, decide_eq_true_eq] at h
  rw [lcpB, if_pos ⟨h.1, h.2.1⟩]

set_option maxRecDepth 10000 in
theorem clcp_spec (v w u : Value) (s : List Nat) (a h : List Int) (g : Heap) (hl : s.length ≤ 2 ^ 38) (hla : a.length ≤ 2 ^ 38) (hlh : h.length ≤ 2 ^ 38) (hv : Src g v 1 s.length (bs s)) (hw : Src g w 1 a.length (intsI a)) (hu : Src g u 1 h.length (intsI h)) :
    FnSpec Tryz.prog 6 [v, w, u] g { v := .bool (lcpOK s a h), r := srcBlk v ++ srcBlk w ++ srcBlk u } := by
  refine spec_of_body [6] follows Tryz.func6 rfl (by kernel_rfl) (by simp [Tryz.f6]) (by kernel_rfl) rfl ?_
  intro g2 s2 n hg hfr hs hn hwf hsv
  have hv2 : Src g2 v 1 s.length (bs s) := hv.congr fun i hi => hg i (by simp [Eff.fp, hi])
  have hvd : ∀ i ∈ srcBlk v, i < n := dom_of hs hwf hv2
  have hw2 : Src g2 w 1 a.length (intsI a) := hw.congr fun i hi => hg i (by simp [Eff.fp, hi])
  have hwd : ∀ i ∈ srcBlk w, i < n := dom_of hs hwf hw2
  have hu2 : Src g2 u 1 h.length (intsI h) := hu.congr fun i hi => hg i (by simp [Eff.fp, hi])
  have hud : ∀ i ∈ srcBlk u, i < n := dom_of hs hwf hu2
  clear hg hfr hn hv hw hu
  refine s_run (by simp only [runL, awant_none, astep, evl, put, ap_none, List.length_nil, Nat.add_zero, undef] <;> rfl) ?_
  have hcall := lcp_spec v w s a g2 n hl hla hv2 hw2
  refine s_take 2 (by simp only [runL, Option.getD_some, List.getElem?_cons_succ, List.getElem?_cons_zero, List.take_succ_cons, List.take_zero, awant_none, astep, evl, put, ap_none, List.length_nil, Nat.add_zero, upd_app, reduceCtorEq, ↓reduceIte, Nat.reduceEqDiff] <;> rfl) ?_
  refine ops_call 12 _ rfl hcall (fun _ => okE_j _ _ _) ?_
  refine ops_heap fun G1 hG1 => ?_
  have k1 : Kp n g2 G1 := by rw [hG1]; exact kp_ap (Kp.refl _ _) (okE_w _ _ _) (fun _ => by rw [okE_j]; exact Nat.le_refl _)
  have hsa := sa_spec v w s a G1 hl hla (k1.src hv2 hvd) (k1.src hw2 hwd)
  by_cases hB : saB s a = true
  · have hO := lcpB_of hB
    rw [hO] at hG1 ⊢
    have b1 : G1 n = some ⟨false, 3, intsI (zs (lcpL s (nats a)))⟩ := by rw [hG1]; simp only [okE, ap_new]; simp []
    refine ops_run (by simp only [runL, List.getElem?_toArray, List.getElem?_cons_succ, List.getElem?_cons_zero, awant_none, astep, evl, put, ap_none, List.length_nil, List.length_cons, Nat.add_zero, Nat.zero_add, upd_app, stepExtract, ↓reduceIte, Nat.reduceEqDiff, okE] <;> rfl) ?_
    refine w_gen (fun t => t 0 = v ∧ t 1 = w ∧ t 2 = u ∧ t 7 = .slice (some ⟨n, 0, some (zs (lcpL s (nats a))).length⟩) (zs (lcpL s (nats a))).length 1) (by simp [upd_app]) ?_
    rintro t ⟨t0, t1, t2, t7⟩
    have hlen : (zs (lcpL s (nats a))).length = a.length := by simp [zs, lcpL_len, nats_len]
    have heq := equal_spec _ u (zs (lcpL s (nats a))) h G1 (by omega) (by omega) (src_intsI' b1 rfl) (k1.src hu2 hud)
    refine s_take 2 (by simp only [runL, List.take_succ_cons, List.take_zero, awant_none, astep, evl, put, ap_none, List.length_nil, Nat.add_zero, upd_app, ↓reduceIte, Nat.reduceEqDiff, t0, t1] <;> rfl) ?_
    refine ops_call 4 _ rfl (by simp only [upd_app, evl, List.map_cons, List.map_nil]; exact hsa) (fun h => (h rfl).elim) ?_
    rw [hB]
    refine ops_take 3 (by simp only [runL, awant_some, List.getElem?_toArray, List.getElem?_cons_succ, List.getElem?_cons_zero, Option.bind_some, b_tt, List.take_succ_cons, List.take_zero, awant_none, astep, evl, put, ap_none, List.length_nil, Nat.add_zero, upd_app, ↓reduceIte, Nat.reduceEqDiff, t2, t7] <;> rfl) ?_
    refine g_call 13 _ (by simp only [awant_some, List.getElem?_toArray, List.getElem?_cons_succ, List.getElem?_cons_zero, Option.bind_some, b_tt, upd_app, ↓reduceIte, Nat.reduceEqDiff] <;> rfl) rfl (by simp only [upd_app, evl, List.map_cons, List.map_nil]; exact heq) (fun h => (h rfl).elim) ?_
    refine ops_run (by simp only [runL, awant_none, astep, evl, put, ap_none, List.length_nil, Nat.add_zero, upd_app, stepPick, ↓reduceIte, Nat.reduceEqDiff] <;> rfl) ?_
    refine w_ret ⟨.inr rfl, by simp, [], fin_plain hs hwf k1 (by simp [resVal, lcpOK, hB]) trivial⟩
  · have hB' : saB s a = false := by simpa using hB
    have fin : ∀ t : Nat → Value, t 0 = v → t 1 = w → ∀ N, awp Tryz.prog (cr (cr (Tryz.f6.body.getD .skip))) (fun e t' g' _ => (e = .normal ∨ e = .ret) ∧ ([6].length ≠ 1 → ∀ r ∈ [6], isTup (t' r) = false) ∧ ∃ ids, Abs.Fin { v := .bool (lcpOK s a h), r := srcBlk v ++ srcBlk w ++ srcBlk u } ids s2 g2 n g' (resVal [6] t')) t G1 N := by
      intro t t0 t1 N
      show awp _ (.seq (.region _ _ _) .ret) _ _ _ _
      refine s_take 2 (by simp only [runL, List.take_succ_cons, List.take_zero, awant_none, astep, evl, put, ap_none, List.length_nil, Nat.add_zero, upd_app, ↓reduceIte, Nat.reduceEqDiff, t0, t1] <;> rfl) ?_
      refine ops_call 4 _ rfl (by simp only [upd_app, evl, List.map_cons, List.map_nil]; exact hsa) (fun h => (h rfl).elim) ?_
      rw [hB']
      refine ops_run (by simp only [runL, awant_some, List.getElem?_toArray, List.getElem?_cons_succ, List.getElem?_cons_zero, Option.bind_some, b_ft, awant_none, astep, evl, put, ap_none, List.length_nil, Nat.add_zero, upd_app, stepPick, ↓reduceIte, Nat.reduceEqDiff, Bool.false_eq_true, undef] <;> rfl) ?_
      refine w_ret ⟨.inr rfl, by simp, [], fin_plain hs hwf k1 (by simp [resVal, lcpOK, hB']) trivial⟩
    cases hO : lcpB s a with
    | none =>
      refine ops_run (by simp only [runL, List.getElem?_toArray, List.getElem?_cons_succ, List.getElem?_cons_zero, awant_none, astep, evl, put, ap_none, List.length_nil, Nat.add_zero, upd_app, stepExtract, ↓reduceIte, Nat.reduceEqDiff, okE] <;> rfl) ?_
      exact fin _ (by simp [upd_app]) (by simp [upd_app]) _
    | some l =>
      refine ops_run (by simp only [runL, List.getElem?_toArray, List.getElem?_cons_succ, List.getElem?_cons_zero, awant_none, astep, evl, put, ap_none, List.length_nil, List.length_cons, Nat.add_zero, Nat.zero_add, upd_app, stepExtract, ↓reduceIte, Nat.reduceEqDiff, okE] <;> rfl) ?_
      exact fin _ (by simp [upd_app]) (by simp [upd_app]) _

-- the document's
set_option maxRecDepth 10000 in
theorem numbers_spec (v : Value) (l : List Nat) (g : Heap) (j : Nat) (hl : l.length ≤ 2 ^ 38) (hb : ∀ x ∈ l, x < 256) (hv : Src g v 1 l.length (bs l)) : FnSpec Tryz.prog 18 [v] g (newE 3 (ints l) (srcBlk v) j) := by
  refine spec_of_body [2] follows Tryz.func18 rfl (by kernel_rfl) (by simp [Tryz.f18]) (by kernel_rfl) rfl ?_
  intro g2 s2 n hg hfr hs hn hwf hsv
  have hv2 : Src g2 v 1 l.length (bs l) := hv.congr fun i hi => hg i (by rw [newE_fp]; exact hi)
  have hvd := dom_of hs hwf hv2
  have hlen := hv2.len Tryz.underlying22
  clear hg hfr hn hv
  refine s_run (by simp only [runL, awant_none, astep, evl, put, ap_none, List.length_nil, Nat.add_zero, undef] <;> rfl) ?_
  refine s_run (by simp only [runL, awant_none, astep, evl, put, ap_none, List.length_nil, Nat.add_zero] <;> rfl) ?_
  refine w_assoc (s_run (by simp only [runL, awant_none, astep, evl, put, ap_none, List.length_nil, Nat.add_zero] <;> rfl) ?_)
  refine s_for 0 l.length (fun k t g n' => t 0 = v ∧ Own 3 g (t 3) (ints (l.take k)) n n' ∧ Kp n g2 g ∧ n ≤ n') (by omega) (by omega) (by simp []) ⟨by simp [upd_app], by simp [upd_app]; exact Own.nil _ _ _ _, Kp.refl _ _, Nat.le_refl _⟩ ?_ ?_ ?_
  · rintro k t g m hk t4 ⟨t0, hO, hkp, hnn⟩
    have dl : decide ((k : Int) < (l.length : Int)) = decide (k < l.length) := by simp
    exact ⟨_, (by simp only [runL, awant_none, astep, evl, put, ap_none, List.length_nil, Nat.add_zero, upd_app, stepBin, abin, stepCall, reduceCtorEq, ↓reduceIte, Nat.reduceEqDiff, t4, t0, hlen, dl] <;> rfl), by simp [], by simp [upd_app, t4], by simp [upd_app, t0], by simpa [upd_app] using hO, hkp, hnn⟩
  · rintro k t g m hk t4 ⟨t0, hO, hkp, hnn⟩
    obtain ⟨p, i1, l1, _⟩ := srcB (hkp.src hv2 hvd) hk
    have hbk := byt_lt hb k
    have w1 : IntKind.i64.wrap ((byt l k : Nat) : Int) = ((byt l k : Nat) : Int) := wrap_nat (by omega)
    obtain ⟨f, hf, hO', hk'⟩ := hO.push (P := Tryz.prog) (T := 23) (c := .int .i64 (byt l k : Nat)) Tryz.underlying23 tinf3 (by simp; omega) (by omega) hnn
    refine region_run (id := 5) (by simp only [runL, awant_none, astep, evl, put, ap_none, ap_new, List.length_nil, List.length_cons, Nat.add_zero, Nat.zero_add, upd_app, stepCall, reduceCtorEq, ↓reduceIte, Nat.reduceEqDiff, List.map_cons, List.map_nil, undef, t0, t4, i1, l1, conv5_3, w1, litI_1, hf] <;> rfl) ?_
    refine ⟨by simp [upd_app, t4], fun _ _ _ => ⟨by simp [upd_app, t0], ?_, fun q hq => by rw [hk' q (by omega)]; exact hkp q hq, by omega⟩⟩
    have e : ints (l.take (k + 1)) = ints (l.take k) ++ [.int .i64 (byt l k : Nat)] := by rw [List.take_succ_eq_append_getElem hk, byt_eq hk]; exact (ints_app _ _).symm
    rw [e]
    simpa [upd_app] using hO'
  · rintro t g m ⟨t0, hO, hkp, hnn⟩
    rw [List.take_length] at hO
    refine s_run (by simp only [runL, awant_none, astep, evl, put, ap_none, List.length_nil, Nat.add_zero, upd_app, ↓reduceIte] <;> rfl) ?_
    refine w_ret ⟨.inr rfl, by simp, ?_⟩
    have := hO.fin (r := srcBlk v) (j := j) (plain_is _) hs hwf hkp
    simpa [resVal, upd_app] using this

def wcmp (a b : List Nat) : Int := if lx a b = true then -1 else if lx b a = true then 1 else 0
theorem lx_take : ∀ {a b : List Nat} {k : Nat}, a.take k = b.take k → k ≤ a.length → k ≤ b.length → lx a b = lx (a.drop k) (b.drop k)
  | a, b, 0, _, _, _ => by simp
  | x :: a, y :: b, k + 1, h, h1, h2 => by
    simp only [List.take_succ_cons, List.cons.injEq] at h
    obtain ⟨rfl, h⟩ := h
    simp only [List.length_cons] at h1 h2
    rw [lx, if_neg (by omega), if_neg (by omega), lx_take h (by omega) (by omega)]
    simp
theorem lx_less {a b : List Nat} {k : Nat} (h : a.take k = b.take k) (h1 : k < a.length) (h2 : k < b.length) (hlt : byt a k < byt b k) : lx a b = true ∧ lx b a = false := by
  have : lx a b = true := by rw [lx_take h (by omega) (by omega), drop_nth h1, drop_nth h2, lx, if_pos (by rw [nth_byt, nth_byt]; exact hlt)]
  exact ⟨this, lx_asym this⟩
theorem wcmp_lt {a b : List Nat} (h : lx a b = true) : wcmp a b = -1 := if_pos h
theorem wcmp_gt {a b : List Nat} (h : lx b a = true) : wcmp a b = 1 := by rw [wcmp, lx_asym h]; simp [h]
theorem wcmp_neg (a b : List Nat) : decide (wcmp a b < 0) = lx a b := by
  unfold wcmp
  cases h : lx a b <;> simp
  split <;> simp
theorem wcmp_end {a b : List Nat} (h : a.take (min a.length b.length) = b.take (min a.length b.length)) : wcmp a b = if a.length < b.length then -1 else if b.length < a.length then 1 else 0 := by
  have e1 := lx_take h (by omega) (by omega)
  have e2 := lx_take h.symm (by omega) (by omega)
  unfold wcmp
  rw [e1, e2]
  by_cases h1 : a.length < b.length
  · rw [if_pos h1, List.drop_eq_nil_of_le (by omega), drop_nth (by omega)]; simp [lx]
  · rw [if_neg h1]
    have hb : b.drop (min a.length b.length) = [] := List.drop_eq_nil_of_le (by omega)
    by_cases h2 : b.length < a.length
    · rw [if_pos h2, hb, drop_nth (show min a.length b.length < a.length by omega)]; simp [lx]
    · have ha : a.drop (min a.length b.length) = [] := List.drop_eq_nil_of_le (by omega)
      rw [if_neg h2, hb, ha]; simp [lx]

set_option maxRecDepth 10000 in
theorem words_spec (v w : Value) (a b : List Nat) (g : Heap) (hl : a.length ≤ 2 ^ 38) (hm : b.length ≤ 2 ^ 38) (hv : Src g v 1 a.length (ints a)) (hw : Src g w 1 b.length (ints b)) :
    FnSpec Tryz.prog 26 [v, w] g { v := .int .i64 (wcmp a b), r := srcBlk v ++ srcBlk w } := by
  refine spec_of_body [4] follows Tryz.func26 rfl (by kernel_rfl) (by simp [Tryz.f26]) (by kernel_rfl) rfl ?_
  intro g2 s2 n hg hfr hs hn hwf hsv
  have hv2 : Src g2 v 1 a.length (ints a) := hv.congr fun i hi => hg i (by simp [Eff.fp, hi])
  have hvd : ∀ i ∈ srcBlk v, i < n := dom_of hs hwf hv2
  have hw2 : Src g2 w 1 b.length (ints b) := hw.congr fun i hi => hg i (by simp [Eff.fp, hi])
  have hwd : ∀ i ∈ srcBlk w, i < n := dom_of hs hwf hw2
  have hlv := hv2.len Tryz.underlying23
  have hlw := hw2.len Tryz.underlying23
  clear hg hfr hn hv hw
  refine s_run (by simp only [runL, awant_none, astep, evl, put, ap_none, List.length_nil, Nat.add_zero, undef] <;> rfl) ?_
  refine w_assoc (s_run (by simp only [runL, awant_none, astep, evl, put, ap_none, List.length_nil, Nat.add_zero] <;> rfl) ?_)
  refine s_for 0 (min a.length b.length) (fun k t g n' => t 0 = v ∧ t 1 = w ∧ a.take k = b.take k ∧ g2 = g) (by omega) (by omega) (by simp []) ⟨by simp [upd_app], by simp [upd_app], by simp, rfl⟩ ?_ ?_ ?_
  · rintro k t g m hk t5 ⟨t0, t1, heq, hgg⟩
    by_cases h : k < a.length
    · have d1 : decide ((k : Int) < (a.length : Int)) = true := decide_eq_true (by omega)
      have d2 : decide ((k : Int) < (b.length : Int)) = decide (k < min a.length b.length) := by
        by_cases h : k < b.length
        · rw [decide_eq_true (by omega), decide_eq_true (by omega)]
        · rw [decide_eq_false (by omega), decide_eq_false (by omega)]
      exact ⟨_, (by simp only [runL, awant_some, List.getElem?_toArray, List.getElem?_cons_succ, List.getElem?_cons_zero, Option.bind_some, b_tt, awant_none, astep, evl, put, ap_none, List.length_nil, Nat.add_zero, upd_app, stepBin, abin, stepPick, stepCall, reduceCtorEq, ↓reduceIte, Nat.reduceEqDiff, t5, t0, t1, hlv, hlw, d1, d2] <;> rfl), by simp [], by simp [upd_app, t5], by simp [upd_app, t0], by simp [upd_app, t1], heq, hgg⟩
    · have d1 : decide ((k : Int) < (a.length : Int)) = false := decide_eq_false (by omega)
      have d2 : decide (k < min a.length b.length) = false := decide_eq_false (by omega)
      exact ⟨_, (by simp only [runL, awant_some, List.getElem?_toArray, List.getElem?_cons_succ, List.getElem?_cons_zero, Option.bind_some, b_ft, awant_none, astep, evl, put, ap_none, List.length_nil, Nat.add_zero, upd_app, stepBin, abin, stepPick, stepCall, reduceCtorEq, ↓reduceIte, Nat.reduceEqDiff, Bool.false_eq_true, undef, t5, t0, hlv, d1] <;> rfl), by rw [d2]; simp [], by simp [upd_app, t5], by simp [upd_app, t0], by simp [upd_app, t1], heq, hgg⟩
  · rintro k t g m hk t5 ⟨t0, t1, heq, hgg⟩
    subst hgg
    have hka : k < a.length := by omega
    have hkb : k < b.length := by omega
    obtain ⟨p, i1, l1, _⟩ := srcN hv2 hka
    obtain ⟨q, i2, l2, _⟩ := srcN hw2 hkb
    by_cases c1 : byt a k < byt b k
    · have d1 : decide (((byt a k : Nat) : Int) < ((byt b k : Nat) : Int)) = true := decide_eq_true (by omega)
      refine w_assoc (s_draw #[0, 0, 3, 7, 0, 0, 48, 112, 255] (by decide +kernel) (by simp only [runR, awant_none, astep, evl, put, upd_app, stepBin, abin, ↓reduceIte, Nat.reduceEqDiff, List.isEmpty_nil, Bool.and_self, t0, t1, t5, i1, l1, i2, l2, d1] <;> rfl) ?_)
      refine s_true (by simp [evl]) (w_assoc (s_run (by simp only [runL, awant_none, astep, evl, put, ap_none, List.length_nil, Nat.add_zero] <;> rfl) ?_))
      refine s_ret ?_
      show _ ∧ _
      exact ⟨.inr rfl, by simp, [], fin_none (by simp [resVal, wcmp_lt (lx_less heq hka hkb c1).1]) trivial (fun _ _ h => h)⟩
    have d1 : decide (((byt a k : Nat) : Int) < ((byt b k : Nat) : Int)) = false := decide_eq_false (by omega)
    refine w_assoc (s_draw #[0, 0, 3, 7, 0, 0, 48, 112, 255] (by decide +kernel) (by simp only [runR, awant_none, astep, evl, put, upd_app, stepBin, abin, ↓reduceIte, Nat.reduceEqDiff, List.isEmpty_nil, Bool.and_self, t0, t1, t5, i1, l1, i2, l2, d1] <;> rfl) ?_)
    refine s_false (by simp [evl]) (s_skip ?_)
    refine w_gen (fun t => t 0 = v ∧ t 1 = w ∧ t 5 = .int .i64 k) (by simp [upd_app, t0, t1, t5]) ?_
    clear t0 t1 t5
    rintro t ⟨t0, t1, t5⟩
    by_cases c2 : byt b k < byt a k
    · have d2 : decide (((byt a k : Nat) : Int) > ((byt b k : Nat) : Int)) = true := decide_eq_true (by omega)
      refine s_draw #[0, 0, 3, 7, 0, 0, 48, 112, 255] (by decide +kernel) (by simp only [runR, awant_none, astep, evl, put, upd_app, stepBin, abin, ↓reduceIte, Nat.reduceEqDiff, List.isEmpty_nil, Bool.and_self, t0, t1, t5, i1, l1, i2, l2, d2] <;> rfl) ?_
      refine w_true (by simp [evl]) (s_run (by simp only [runL, awant_none, astep, evl, put, ap_none, List.length_nil, Nat.add_zero] <;> rfl) ?_)
      refine w_ret ?_
      show _ ∧ _
      exact ⟨.inr rfl, by simp, [], fin_none (by simp [resVal, wcmp_gt (lx_less heq.symm hkb hka c2).1]) trivial (fun _ _ h => h)⟩
    · have d2 : decide (((byt a k : Nat) : Int) > ((byt b k : Nat) : Int)) = false := decide_eq_false (by omega)
      refine s_draw #[0, 0, 3, 7, 0, 0, 48, 112, 255] (by decide +kernel) (by simp only [runR, awant_none, astep, evl, put, upd_app, stepBin, abin, ↓reduceIte, Nat.reduceEqDiff, List.isEmpty_nil, Bool.and_self, t0, t1, t5, i1, l1, i2, l2, d2] <;> rfl) ?_
      refine w_false (by simp [evl]) (w_skip ?_)
      simp only [rngPost]
      refine ⟨by simp [upd_app, t5], fun _ _ _ => ⟨by simp [upd_app, t0], by simp [upd_app, t1], ?_, trivial⟩⟩
      rw [List.take_succ_eq_append_getElem hka, List.take_succ_eq_append_getElem hkb, heq, ← byt_eq hka, ← byt_eq hkb, show byt a k = byt b k by omega]
  · rintro t g m ⟨t0, t1, heq, hgg⟩
    subst hgg
    have hE := wcmp_end heq
    have fin : ∀ (t : Nat → Value), t 4 = .int .i64 (wcmp a b) → (Exit.ret = .normal ∨ Exit.ret = .ret) ∧ ([4].length ≠ 1 → ∀ r ∈ [4], isTup (t r) = false) ∧ ∃ ids, Abs.Fin { v := .int .i64 (wcmp a b), r := srcBlk v ++ srcBlk w } ids s2 g2 n g2 (resVal [4] t) := fun t h => ⟨.inr rfl, by simp, [], fin_none (by simp [resVal, h]) trivial (fun _ _ h => h)⟩
    by_cases h1 : a.length < b.length
    · have d1 : decide ((a.length : Int) < (b.length : Int)) = true := decide_eq_true (by omega)
      rw [if_pos h1] at hE
      refine w_seq (w_block (s_run (by simp only [runL, awant_none, astep, evl, put, ap_none, List.length_nil, Nat.add_zero, upd_app, stepBin, abin, stepCall, ↓reduceIte, Nat.reduceEqDiff, t0, t1, hlv, hlw, d1] <;> rfl) ?_))
      refine w_true (by simp [evl]) (s_run (by simp only [runL, awant_none, astep, evl, put, ap_none, List.length_nil, Nat.add_zero] <;> rfl) (w_ret ?_))
      show _ ∧ _
      exact fin _ (by simp [hE])
    have d1 : decide ((a.length : Int) < (b.length : Int)) = false := decide_eq_false (by omega)
    rw [if_neg h1] at hE
    refine w_seq (w_block (s_run (by simp only [runL, awant_none, astep, evl, put, ap_none, List.length_nil, Nat.add_zero, upd_app, stepBin, abin, stepCall, ↓reduceIte, Nat.reduceEqDiff, t0, t1, hlv, hlw, d1] <;> rfl) ?_))
    by_cases h2 : b.length < a.length
    · have d2 : decide ((a.length : Int) > (b.length : Int)) = true := decide_eq_true (by omega)
      rw [if_pos h2] at hE
      refine w_false (by simp [evl]) (s_run (by simp only [runL, awant_none, astep, evl, put, ap_none, List.length_nil, Nat.add_zero, upd_app, stepBin, abin, stepCall, reduceCtorEq, ↓reduceIte, Nat.reduceEqDiff, t0, t1, hlv, hlw, d2] <;> rfl) ?_)
      refine w_true (by simp [evl]) (s_run (by simp only [runL, awant_none, astep, evl, put, ap_none, List.length_nil, Nat.add_zero] <;> rfl) (w_ret ?_))
      show _ ∧ _
      exact fin _ (by simp [hE])
    · have d2 : decide ((a.length : Int) > (b.length : Int)) = false := decide_eq_false (by omega)
      rw [if_neg h2] at hE
      refine w_false (by simp [evl]) (s_run (by simp only [runL, awant_none, astep, evl, put, ap_none, List.length_nil, Nat.add_zero, upd_app, stepBin, abin, stepCall, reduceCtorEq, ↓reduceIte, Nat.reduceEqDiff, t0, t1, hlv, hlw, d2] <;> rfl) ?_)
      refine w_false (by simp [evl]) (w_skip ?_)
      show awp _ (.seq (.region _ _ _) .ret) _ _ _ _
      refine s_run (by simp only [runL, awant_none, astep, evl, put, ap_none, List.length_nil, Nat.add_zero] <;> rfl) (w_ret ?_)
      show _ ∧ _
      exact fin _ (by simp [hE])
end Go.Proofs.YtdpkhijbikbhnaaGreat
