import Derived.Test.YtahinegnblankaaP58
namespace Go.Proofs.Ytahinegnblankaa
open Go Abs
set_option linter.unusedSimpArgs false
set_option linter.unusedVariables false

theorem rnewRdE_v' (v : Value) (l : List Nat) (j : Nat) : (rnewRdE v l j).v = .tuple #[ptr4 j, .bool true] := rfl
theorem rnewRdE_ap' {v : Value} {l : List Nat} {j : Nat} {g : Heap} (hv : Src g v 1 l.length (bs l)) (hj : ∀ i ∈ srcBlk v, i < j) : Rd 70 j v l 4 (be (l.take 4)) 4294967295 ((rnewRdE v l j).ap g) := by
  refine ⟨by simp [rnewRdE, Eff.ap, setAll, addAll], hv.congr fun i hi => ?_, fun h => by have := hj _ h; omega⟩
  have := hj i hi
  simp [rnewRdE, Eff.ap, setAll, addAll, upd_app, show i ≠ j by omega]
theorem newE_Own {e : TypeId} {cs : List Value} {r : List Nat} {j n : Nat} (G : Heap) (h : n ≤ j) : Own e ((newE e cs r j).ap G) (newE e cs r j).v cs n (j + (newE e cs r j).a.length) := by
  unfold newE
  split
  · rename_i h
    have : cs = [] := List.eq_nil_of_length_eq_zero h
    subst this
    exact Own.nil _ _ _ _
  · rename_i h0
    exact ⟨some j, .inr ⟨j, rfl, rfl, by simp [ap_new], by simp⟩, fun q hq => by cases hq; exact ⟨h, by simp, h0⟩⟩

set_option maxRecDepth 10000 in
/-- A round of the document's reading. -/
theorem rsym_round {Q : AQ} {p A B o m : Nat} {bv lv : Value} {F pre : List Nat} {d : DS} {t : Nat → Value} {g : Heap} {n' : Nat} (t1 : t 1 = .int .i64 o) (t2 : t 2 = .int .i64 m) (t8 : t 8 = ptr4 p) (t10 : t 10 = .slice (some ⟨A + 6, 0, some 3⟩) 3 1) (t11 : t 11 = lv) (t12 : t 12 = .int .i64 (d.last : Nat)) (ho : o ≤ 1) (hm : m ≤ 100000) (hF : ∀ x ∈ F, x < 256) (hFl : F.length ≤ 2 ^ 38) (hO : Own 3 g lv (ints pre) B n') (hR : Rd 70 p bv F d.u d.c d.r g) (hMs : Rs A d.ms g) (hDG : DG F d) (hpl : pre.length ≤ 2 ^ 38) (hpA : p < A) (hAB : A + 7 ≤ B) (hBn : B ≤ n')
    (hret : (dsB o F.length d = false ∨ 2 * m + 2 < pre.length) → ∀ (t' : Nat → Value) (g' : Heap), t' 6 = .slice none 0 0 → t' 7 = .bool false → (∀ q, q ≠ p → g' q = g q) → Q .ret t' g' n')
    (hgo : dsB o F.length d = true → pre.length ≤ 2 * m + 2 → ∀ (t' : Nat → Value) (g' : Heap) (n'' : Nat), t' 0 = t 0 → t' 1 = .int .i64 o → t' 2 = .int .i64 m → t' 8 = ptr4 p → t' 10 = .slice (some ⟨A + 6, 0, some 3⟩) 3 1 → t' 12 = .int .i64 (dsx o d : Nat) → n' ≤ n'' → Own 3 g' (t' 11) (ints (pre ++ [dsx o d])) B n'' → Rd 70 p bv F (dsN o F d).u (dsN o F d).c (dsN o F d).r g' → Rs A (dsN o F d).ms g' → (∀ q, q < B → q ≠ p → (q < A ∨ A + 7 ≤ q) → g' q = g q) → Q .normal t' g' n'') (hbv : ∀ i ∈ srcBlk bv, i < A) :
    awp Try.prog (Try.f63.body.getD .skip |> cr |> cr |> cr |> cr |> cr |> cr |> cl |> cb |> cb |> cr |> cb) Q t g n' := by
  show awp Try.prog (.seq (.region _ _ _) _) Q t g n'
  obtain ⟨v0, t0⟩ : ∃ v0, t 0 = v0 := ⟨_, rfl⟩
  rw [t0] at hgo
  have hw := whN_lt (s := d.last) ho
  have hRo := hMs.ro _ hw
  have hGd := hDG.g (whN o d.last)
  have hcl := hDG.l (whN o d.last)
  have hsum := hGd.sum
  have htot := rtotal_spec _ _ (d.ms (whN o d.last)) g hRo (by omega) (by omega)
  have hld2 := hMs.ldm hw
  have hix2 := idx96 (A + 6) (whN o d.last) hw
  have hs0 : 0 < (d.ms (whN o d.last)).sum := by
    have := good_span hGd (x := 0) (by omega)
    omega
  have hfd := rcfind_spec p _ F d.u d.c d.r ((d.ms (whN o d.last)).sum : Nat) g hR hDG.r1 hDG.r2 (by have := hDG.c; omega)
  refine s_take 3 (by simp only [runL, List.take_succ_cons, List.take_zero, awant_none, astep, evl, put, ap_none, List.length_nil, Nat.add_zero, upd_app, ↓reduceIte, Nat.reduceEqDiff, t1, t10, t12] <;> rfl) ?_
  refine ops_call 85 _ rfl (which_spec o d.last g ho) (by simp) ?_
  refine ops_run (by simp only [runL, awant_none, astep, evl, put, ap_none, List.length_nil, Nat.add_zero, upd_app, ↓reduceIte, Nat.reduceEqDiff, hix2, hld2] <;> rfl) ?_
  refine w_gen (fun t => t 0 = v0 ∧ t 1 = .int .i64 o ∧ t 2 = .int .i64 m ∧ t 8 = ptr4 p ∧ t 10 = .slice (some ⟨A + 6, 0, some 3⟩) 3 1 ∧ t 11 = lv ∧ t 13 = ptr1 (A + 2 * whN o d.last)) (by simp [upd_app, t0, t1, t2, t8, t10, t11]) ?_
  clear t0 t1 t2 t8 t10 t11 t12
  rintro t ⟨t0, t1, t2, t8, t10, t11, t13⟩
  refine s_take 2 (by simp only [runL, List.take_succ_cons, List.take_zero, awant_none, astep, evl, put, ap_none, List.length_nil, Nat.add_zero, upd_app, ↓reduceIte, Nat.reduceEqDiff, t8, t13] <;> rfl) ?_
  refine ops_call 46 _ rfl htot (by simp) ?_
  refine ops_take 0 rfl ?_
  refine ops_call 55 _ rfl hfd (by simp) ?_
  refine ops_run (by simp only [runL, List.getElem?_toArray, List.getElem?_cons_succ, List.getElem?_cons_zero, awant_none, astep, evl, put, ap_none, List.length_nil, Nat.add_zero, upd_app, stepExtract, ↓reduceIte, Nat.reduceEqDiff] <;> rfl) ?_
  obtain ⟨q, hq, hqv⟩ : ∃ q : Nat, q < (d.ms (whN o d.last)).sum ∧ cfA d.c d.r ((d.ms (whN o d.last)).sum : Nat) = (q : Int) ∧ (cfB d.c d.r ((d.ms (whN o d.last)).sum : Nat) = true → find (d.ms (whN o d.last)) q = dsx o d) := by
    cases hB : cfB d.c d.r ((d.ms (whN o d.last)).sum : Nat) with
    | true => exact ⟨_, dq_lt hDG hB, by unfold cfA; rw [if_pos hB, Int.toNat_natCast], fun _ => rfl⟩
    | false => exact ⟨0, hs0, by unfold cfA; rw [hB]; rfl, by simp⟩
  rw [hqv.1]
  refine w_gen (fun t => t 0 = v0 ∧ t 1 = .int .i64 o ∧ t 2 = .int .i64 m ∧ t 8 = ptr4 p ∧ t 10 = .slice (some ⟨A + 6, 0, some 3⟩) 3 1 ∧ t 11 = lv ∧ t 13 = ptr1 (A + 2 * whN o d.last) ∧ t 14 = .int .i64 q ∧ t 15 = .bool (cfB d.c d.r ((d.ms (whN o d.last)).sum : Nat))) (by simp [upd_app, t0, t1, t2, t8, t10, t11, t13]) ?_
  clear t0 t1 t2 t8 t10 t11 t13
  rintro t ⟨t0, t1, t2, t8, t10, t11, t13, t14, t15⟩
  have hfi := rfind_yes _ _ (d.ms (whN o d.last)) q g hRo (by omega) (by omega) (by omega)
  rw [if_pos hq] at hfi
  refine s_take 2 (by simp only [runL, List.take_succ_cons, List.take_zero, awant_none, astep, evl, put, ap_none, List.length_nil, Nat.add_zero, upd_app, ↓reduceIte, Nat.reduceEqDiff, t13, t14] <;> rfl) ?_
  refine ops_call 50 _ rfl hfi (by simp) ?_
  refine ops_run (by simp only [runL, List.getElem?_toArray, List.getElem?_cons_succ, List.getElem?_cons_zero, awant_none, astep, evl, put, ap_none, List.length_nil, Nat.add_zero, upd_app, stepExtract, ↓reduceIte, Nat.reduceEqDiff] <;> rfl) ?_
  have hxl := find_lt hq
  obtain ⟨x, hx⟩ : ∃ x, find (d.ms (whN o d.last)) q = x := ⟨_, rfl⟩
  rw [hx] at hxl
  rw [hx] at hqv
  rw [hx]
  refine w_gen (fun t => t 0 = v0 ∧ t 1 = .int .i64 o ∧ t 2 = .int .i64 m ∧ t 8 = ptr4 p ∧ t 10 = .slice (some ⟨A + 6, 0, some 3⟩) 3 1 ∧ t 11 = lv ∧ t 13 = ptr1 (A + 2 * whN o d.last) ∧ t 15 = .bool (cfB d.c d.r ((d.ms (whN o d.last)).sum : Nat)) ∧ t 16 = .int .i64 x ∧ t 17 = .bool true) (by simp [upd_app, t0, t1, t2, t8, t10, t11, t13, t15]) ?_
  clear t0 t1 t2 t8 t10 t11 t13 t14 t15
  rintro t ⟨t0, t1, t2, t8, t10, t11, t13, t15, t16, t17⟩
  cases hB : cfB d.c d.r ((d.ms (whN o d.last)).sum : Nat) with
  | false =>
    rw [hB] at t15
    have hD : dsB o F.length d = false := by unfold dsB; rw [hB]; rfl
    refine w_assoc (s_run (by simp only [runL, awant_some, List.getElem?_toArray, List.getElem?_cons_succ, List.getElem?_cons_zero, Option.bind_some, b_tf, Bool.not_false, awant_none, astep, evl, put, ap_none, List.length_nil, Nat.add_zero, upd_app, stepUn, stepPick, ↓reduceIte, Nat.reduceEqDiff, undef, t15] <;> rfl) ?_)
    refine s_true (by simp [evl]) (w_assoc (s_run (by simp only [runL, awant_none, astep, evl, put, ap_none, List.length_nil, Nat.add_zero] <;> rfl) ?_))
    exact s_ret (hret (.inl hD) _ _ (by simp [upd_app]) (by simp []) (fun _ _ => rfl))
  | true =>
    rw [hB] at t15
    have hxd := hqv.2 hB
    have hlen : stepLen Try.prog 22 lv = some { v := .int .i64 (pre.length : Nat) } := by
      have := hO.src.len (P := Try.prog) Try.underlying22
      simpa using this
    have hmin : stepMin (.int .i64 (m : Nat)) (.int .i64 100000) = some { v := .int .i64 (m : Nat) } := by
      show some ({ v := .int .i64 (if (100000 : Int) < (m : Nat) then 100000 else (m : Nat)) } : Eff) = _
      rw [if_neg (by omega)]
    have w1 : IntKind.i64.wrap (2 * ((m : Nat) : Int)) = ((2 * m : Nat) : Int) := by rw [show 2 * ((m : Nat) : Int) = ((2 * m : Nat) : Int) by omega, wrap_nat (by omega)]
    have w2 : IntKind.i64.wrap (((2 * m : Nat) : Int) + 2) = ((2 * m + 2 : Nat) : Int) := by rw [show ((2 * m : Nat) : Int) + 2 = ((2 * m + 2 : Nat) : Int) by omega, wrap_nat (by omega)]
    by_cases hlim : 2 * m + 2 < pre.length
    · have d1 : decide (((pre.length : Nat) : Int) > ((2 * m + 2 : Nat) : Int)) = true := decide_eq_true (by omega)
      refine w_assoc (s_run (by simp only [runL, awant_some, List.getElem?_toArray, List.getElem?_cons_succ, List.getElem?_cons_zero, Option.bind_some, b_ff, Bool.not_true, awant_none, astep, evl, put, ap_none, List.length_nil, Nat.add_zero, upd_app, stepBin, abin, stepUn, stepPick, stepCall, ↓reduceIte, Nat.reduceEqDiff, Bool.false_eq_true, t15, t17, t11, t2, hlen, hmin, w1, w2, d1] <;> rfl) ?_)
      refine s_true (by simp [evl]) (w_assoc (s_run (by simp only [runL, awant_none, astep, evl, put, ap_none, List.length_nil, Nat.add_zero] <;> rfl) ?_))
      exact s_ret (hret (.inr hlim) _ _ (by simp [upd_app]) (by simp []) (fun _ _ => rfl))
    have d1 : decide (((pre.length : Nat) : Int) > ((2 * m + 2 : Nat) : Int)) = false := decide_eq_false (by omega)
    refine w_assoc (s_run (by simp only [runL, awant_some, List.getElem?_toArray, List.getElem?_cons_succ, List.getElem?_cons_zero, Option.bind_some, b_ff, Bool.not_true, awant_none, astep, evl, put, ap_none, List.length_nil, Nat.add_zero, upd_app, stepBin, abin, stepUn, stepPick, stepCall, ↓reduceIte, Nat.reduceEqDiff, Bool.false_eq_true, t15, t17, t11, t2, hlen, hmin, w1, w2, d1] <;> rfl) ?_)
    refine s_false (by simp [evl]) (s_skip ?_)
    refine w_gen (fun t => t 0 = v0 ∧ t 1 = .int .i64 o ∧ t 2 = .int .i64 m ∧ t 8 = ptr4 p ∧ t 10 = .slice (some ⟨A + 6, 0, some 3⟩) 3 1 ∧ t 11 = lv ∧ t 13 = ptr1 (A + 2 * whN o d.last) ∧ t 16 = .int .i64 x) (by simp [upd_app, t0, t1, t2, t8, t10, t11, t13, t16]) ?_
    clear t0 t1 t2 t8 t10 t11 t13 t15 t16 t17
    rintro t ⟨t0, t1, t2, t8, t10, t11, t13, t16⟩
    have hsp := rspan_yes _ _ (d.ms (whN o d.last)) x g hRo (by omega) (by omega) hxl
    refine s_take 2 (by simp only [runL, List.take_succ_cons, List.take_zero, awant_none, astep, evl, put, ap_none, List.length_nil, Nat.add_zero, upd_app, ↓reduceIte, Nat.reduceEqDiff, t13, t16] <;> rfl) ?_
    refine ops_call 48 _ rfl hsp (by simp) ?_
    refine ops_run (by simp only [runL, List.getElem?_toArray, List.getElem?_cons_succ, List.getElem?_cons_zero, awant_none, astep, evl, put, ap_none, List.length_nil, Nat.add_zero, upd_app, stepExtract, ↓reduceIte, Nat.reduceEqDiff] <;> rfl) ?_
    refine w_gen (fun t => t 0 = v0 ∧ t 1 = .int .i64 o ∧ t 2 = .int .i64 m ∧ t 8 = ptr4 p ∧ t 10 = .slice (some ⟨A + 6, 0, some 3⟩) 3 1 ∧ t 11 = lv ∧ t 13 = ptr1 (A + 2 * whN o d.last) ∧ t 16 = .int .i64 x ∧ t 18 = .int .i64 (((d.ms (whN o d.last)).take x).sum : Nat) ∧ t 19 = .int .i64 (byt (d.ms (whN o d.last)) x : Nat)) (by simp [upd_app, t0, t1, t2, t8, t10, t11, t13, t16]) ?_
    clear t0 t1 t2 t8 t10 t11 t13 t16
    rintro t ⟨t0, t1, t2, t8, t10, t11, t13, t16, t18, t19⟩
    have hts := sum_take_le (d.ms (whN o d.last)) x
    obtain ⟨E, hE, hEv, hEa, hEr, hEw, hR', hEf⟩ := rtake_any (x := (((d.ms (whN o d.last)).take x).sum : Nat)) (y := (byt (d.ms (whN o d.last)) x : Nat)) (z := ((d.ms (whN o d.last)).sum : Nat)) hR hF hDG.r1 hDG.r2 hDG.u hFl (by have := hDG.c; omega) (by omega) (by omega)
    have hD : dsB o F.length d = tkB F.length d.u d.c d.r (((d.ms (whN o d.last)).take x).sum : Nat) (byt (d.ms (whN o d.last)) x : Nat) ((d.ms (whN o d.last)).sum : Nat) := by unfold dsB; rw [hB, ← hxd]; rfl
    rw [← hD] at hEv
    refine w_assoc (s_take 4 (by simp only [runL, List.take_succ_cons, List.take_zero, awant_none, astep, evl, put, ap_none, List.length_nil, Nat.add_zero, upd_app, ↓reduceIte, Nat.reduceEqDiff, t8, t18, t19, t13] <;> rfl) ?_)
    refine ops_call 46 _ rfl htot (by simp) ?_
    refine ops_take 0 rfl ?_
    refine ops_call 57 E rfl hE (fun h => (h hEa).elim) (ops_heap fun G1 hG1 => ops_num fun N1 hN1 => ?_)
    have hG1' : G1 = E.ap g := hG1
    have hN1' : N1 = n' := by
      have : N1 = n' + E.a.length := hN1
      rw [this, hEa]; rfl
    rw [← hG1'] at hR' hEf
    subst hN1'
    clear hG1 hN1
    cases hDD : dsB o F.length d with
    | false =>
      rw [hDD] at hEv
      refine ops_run (by simp only [runL, Bool.not_false, awant_none, astep, evl, put, ap_none, List.length_nil, Nat.add_zero, upd_app, stepUn, ↓reduceIte, hEv] <;> rfl) ?_
      refine s_true (by simp [evl]) (w_assoc (s_run (by simp only [runL, awant_none, astep, evl, put, ap_none, List.length_nil, Nat.add_zero] <;> rfl) ?_))
      exact s_ret (hret (.inl hDD) _ _ (by simp [upd_app]) (by simp []) hEf)
    | true =>
      rw [hDD] at hEv
      refine ops_run (by simp only [runL, Bool.not_true, awant_none, astep, evl, put, ap_none, List.length_nil, Nat.add_zero, upd_app, stepUn, ↓reduceIte, hEv] <;> rfl) ?_
      refine s_false (by simp [evl]) (s_skip ?_)
      refine w_gen (fun t => t 0 = v0 ∧ t 1 = .int .i64 o ∧ t 2 = .int .i64 m ∧ t 8 = ptr4 p ∧ t 10 = .slice (some ⟨A + 6, 0, some 3⟩) 3 1 ∧ t 11 = lv ∧ t 13 = ptr1 (A + 2 * whN o d.last) ∧ t 16 = .int .i64 x) (by simp [upd_app, t0, t1, t2, t8, t10, t11, t13, t16]) ?_
      clear t0 t1 t2 t8 t10 t11 t13 t16 t18 t19
      rintro t ⟨t0, t1, t2, t8, t10, t11, t13, t16⟩
      have hMs1 : Rs A d.ms G1 := hMs.congr fun i h1 h2 => hEf i (by omega)
      obtain ⟨a1, a2⟩ := hMs1.saw (x := x) hw
      refine s_take 2 (by simp only [runL, List.take_succ_cons, List.take_zero, awant_none, astep, evl, put, ap_none, List.length_nil, Nat.add_zero, upd_app, ↓reduceIte, Nat.reduceEqDiff, t13, t16] <;> rfl) ?_
      refine ops_call 44 _ rfl (rsaw_yes _ _ (d.ms (whN o d.last)) x G1 (hMs1.ro _ hw) (by omega) (by omega) hxl) (by intro h; exact (h rfl).elim) (ops_heap fun G2 hG2 => ops_num fun N2 hN2 => ?_)
      have hN2' : N2 = N1 := hN2
      subst hN2'
      clear hN2
      have hG2' : G2 = (rsawE (A + 2 * whN o d.last) (A + 1 + 2 * whN o d.last) (saw (d.ms (whN o d.last)) x)).ap G1 := hG2
      rw [← hG2'] at a1 a2
      clear hG2
      refine ops_run (by simp only [runL, put] <;> rfl) ?_
      have hO2 : Own 3 G2 lv (ints pre) B N2 := by
        obtain ⟨i, h1, h2⟩ := hO
        exact ⟨i, h1.keep fun k hk => by have := h2 k hk; rw [a2 k (by omega), hEf k (by omega)], h2⟩
      have hR2 := hR'.congr (a2 p (by omega)) (fun i hi => a2 i (by have := hbv i hi; omega))
      obtain ⟨f, hf, hO3, hk3⟩ := hO2.push (P := Try.prog) (T := 22) (c := .int .i64 (x : Int)) Try.underlying22 tinf3 (by simp; omega) (by omega) hBn
      refine w_gen (fun t => t 0 = v0 ∧ t 1 = .int .i64 o ∧ t 2 = .int .i64 m ∧ t 8 = ptr4 p ∧ t 10 = .slice (some ⟨A + 6, 0, some 3⟩) 3 1 ∧ t 11 = lv ∧ t 16 = .int .i64 x) (by simp [upd_app, t0, t1, t2, t8, t10, t11, t16]) ?_
      clear t0 t1 t2 t8 t10 t11 t13 t16
      rintro t ⟨t0, t1, t2, t8, t10, t11, t16⟩
      refine s_run (by simp only [runL, awant_none, astep, evl, put, ap_none, ap_new, List.length_nil, List.length_cons, Nat.add_zero, Nat.zero_add, upd_app, stepCall, ↓reduceIte, Nat.reduceEqDiff, List.map_cons, List.map_nil, undef, t11, t16, lit22_1, hf] <;> rfl) (w_heap fun G3 hG3 => ?_)
      have hG3' : G3 = f.ap (upd G2 N2 (some ⟨false, 3, [.int .i64 (x : Int)]⟩)) := hG3
      have e : ints pre ++ [.int .i64 (x : Int)] = ints (pre ++ [x]) := ints_snoc pre x
      rw [← hG3', e] at hO3
      rw [← hG3'] at hk3
      refine region_run (id := 18) (by simp only [runL, awant_none, astep, evl, put, ap_none, List.length_nil, Nat.add_zero, upd_app, ↓reduceIte, Nat.reduceEqDiff, t16] <;> rfl) ?_
      subst hxd
      have hdn : tkU F.length d.u d.c d.r (((d.ms (whN o d.last)).take (dsx o d)).sum : Nat) (byt (d.ms (whN o d.last)) (dsx o d) : Nat) ((d.ms (whN o d.last)).sum : Nat) = (dsN o F d).u ∧ tkC F d.u d.c d.r (((d.ms (whN o d.last)).take (dsx o d)).sum : Nat) (byt (d.ms (whN o d.last)) (dsx o d) : Nat) ((d.ms (whN o d.last)).sum : Nat) = (dsN o F d).c ∧ tkR F.length d.u d.c d.r (((d.ms (whN o d.last)).take (dsx o d)).sum : Nat) (byt (d.ms (whN o d.last)) (dsx o d) : Nat) ((d.ms (whN o d.last)).sum : Nat) = (dsN o F d).r := ⟨rfl, rfl, rfl⟩
      rw [hdn.1, hdn.2.1, hdn.2.2] at hR2
      exact hgo hDD (by omega) _ _ _ (by simp [upd_app, t0]) (by simp [upd_app, t1]) (by simp [upd_app, t2]) (by simp [upd_app, t8]) (by simp [upd_app, t10]) (by simp []) (by show N2 ≤ N2 + 1 + f.a.length; omega) (by simp only [upd_app]; exact hO3) (hR2.congr (hk3 p (by omega)) (fun i hi => hk3 i (by have := hbv i hi; omega))) (a1.congr fun i h1 h2 => hk3 i (by omega)) (fun q h1 h2 h3 => by rw [hk3 q h1, a2 q (by omega), hEf q h2])
end Go.Proofs.Ytahinegnblankaa
