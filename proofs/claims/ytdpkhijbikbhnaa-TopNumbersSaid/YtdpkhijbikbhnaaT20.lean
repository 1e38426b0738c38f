import Derived.Test.YtdpkhijbikbhnaaT19
namespace Go.Proofs.Ytdpkhijbikbhnaa
open Go Abs Plain
set_option linter.unusedSimpArgs false
set_option linter.unusedVariables false

def clrF (s : List Nat) (j : Int) : Int := if 0 ≤ j ∧ smB s j.toNat = true then -1 else j
/-- The row without the small ones. -/
def clrL (s : List Nat) (row : List Int) : List Int := row.map (clrF s)
theorem clrL_len (s : List Nat) (row : List Int) : (clrL s row).length = row.length := by simp [clrL]
def clrP (s : List Nat) (row : List Int) (k : Nat) : List Int := (row.take k).map (clrF s) ++ row.drop k
theorem clrP_len {s : List Nat} {row : List Int} {k : Nat} (h : k ≤ row.length) : (clrP s row k).length = row.length := by simp [clrP]; omega
theorem clrP_at {s : List Nat} {row : List Int} {k : Nat} (h : k < row.length) : (clrP s row k)[k]'(by rw [clrP_len (by omega)]; exact h) = row[k] := by
  simp only [clrP]
  rw [List.getElem_append_right (by simp; omega)]
  simp only [List.getElem_drop, List.length_map, List.length_take]
  congr 1; omega
theorem clrP_set {s : List Nat} {row : List Int} {k : Nat} (h : k < row.length) : (clrP s row k).set k (clrF s row[k]) = clrP s row (k + 1) := by
  unfold clrP
  rw [List.take_succ_eq_append_getElem h, List.map_append, List.set_append_right _ _ (by simp; omega), show k - ((row.take k).map (clrF s)).length = 0 by simp; omega, List.append_assoc]
  congr 1
  rw [List.drop_eq_getElem_cons h, List.set_cons_zero]
  rfl
theorem clrP_same {s : List Nat} {row : List Int} {k : Nat} (h : k < row.length) (he : clrF s row[k] = row[k]) : clrP s row (k + 1) = clrP s row k := by
  rw [← clrP_set h, he]
  have := clrP_at (s := s) h
  rw [← this, List.set_getElem_self]
theorem clrP_all (s : List Nat) (row : List Int) : clrP s row row.length = clrL s row := by simp [clrP, clrL]

def le1 (s : List Nat) (p : PS) (j : Nat) : PS := (layE s p.1 j, layEr s p.1 p.2 j)
def smSt (s : List Nat) (p : PS) (k : Nat) : PS := if 0 < rowAt p k ∧ smB s ((rowAt p k).toNat - 1) = true then le1 s p ((rowAt p k).toNat - 1) else p
/-- q looks of 'smalls', from place m - 1 on, downwards. -/
def smRun (s : List Nat) (p : PS) (m : Nat) : Nat → PS
  | 0 => p
  | q + 1 => smSt s (smRun s p m q) (m - 1 - q)
def leOk (s : List Nat) (p : PS) (j : Nat) : Prop := j < s.length ∧ byt s j < p.1.length ∧ 1 ≤ byt p.1 (byt s j) ∧ byt p.1 (byt s j) ≤ p.2.length
instance (s : List Nat) (p : PS) (j : Nat) : Decidable (leOk s p j) := by unfold leOk; infer_instance
def smAll (s : List Nat) (p : PS) (m : Nat) : Prop := ∀ q, q < m → 0 < rowAt (smRun s p m q) (m - 1 - q) → (rowAt (smRun s p m q) (m - 1 - q)).toNat - 1 < s.length ∧ (smB s ((rowAt (smRun s p m q) (m - 1 - q)).toNat - 1) = true → leOk s (smRun s p m q) ((rowAt (smRun s p m q) (m - 1 - q)).toNat - 1))
theorem smSt_len (s : List Nat) (p : PS) (k : Nat) : (smSt s p k).1.length = p.1.length ∧ (smSt s p k).2.length = p.2.length := by
  unfold smSt; split <;> simp [le1, layE, layEr]
theorem smRun_len (s : List Nat) (p : PS) (m : Nat) : ∀ q, (smRun s p m q).1.length = p.1.length ∧ (smRun s p m q).2.length = p.2.length
  | 0 => ⟨rfl, rfl⟩
  | q + 1 => by
    obtain ⟨h1, h2⟩ := smRun_len s p m q
    obtain ⟨h3, h4⟩ := smSt_len s (smRun s p m q) (m - 1 - q)
    exact ⟨h3.trans h1, h4.trans h2⟩

set_option maxRecDepth 20000 in
theorem smalls_spec (X R : Nat) (sv bv cv : Value) (s c : List Nat) (row : List Int) (g : Heap) (jj : Nat) (hlc : c.length ≤ 2 ^ 38) (hlr : row.length ≤ 2 ^ 38) (hls : s.length ≤ 2 ^ 38) (hsum : c.sum ≤ 2 ^ 60)
    (hin : ∀ j ∈ row, 0 ≤ j → j.toNat < s.length) (hall : smAll s (endsL c, clrL s row) row.length)
    (hX : SX X sv bv cv (.slice (some ⟨R, 0, some row.length⟩) row.length 1) g) (hR : g R = some ⟨false, 3, intsI row⟩) (hu : Src g sv 1 s.length (ints s)) (hb : Src g bv 1 s.length (bools (smallL s))) (hc : Src g cv 1 c.length (ints c)) (hXR : X ≠ R)
    (d1 : ∀ i ∈ srcBlk sv, i ≠ R) (d2 : ∀ i ∈ srcBlk bv, i ≠ R) (d3 : ∀ i ∈ srcBlk cv, i ≠ R) :
    FnSpec Try.prog 55 [.pointer (some ⟨X, 0, some 4⟩)] g { v := undef, r := X :: R :: (srcBlk sv ++ srcBlk bv ++ srcBlk cv), w := [(R, ⟨false, 3, intsI (smRun s (endsL c, clrL s row) row.length row.length).2⟩)], j := jj } := by
  refine spec_of_body [] follows Try.func55 rfl (by kernel_rfl) (by simp [Try.f55]) (by kernel_rfl) rfl ?_
  intro g2 s2 n hg hfr hs hn hwf hsv
  have hu2 : Src g2 sv 1 s.length (ints s) := hu.congr fun i hi => hg i (by simp [Eff.fp, hi])
  have hb2 : Src g2 bv 1 s.length (bools (smallL s)) := hb.congr fun i hi => hg i (by simp [Eff.fp, hi])
  have hc2 : Src g2 cv 1 c.length (ints c) := hc.congr fun i hi => hg i (by simp [Eff.fp, hi])
  have hX2 : SX X sv bv cv (.slice (some ⟨R, 0, some row.length⟩) row.length 1) g2 := by unfold SX; rw [hg X (by simp [Eff.fp])]; exact hX
  have hR2 : g2 R = some ⟨false, 3, intsI row⟩ := by rw [hg R (by simp [Eff.fp])]; exact hR
  have hud := dom_of hs hwf hu2
  have hbd := dom_of hs hwf hb2
  have hcd := dom_of hs hwf hc2
  have hXd : X < n := hs X (hwf X _ hX2).1
  have hRd : R < n := hs R (hwf R _ hR2).1
  clear hg hfr hn hX hR hu hb hc
  refine w_assoc (s_run (by simp only [runL, Option.getD_some, List.getElem?_cons_zero, awant_none, astep, evl, put, ap_none, List.length_nil, Nat.add_zero, upd_app, stepCall, ↓reduceIte, undef, nchk, fldX3, ldX3 hX2, lenI] <;> rfl) ?_)
  refine s_rng row.length (fun i t g n' => t 0 = .pointer (some ⟨X, 0, some 4⟩) ∧ t 10 = .slice (some ⟨R, 0, some row.length⟩) row.length 1 ∧ n' = n ∧ g R = some ⟨false, 3, intsI (clrP s row i)⟩ ∧ ∀ q, q ≠ R → g q = g2 q) (by omega) (by simp []) (by simp [upd_app])
    (fun _ => ⟨by simp [upd_app], by simp [upd_app], rfl, by simpa [clrP] using hR2, fun _ _ => rfl⟩) (by decide) ?_ ?_
  · rintro i t g n' hi t12 t11 ⟨t0, t10, hnn, hr, ho⟩
    have hX : SX X sv bv cv (.slice (some ⟨R, 0, some row.length⟩) row.length 1) g := by unfold SX; rw [ho X hXR]; exact hX2
    have lr := ldI (m := row.length) (i := i) hr (clrP_len (by omega)) (by rw [clrP_len (by omega)]; exact hi)
    rw [clrP_at hi] at lr
    have iR := idxI R row.length i row.length hi
    have sR := stI (m := row.length) (i := i) (x := -1) hr (clrP_len (by omega)) (by rw [clrP_len (by omega)]; exact hi)
    have hset := clrP_set (s := s) hi
    have hsame := clrP_same (s := s) hi
    have hmem := hin row[i] (List.getElem_mem hi)
    generalize row[i] = j at *
    refine s_run (by simp only [runL, awant_none, astep, evl, put, ap_none, List.length_nil, Nat.add_zero, upd_app, ↓reduceIte, Nat.reduceEqDiff, t10, t12, iR, lr] <;> rfl) ?_
    have stay : clrF s j = j → ∀ t' : Nat → Value, t' 12 = .int .i64 i → t' 11 = .int .i64 row.length → t' 0 = t 0 → t' 10 = t 10 → (t' 12 = .int .i64 i ∧ t' 11 = .int .i64 row.length ∧ ∀ v1 v2 v3 : Value, (upd (upd (upd t' 34 v1) 12 v2) 13 v3) 0 = .pointer (some ⟨X, 0, some 4⟩) ∧ (upd (upd (upd t' 34 v1) 12 v2) 13 v3) 10 = .slice (some ⟨R, 0, some row.length⟩) row.length 1 ∧ n' = n ∧ g R = some ⟨false, 3, intsI (clrP s row (i + 1))⟩ ∧ ∀ q, q ≠ R → g q = g2 q) := by
      intro hf t' h10 h9 h4 h3
      rw [hsame hf]
      exact ⟨h10, h9, fun _ _ _ => ⟨by simp [upd_app, h4, t0], by simp [upd_app, h3, t10], hnn, hr, ho⟩⟩
    by_cases c0 : j < 0
    · have d0 : decide (j ≥ 0) = false := decide_eq_false (by omega)
      refine s_run (by simp only [runL, awant_some, List.getElem?_toArray, List.getElem?_cons_succ, List.getElem?_cons_zero, Option.bind_some, b_ft, awant_none, astep, evl, put, ap_none, List.length_nil, Nat.add_zero, upd_app, stepBin, abin, stepPick, ↓reduceIte, Nat.reduceEqDiff, Bool.false_eq_true, undef, d0] <;> rfl) ?_
      refine w_false (by simp [evl]) (w_skip ?_)
      simp only [rngPost]
      exact stay (by unfold clrF; rw [if_neg (by omega)]) _ (by simp [upd_app, t12]) (by simp [upd_app, t11]) (by simp [upd_app]) (by simp [upd_app])
    have d0 : decide (j ≥ 0) = true := decide_eq_true (by omega)
    have hj := hmem (by omega)
    obtain ⟨y, rfl⟩ : ∃ y : Nat, j = (y : Int) := ⟨j.toNat, by omega⟩
    rw [Int.toNat_natCast] at hj
    have hbg : Src g bv 1 s.length (bools (smallL s)) := hb2.congr fun q hq => ho q (d2 q hq)
    obtain ⟨pb, ib, lb, _⟩ := srcL' hbg (show y < (smallL s).length by rw [smallL_len]; exact hj)
    rw [smallL_at hj] at lb
    have hcf : clrF s (y : Int) = if smB s y = true then -1 else (y : Int) := by
      unfold clrF; rw [Int.toNat_natCast]
      by_cases h : smB s y = true
      · rw [if_pos ⟨by omega, h⟩, if_pos h]
      · rw [if_neg (fun q => h q.2), if_neg h]
    cases h1 : smB s y with
    | false =>
      rw [h1] at lb
      refine s_run (by simp only [runL, awant_some, List.getElem?_toArray, List.getElem?_cons_succ, List.getElem?_cons_zero, Option.bind_some, b_tt, awant_none, astep, evl, put, ap_none, List.length_nil, Nat.add_zero, upd_app, stepBin, abin, stepPick, reduceCtorEq, ↓reduceIte, Nat.reduceEqDiff, d0, t0, nchk, fldX1, ldX1 hX, ib, lb] <;> rfl) ?_
      refine w_false (by simp [evl]) (w_skip ?_)
      simp only [rngPost]
      exact stay (by rw [hcf, h1]; rfl) _ (by simp [upd_app, t12]) (by simp [upd_app, t11]) (by simp [upd_app]) (by simp [upd_app])
    | true =>
      rw [h1] at lb
      rw [hcf, h1, if_pos rfl] at hset
      rw [hset] at sR
      refine s_run (by simp only [runL, awant_some, List.getElem?_toArray, List.getElem?_cons_succ, List.getElem?_cons_zero, Option.bind_some, b_tt, awant_none, astep, evl, put, ap_none, List.length_nil, Nat.add_zero, upd_app, stepBin, abin, stepPick, reduceCtorEq, ↓reduceIte, Nat.reduceEqDiff, d0, t0, nchk, fldX1, ldX1 hX, ib, lb] <;> rfl) ?_
      refine w_true (by simp [evl]) ?_
      refine region_run (id := 4) (by simp only [runL, awant_none, astep, evl, put, ap_none, ap_wr, List.length_nil, Nat.add_zero, upd_app, reduceCtorEq, ↓reduceIte, Nat.reduceEqDiff, undef, t0, nchk, fldX3, ldX3 hX, iR, sR] <;> rfl) ?_
      simp only [rngPost]
      exact ⟨by simp [upd_app, t12], by simp [upd_app, t11], fun _ _ _ => ⟨by simp [upd_app, t0], by simp [upd_app, t10], hnn, by simp [], fun q hq => by rw [upd_ne _ _ hq]; exact ho q hq⟩⟩
  rintro t G n' ⟨t0, t10, rfl, hr, ho⟩
  rw [clrP_all] at hr
  have hX1 : SX X sv bv cv (.slice (some ⟨R, 0, some row.length⟩) row.length 1) G := by unfold SX; rw [ho X hXR]; exact hX2
  have hc1 : Src G cv 1 c.length (ints c) := hc2.congr fun q hq => ho q (d3 q hq)
  refine s_take 1 (by simp only [runL, List.take_succ_cons, List.take_zero, awant_none, astep, evl, put, ap_none, List.length_nil, Nat.add_zero, t0] <;> rfl) ?_
  refine ops_call 51 _ rfl (ends_spec X sv bv cv _ c G n' hlc hsum hX1 hc1) (fun _ => rfl) ?_
  refine ops_heap fun G1 hG1 => ?_
  have b1 : G1 n' = some ⟨false, 3, ints (endsL c)⟩ := by rw [hG1]; simp [ap_new]
  have k1 : Kp n' G G1 := by rw [hG1]; simp only [ap_new]; exact kp_upd (Kp.refl _ _) (Nat.le_refl _)
  have hX3 := k1.at hXd hX1
  have r3 := k1.at hRd hr
  have o3 : ∀ q, q < n' → q ≠ R → G1 q = g2 q := fun q h1 h2 => by rw [k1 q h1]; exact ho q h2
  clear hG1
  refine ops_run (by simp only [runL, awant_none, astep, evl, put, ap_none, List.length_nil, List.length_cons, Nat.add_zero, Nat.zero_add, upd_app, ↓reduceIte] <;> rfl) ?_
  have w0 : IntKind.i64.wrap ((row.length : Int) - 1) = (row.length : Int) - 1 := wrap64_of (by omega) (by omega)
  refine w_gen (fun t => t 0 = .pointer (some ⟨X, 0, some 4⟩) ∧ t 4 = .slice (some ⟨n', 0, some c.length⟩) c.length 1) (by simp [upd_app, t0]) ?_
  clear t0 t10
  rintro t ⟨t0, t4⟩
  show awp _ _ _ _ G1 (n' + 1)
  refine s_run (by simp only [runL, awant_none, astep, evl, put, ap_none, List.length_nil, Nat.add_zero, upd_app, stepBin, abin, stepCall, ↓reduceIte, t0, nchk, fldX3, ldX3 hX3, lenI, w0] <;> rfl) ?_
  refine seq_skip ?_
  obtain ⟨p0, hp0⟩ : ∃ p0 : PS, (endsL c, clrL s row) = p0 := ⟨_, rfl⟩
  have l1 : p0.1.length = c.length := by rw [← hp0]; simp [endsL_len]
  have l2 : p0.2.length = row.length := by rw [← hp0]; simp [clrL_len]
  have e3 : G1 n' = some ⟨false, 3, ints p0.1⟩ := by rw [← hp0]; exact b1
  have r4 : G1 R = some ⟨false, 3, intsI p0.2⟩ := by rw [← hp0]; exact r3
  rw [hp0] at hall ⊢
  refine s_down row.length (fun k t g _ => t 0 = .pointer (some ⟨X, 0, some 4⟩) ∧ t 4 = .slice (some ⟨n', 0, some c.length⟩) c.length 1 ∧ SX X sv bv cv (.slice (some ⟨R, 0, some row.length⟩) row.length 1) g ∧ g n' = some ⟨false, 3, ints (smRun s p0 row.length (row.length - k)).1⟩ ∧ g R = some ⟨false, 3, intsI (smRun s p0 row.length (row.length - k)).2⟩ ∧ ∀ q, q < n' → q ≠ R → g q = g2 q) ((row.length : Int) - 1) (by omega) (by simp []) (.inr rfl)
    (fun _ _ => ⟨by simp [upd_app, t0], by simp [upd_app, t4], hX3, by rw [Nat.sub_self]; exact e3, by rw [Nat.sub_self]; exact r4, o3⟩) (by decide) ?_ ?_
  · clear hX3 e3 r3 r4 o3 t0 t4 b1 k1 hX1 hc1 hr ho
    rintro k t g N hk t5 ⟨t0, t4, hX, he, hr, ho⟩
    have hmk : row.length - k = (row.length - (k + 1)) + 1 := by omega
    have hmi : row.length - 1 - (row.length - (k + 1)) = k := by omega
    have hal := hall (row.length - (k + 1)) (by omega)
    obtain ⟨q1, q2⟩ := smRun_len s p0 row.length (row.length - (k + 1))
    have hsucc : smRun s p0 row.length (row.length - k) = smSt s (smRun s p0 row.length (row.length - (k + 1))) k := by rw [hmk, smRun, hmi]
    rw [hmi] at hal
    obtain ⟨p, hp⟩ : ∃ p, smRun s p0 row.length (row.length - (k + 1)) = p := ⟨_, rfl⟩
    rw [hp] at hal q1 q2 hsucc he hr
    have hiR : k < p.2.length := by omega
    have lr := ldI (m := row.length) (i := k) hr (by omega) hiR
    rw [rowAt_get hiR] at lr
    have iR := idxI R row.length k row.length hk
    refine s_run (by simp only [runL, awant_none, astep, evl, put, ap_none, List.length_nil, Nat.add_zero, upd_app, ↓reduceIte, Nat.reduceEqDiff, t0, t5, nchk, fldX3, ldX3 hX, iR, lr] <;> rfl) ?_
    have stay : smRun s p0 row.length (row.length - k) = p → ∀ t' : Nat → Value, t' 5 = .int .i64 k → t' 0 = t 0 → t' 4 = t 4 → (t' 5 = .int .i64 k ∧ ∀ v1 v2 v3 v4 v5 : Value, (upd (upd (upd (upd (upd t' 45 v1) 46 v2) 5 v3) 43 v4) 44 v5) 0 = .pointer (some ⟨X, 0, some 4⟩) ∧ (upd (upd (upd (upd (upd t' 45 v1) 46 v2) 5 v3) 43 v4) 44 v5) 4 = .slice (some ⟨n', 0, some c.length⟩) c.length 1 ∧ SX X sv bv cv (.slice (some ⟨R, 0, some row.length⟩) row.length 1) g ∧ g n' = some ⟨false, 3, ints (smRun s p0 row.length (row.length - k)).1⟩ ∧ g R = some ⟨false, 3, intsI (smRun s p0 row.length (row.length - k)).2⟩ ∧ ∀ q, q < n' → q ≠ R → g q = g2 q) := by
      intro hf t' h10 h4 h3
      rw [hf]
      exact ⟨h10, fun _ _ _ _ _ => ⟨by simp [upd_app, h4, t0], by simp [upd_app, h3, t4], hX, he, hr, ho⟩⟩
    by_cases c0 : rowAt p k ≤ 0
    · have d0 : decide (rowAt p k > 0) = false := decide_eq_false (by omega)
      refine s_run (by simp only [runL, awant_some, List.getElem?_toArray, List.getElem?_cons_succ, List.getElem?_cons_zero, Option.bind_some, b_ft, awant_none, astep, evl, put, ap_none, List.length_nil, Nat.add_zero, upd_app, stepBin, abin, stepPick, ↓reduceIte, Nat.reduceEqDiff, Bool.false_eq_true, undef, d0] <;> rfl) ?_
      refine w_false (by simp [evl]) (w_skip ?_)
      simp only [rngPost]
      exact stay (by rw [hsucc, smSt, if_neg (by omega)]) _ (by simp [upd_app, t5]) (by simp [upd_app]) (by simp [upd_app])
    have d0 : decide (rowAt p k > 0) = true := decide_eq_true (by omega)
    obtain ⟨hj, hok⟩ := hal (by omega)
    obtain ⟨y, hy⟩ : ∃ y : Nat, rowAt p k = ((y + 1 : Nat) : Int) := ⟨(rowAt p k).toNat - 1, by omega⟩
    have hsucc' : smSt s p k = if smB s y = true then le1 s p y else p := by
      unfold smSt
      rw [hy, show ((y + 1 : Nat) : Int).toNat - 1 = y by omega]
      by_cases h : smB s y = true
      · rw [if_pos ⟨by omega, h⟩, if_pos h]
      · rw [if_neg (fun q => h q.2), if_neg h]
    rw [hy] at hj hok d0 ⊢
    rw [show ((y + 1 : Nat) : Int).toNat - 1 = y by omega] at hj hok
    have w2 : IntKind.i64.wrap (((y + 1 : Nat) : Int) - 1) = ((y : Nat) : Int) := by rw [wrap64_of (by omega) (by omega)]; omega
    have hbg : Src g bv 1 s.length (bools (smallL s)) := hb2.congr fun q hq => ho q (hbd q hq) (d2 q hq)
    obtain ⟨pb, ib, lb, _⟩ := srcL' hbg (show y < (smallL s).length by rw [smallL_len]; exact hj)
    rw [smallL_at hj] at lb
    cases h1 : smB s y with
    | false =>
      rw [h1] at lb
      refine s_run (by simp only [runL, awant_some, List.getElem?_toArray, List.getElem?_cons_succ, List.getElem?_cons_zero, Option.bind_some, b_tt, awant_none, astep, evl, put, ap_none, List.length_nil, Nat.add_zero, upd_app, stepBin, abin, stepPick, reduceCtorEq, ↓reduceIte, Nat.reduceEqDiff, d0, t0, nchk, fldX1, ldX1 hX, w2, ib, lb] <;> rfl) ?_
      refine w_false (by simp [evl]) (w_skip ?_)
      simp only [rngPost]
      exact stay (by rw [hsucc, hsucc', h1]; rfl) _ (by simp [upd_app, t5]) (by simp [upd_app]) (by simp [upd_app])
    | true =>
      rw [h1] at lb
      rw [h1, if_pos rfl] at hsucc'
      have hok := hok h1
      refine s_run (by simp only [runL, awant_some, List.getElem?_toArray, List.getElem?_cons_succ, List.getElem?_cons_zero, Option.bind_some, b_tt, awant_none, astep, evl, put, ap_none, List.length_nil, Nat.add_zero, upd_app, stepBin, abin, stepPick, reduceCtorEq, ↓reduceIte, Nat.reduceEqDiff, d0, t0, nchk, fldX1, ldX1 hX, w2, ib, lb] <;> rfl) ?_
      refine w_true (by simp [evl]) ?_
      have q3 : p.2.length = row.length := by omega
      have q4 : p.1.length = c.length := by omega
      have hsf := last_spec X n' R sv bv cv s p.1 p.2 y g 0 (by omega) (by omega) hok.1 hok.2.1 hok.2.2.1 hok.2.2.2 (by rw [q3]; exact hX) he hr (hu2.congr fun q hq => ho q (hud q hq) (d1 q hq)) (by omega) hXR (by omega) (fun q hq => ⟨by have := hud q hq; omega, d1 q hq⟩)
      rw [q4] at hsf
      refine w_gen (fun t => t 0 = .pointer (some ⟨X, 0, some 4⟩) ∧ t 4 = .slice (some ⟨n', 0, some c.length⟩) c.length 1 ∧ t 6 = .int .i64 ((y + 1 : Nat) : Int) ∧ t 5 = .int .i64 k) (by simp [upd_app, t0, t4, t5]) ?_
      clear t0 t4 t5 stay
      rintro t ⟨t0, t4, t6, t5⟩
      refine region_take (id := 12) 4 (by simp only [runL, List.take_succ_cons, List.take_zero, awant_none, astep, evl, put, ap_none, List.length_nil, Nat.add_zero, upd_app, stepBin, abin, ↓reduceIte, Nat.reduceEqDiff, t0, t4, t6, w2] <;> rfl) ?_
      refine ops_call 53 _ rfl (by simp only [upd_app, evl, List.map_cons, List.map_nil]; exact hsf) (fun h => (h rfl).elim) ?_
      refine ops_heap fun G2 hG2 => ?_
      rw [ap_w2] at hG2
      refine ops_run rfl ?_
      simp only [rngPost]
      refine ⟨by simp [upd_app, put, t5], fun _ _ _ _ _ => ⟨by simp [upd_app, put, t0], by simp [upd_app, put, t4], ?_, ?_, ?_, fun q hq1 hq2 => ?_⟩⟩
      · unfold SX; rw [hG2, upd_ne _ _ hXR, upd_ne _ _ (by omega)]; exact hX
      · rw [hG2, upd_ne _ _ (by omega), upd_self, hsucc, hsucc']; rfl
      · rw [hG2, upd_self, hsucc, hsucc']; rfl
      · rw [hG2, upd_ne _ _ hq2, upd_ne _ _ (by omega)]; exact ho q hq1 hq2
  · rintro t g N ⟨t0, t4, hX, he, hr, ho⟩
    rw [Nat.sub_zero] at hr
    refine w_skip ⟨.inl rfl, by simp, [], fin_w1 rfl (by intro q hq; simp at hq) (by rw [hR2]; rfl) hr (fun q hq => SV1_plain (plain_intsI q hq)) fun i b hi hb => ?_⟩
    rw [ho i (hs i (hwf i b hb).1) hi]; exact hb
end Go.Proofs.Ytdpkhijbikbhnaa
