import Derived.Test.YtdpkhijbikbhnaaT18
namespace Go.Proofs.Ytdpkhijbikbhnaa
open Go Abs Plain
set_option linter.unusedSimpArgs false
set_option linter.unusedVariables false

theorem seq_skip {P : Program} {c : Code} {Q : AQ} {t : Nat → Value} {g : Heap} {n : Nat} (h : awp P (.seq c .skip) Q t g n) : awp P c Q t g n := by
  refine awp_mono (c := c) ?_ h
  intro e t g n he
  cases e <;> exact he

abbrev PS := List Nat × List Int
def lg1 (s : List Nat) (p : PS) (j : Nat) : PS := (layS s p.1 j, laySr s p.1 p.2 j)
def rowAt (p : PS) (k : Nat) : Int := p.2[k]?.getD 0
/-- One look of 'large'. -/
def lgSt (s : List Nat) (p : PS) (k : Nat) : PS := if 0 < rowAt p k ∧ smB s ((rowAt p k).toNat - 1) = false then lg1 s p ((rowAt p k).toNat - 1) else p
def lgRun (s : List Nat) (p : PS) : Nat → PS
  | 0 => p
  | k + 1 => lgSt s (lgRun s p k) k
def lgOk (s : List Nat) (p : PS) (j : Nat) : Prop := j < s.length ∧ byt s j < p.1.length ∧ byt p.1 (byt s j) < p.2.length
instance (s : List Nat) (p : PS) (j : Nat) : Decidable (lgOk s p j) := by unfold lgOk; infer_instance
/-- 'large' goes through. -/
def lgAll (s : List Nat) (p : PS) (m : Nat) : Prop := ∀ k, k < m → 0 < rowAt (lgRun s p k) k → (rowAt (lgRun s p k) k).toNat - 1 < s.length ∧ (smB s ((rowAt (lgRun s p k) k).toNat - 1) = false → lgOk s (lgRun s p k) ((rowAt (lgRun s p k) k).toNat - 1))
theorem lgSt_len (s : List Nat) (p : PS) (k : Nat) : (lgSt s p k).1.length = p.1.length ∧ (lgSt s p k).2.length = p.2.length := by
  unfold lgSt; split <;> simp [lg1, layS, laySr]
theorem lgRun_len (s : List Nat) (p : PS) : ∀ k, (lgRun s p k).1.length = p.1.length ∧ (lgRun s p k).2.length = p.2.length
  | 0 => ⟨rfl, rfl⟩
  | k + 1 => by
    obtain ⟨h1, h2⟩ := lgRun_len s p k
    obtain ⟨h3, h4⟩ := lgSt_len s (lgRun s p k) k
    exact ⟨h3.trans h1, h4.trans h2⟩
theorem ap_w2 (E R : Nat) (b1 b2 : Blk) (v : Value) (r : List Nat) (j : Nat) (g : Heap) : ({ v := v, r := r, w := [(E, b1), (R, b2)], j := j } : Eff).ap g = upd (upd g E (some b1)) R (some b2) := rfl
theorem srcL' {g : Heap} {v : Value} {l : List Bool} {i : Nat} {m : Nat} (h : Src g v 1 m (bools l)) (hi : i < l.length) : ∃ p : Addr, stepIndex Try.prog 67 v (.int .i64 (i : Int)) = some { v := .pointer (some p) } ∧ stepLoad Try.prog 4 (.pointer (some p)) g = some { v := .bool l[i], r := [p.block] } ∧ p.block ∈ srcBlk v := by
  obtain ⟨p, h1, h2, h3⟩ := h.at1 (P := Try.prog) (i := i) (c := .bool l[i]) (by simp [hi]) Try.underlying67 tsize4 aggT4
  exact ⟨p, h1 .i64, h2, h3⟩
theorem rowAt_get {p : PS} {k : Nat} (h : k < p.2.length) : p.2[k] = rowAt p k := by simp [rowAt, h]

set_option maxRecDepth 20000 in
theorem large_spec (X R : Nat) (sv bv cv : Value) (s c : List Nat) (row : List Int) (g : Heap) (jj : Nat) (hlc : c.length ≤ 2 ^ 38) (hlr : row.length ≤ 2 ^ 38) (hls : s.length ≤ 2 ^ 38) (h0 : 0 < s.length) (hsum : c.sum ≤ 2 ^ 60)
    (hin : lgOk s (startsL c, row) (s.length - 1)) (hall : lgAll s (lg1 s (startsL c, row) (s.length - 1)) row.length)
    (hX : SX X sv bv cv (.slice (some ⟨R, 0, some row.length⟩) row.length 1) g) (hR : g R = some ⟨false, 3, intsI row⟩) (hu : Src g sv 1 s.length (ints s)) (hb : Src g bv 1 s.length (bools (smallL s))) (hc : Src g cv 1 c.length (ints c)) (hXR : X ≠ R)
    (d1 : ∀ i ∈ srcBlk sv, i ≠ R) (d2 : ∀ i ∈ srcBlk bv, i ≠ R) (d3 : ∀ i ∈ srcBlk cv, i ≠ R) :
    FnSpec Try.prog 54 [.pointer (some ⟨X, 0, some 4⟩)] g { v := undef, r := X :: R :: (srcBlk sv ++ srcBlk bv ++ srcBlk cv), w := [(R, ⟨false, 3, intsI (lgRun s (lg1 s (startsL c, row) (s.length - 1)) row.length).2⟩)], j := jj } := by
  refine spec_of_body [] follows Try.func54 rfl (by kernel_rfl) (by simp [Try.f54]) (by kernel_rfl) rfl ?_
  intro g2 s2 n hg hfr hs hn hwf hsv
  have hu2 : Src g2 sv 1 s.length (ints s) := hu.congr fun i hi => hg i (by simp [Eff.fp, hi])
  have hb2 : Src g2 bv 1 s.length (bools (smallL s)) := hb.congr fun i hi => hg i (by simp [Eff.fp, hi])
  have hc2 : Src g2 cv 1 c.length (ints c) := hc.congr fun i hi => hg i (by simp [Eff.fp, hi])
  have hX2 : SX X sv bv cv (.slice (some ⟨R, 0, some row.length⟩) row.length 1) g2 := by unfold SX; rw [hg X (by simp [Eff.fp])]; exact hX
  have hR2 : g2 R = some ⟨false, 3, intsI row⟩ := by rw [hg R (by simp [Eff.fp])]; exact hR
  have hud := dom_of hs hwf hu2
  have hbd := dom_of hs hwf hb2
  have hXd : X < n := hs X (hwf X _ hX2).1
  have hRd : R < n := hs R (hwf R _ hR2).1
  have hlen := hu2.len Try.underlying22
  clear hg hfr hn hX hR hu hb hc
  have w1 : IntKind.i64.wrap ((s.length : Int) - 1) = ((s.length - 1 : Nat) : Int) := wrap_sub1 h0 (by omega)
  refine s_take 4 (by simp only [runL, Option.getD_some, List.getElem?_cons_zero, List.take_succ_cons, List.take_zero, awant_none, astep, evl, put, ap_none, List.length_nil, Nat.add_zero, upd_app, ↓reduceIte, undef, nchk, fldX2, ldX2 hX2] <;> rfl) ?_
  refine ops_call 39 _ rfl (starts_spec cv c g2 n hlc hsum hc2) (fun _ => rfl) ?_
  refine ops_heap fun G1 hG1 => ?_
  have b1 : G1 n = some ⟨false, 3, ints (startsL c)⟩ := by rw [hG1]; simp [ap_new]
  have k1 : Kp n g2 G1 := by rw [hG1]; simp only [ap_new]; exact kp_upd (Kp.refl _ _) (Nat.le_refl _)
  have hX1 := k1.at hXd hX2
  have hR1 := k1.at hRd hR2
  clear hG1
  refine ops_run (by simp only [runL, awant_none, astep, evl, put, ap_none, List.length_nil, List.length_cons, Nat.add_zero, Nat.zero_add, upd_app, ↓reduceIte] <;> rfl) ?_
  refine w_gen (fun t => t 0 = .pointer (some ⟨X, 0, some 4⟩) ∧ t 2 = .slice (some ⟨n, 0, some (startsL c).length⟩) (startsL c).length 1) (by simp [upd_app, startsL_len]) ?_
  rintro t ⟨t0, t2⟩
  show awp _ _ _ _ G1 (n + 1)
  have hsf := sfirst_spec X n R sv bv cv s (startsL c) row (s.length - 1) G1 0 (by rw [startsL_len]; exact hlc) hlr hin.1 hin.2.1 hin.2.2 hX1 b1 hR1 (k1.src hu2 hud) (by omega) hXR (by omega) (fun i hi => ⟨by have := hud i hi; omega, d1 i hi⟩)
  refine s_take 8 (by simp only [runL, List.take_succ_cons, List.take_zero, awant_none, astep, evl, put, ap_none, List.length_nil, Nat.add_zero, upd_app, stepBin, abin, stepCall, reduceCtorEq, ↓reduceIte, Nat.reduceEqDiff, t0, t2, nchk, fldX0, ldX0 hX1, hlen, w1] <;> rfl) ?_
  refine ops_call 71 _ rfl (by simp only [upd_app, evl, List.map_cons, List.map_nil]; exact hsf) (fun h => (h rfl).elim) ?_
  refine ops_heap fun G2 hG2 => ?_
  rw [ap_w2] at hG2
  refine ops_run rfl ?_
  obtain ⟨p0, hp0⟩ : ∃ p0, lg1 s (startsL c, row) (s.length - 1) = p0 := ⟨_, rfl⟩
  have hp01 : layS s (startsL c) (s.length - 1) = p0.1 := by rw [← hp0]; rfl
  have hp02 : laySr s (startsL c) row (s.length - 1) = p0.2 := by rw [← hp0]; rfl
  have l1 : p0.1.length = c.length := by rw [← hp01]; simp [layS, startsL_len]
  have l2 : p0.2.length = row.length := by rw [← hp02]; simp [laySr]
  rw [hp0] at hall ⊢
  rw [hp01, hp02] at hG2
  have hX3 : SX X sv bv cv (.slice (some ⟨R, 0, some row.length⟩) row.length 1) G2 := by unfold SX; rw [hG2, upd_ne _ _ hXR, upd_ne _ _ (by omega)]; exact hX1
  have e3 : G2 n = some ⟨false, 3, ints p0.1⟩ := by rw [hG2, upd_ne _ _ (by omega), upd_self]
  have r3 : G2 R = some ⟨false, 3, intsI p0.2⟩ := by rw [hG2, upd_self]
  have o3 : ∀ q, q < n → q ≠ R → G2 q = g2 q := fun q h1 h2 => by rw [hG2, upd_ne _ _ h2, upd_ne _ _ (by omega)]; exact k1 q h1
  refine w_gen (fun t => t 0 = .pointer (some ⟨X, 0, some 4⟩) ∧ t 2 = .slice (some ⟨n, 0, some c.length⟩) c.length 1) (by simp [upd_app, put, t0, t2, startsL_len]) ?_
  clear t0 t2 hsf hG2 hX1 hR1 b1 k1
  rintro t ⟨t0, t2⟩
  refine s_run (by simp only [runL, awant_none, astep, evl, put, ap_none, List.length_nil, Nat.add_zero, upd_app, stepCall, ↓reduceIte, t0, nchk, fldX3, ldX3 hX3, lenI] <;> rfl) ?_
  refine seq_skip ?_
  refine s_rng row.length (fun i t g n' => t 0 = .pointer (some ⟨X, 0, some 4⟩) ∧ t 2 = .slice (some ⟨n, 0, some c.length⟩) c.length 1 ∧ SX X sv bv cv (.slice (some ⟨R, 0, some row.length⟩) row.length 1) g ∧ g n = some ⟨false, 3, ints (lgRun s p0 i).1⟩ ∧ g R = some ⟨false, 3, intsI (lgRun s p0 i).2⟩ ∧ ∀ q, q < n → q ≠ R → g q = g2 q) (by omega) (by simp []) (by simp [upd_app])
    (fun _ => ⟨by simp [upd_app, t0], by simp [upd_app, t2], hX3, e3, r3, o3⟩) (by decide) ?_ ?_
  · clear hX3 e3 r3 o3 t0 t2
    rintro i t g n' hi t24 t23 ⟨t0, t2, hX, he, hr, ho⟩
    have hal := hall i hi
    obtain ⟨q1, q2⟩ := lgRun_len s p0 i
    have hsucc : lgRun s p0 (i + 1) = lgSt s (lgRun s p0 i) i := rfl
    obtain ⟨p, hp⟩ : ∃ p, lgRun s p0 i = p := ⟨_, rfl⟩
    rw [hp] at hal q1 q2 hsucc he hr
    have hiR : i < p.2.length := by omega
    have lr := ldI (m := row.length) (i := i) hr (by omega) hiR
    rw [rowAt_get hiR] at lr
    have iR := idxI R row.length i row.length hi
    refine s_run (by simp only [runL, awant_none, astep, evl, put, ap_none, List.length_nil, Nat.add_zero, upd_app, ↓reduceIte, t24] <;> rfl) ?_
    refine s_run (by simp only [runL, awant_none, astep, evl, put, ap_none, List.length_nil, Nat.add_zero, upd_app, reduceCtorEq, ↓reduceIte, Nat.reduceEqDiff, t0, nchk, fldX3, ldX3 hX, iR, lr] <;> rfl) ?_
    have stay : lgRun s p0 (i + 1) = p → ∀ t' : Nat → Value, t' 24 = .int .i64 i → t' 23 = .int .i64 row.length → t' 0 = t 0 → t' 2 = t 2 → (t' 24 = .int .i64 i ∧ t' 23 = .int .i64 row.length ∧ ∀ v1 v2 v3 : Value, (upd (upd (upd t' 52 v1) 24 v2) 25 v3) 0 = .pointer (some ⟨X, 0, some 4⟩) ∧ (upd (upd (upd t' 52 v1) 24 v2) 25 v3) 2 = .slice (some ⟨n, 0, some c.length⟩) c.length 1 ∧ SX X sv bv cv (.slice (some ⟨R, 0, some row.length⟩) row.length 1) g ∧ g n = some ⟨false, 3, ints (lgRun s p0 (i + 1)).1⟩ ∧ g R = some ⟨false, 3, intsI (lgRun s p0 (i + 1)).2⟩ ∧ ∀ q, q < n → q ≠ R → g q = g2 q) := by
      intro hf t' h10 h9 h4 h3
      rw [hf]
      exact ⟨h10, h9, fun _ _ _ => ⟨by simp [upd_app, h4, t0], by simp [upd_app, h3, t2], hX, he, hr, ho⟩⟩
    by_cases c0 : rowAt p i ≤ 0
    · have d0 : decide (rowAt p i > 0) = false := decide_eq_false (by omega)
      refine s_run (by simp only [runL, awant_some, List.getElem?_toArray, List.getElem?_cons_succ, List.getElem?_cons_zero, Option.bind_some, b_ft, awant_none, astep, evl, put, ap_none, List.length_nil, Nat.add_zero, upd_app, stepBin, abin, stepPick, ↓reduceIte, Nat.reduceEqDiff, Bool.false_eq_true, undef, d0] <;> rfl) ?_
      refine w_false (by simp [evl]) (w_skip ?_)
      simp only [rngPost]
      exact stay (by rw [hsucc, lgSt, if_neg (by omega)]) _ (by simp [upd_app, t24]) (by simp [upd_app, t23]) (by simp [upd_app]) (by simp [upd_app])
    have d0 : decide (rowAt p i > 0) = true := decide_eq_true (by omega)
    obtain ⟨hj, hok⟩ := hal (by omega)
    obtain ⟨y, hy⟩ : ∃ y : Nat, rowAt p i = ((y + 1 : Nat) : Int) := ⟨(rowAt p i).toNat - 1, by omega⟩
    have hsucc' : lgSt s p i = if smB s y = false then lg1 s p y else p := by
      unfold lgSt
      rw [hy, show ((y + 1 : Nat) : Int).toNat - 1 = y by omega]
      by_cases h : smB s y = false
      · rw [if_pos ⟨by omega, h⟩, if_pos h]
      · rw [if_neg (fun q => h q.2), if_neg h]
    rw [hy] at hj hok
    rw [show ((y + 1 : Nat) : Int).toNat - 1 = y by omega] at hj hok
    rw [hy]
    rw [hy] at d0
    have w2 : IntKind.i64.wrap (((y + 1 : Nat) : Int) - 1) = ((y : Nat) : Int) := by rw [wrap64_of (by omega) (by omega)]; omega
    have hbg : Src g bv 1 s.length (bools (smallL s)) := hb2.congr fun q hq => ho q (hbd q hq) (d2 q hq)
    obtain ⟨pb, ib, lb, _⟩ := srcL' hbg (show y < (smallL s).length by rw [smallL_len]; exact hj)
    rw [smallL_at hj] at lb
    cases h1 : smB s y with
    | true =>
      rw [h1] at lb
      refine s_run (by simp only [runL, awant_some, List.getElem?_toArray, List.getElem?_cons_succ, List.getElem?_cons_zero, Option.bind_some, b_tt, Bool.not_true, awant_none, astep, evl, put, ap_none, List.length_nil, Nat.add_zero, upd_app, stepBin, abin, stepUn, stepPick, reduceCtorEq, ↓reduceIte, Nat.reduceEqDiff, d0, t0, nchk, fldX1, ldX1 hX, w2, ib, lb] <;> rfl) ?_
      refine w_false (by simp [evl]) (w_skip ?_)
      simp only [rngPost]
      exact stay (by rw [hsucc, hsucc', h1]; rfl) _ (by simp [upd_app, t24]) (by simp [upd_app, t23]) (by simp [upd_app]) (by simp [upd_app])
    | false =>
      rw [h1] at lb
      rw [h1, if_pos rfl] at hsucc'
      have hok := hok h1
      refine s_run (by simp only [runL, awant_some, List.getElem?_toArray, List.getElem?_cons_succ, List.getElem?_cons_zero, Option.bind_some, b_tt, Bool.not_false, awant_none, astep, evl, put, ap_none, List.length_nil, Nat.add_zero, upd_app, stepBin, abin, stepUn, stepPick, reduceCtorEq, ↓reduceIte, Nat.reduceEqDiff, d0, t0, nchk, fldX1, ldX1 hX, w2, ib, lb] <;> rfl) ?_
      refine w_true (by simp [evl]) ?_
      have q3 : p.2.length = row.length := by omega
      have q4 : p.1.length = c.length := by omega
      have hsf := sfirst_spec X n R sv bv cv s p.1 p.2 y g 0 (by omega) (by omega) hok.1 hok.2.1 hok.2.2 (by rw [q3]; exact hX) he hr (hu2.congr fun q hq => ho q (hud q hq) (d1 q hq)) (by omega) hXR (by omega) (fun q hq => ⟨by have := hud q hq; omega, d1 q hq⟩)
      rw [q4] at hsf
      refine w_gen (fun t => t 0 = .pointer (some ⟨X, 0, some 4⟩) ∧ t 2 = .slice (some ⟨n, 0, some c.length⟩) c.length 1 ∧ t 4 = .int .i64 ((y + 1 : Nat) : Int) ∧ t 24 = .int .i64 i ∧ t 23 = .int .i64 row.length) (by simp [upd_app, t0, t2, t23, t24]) ?_
      clear t0 t2 t23 t24 stay
      rintro t ⟨t0, t2, t4, t24, t23⟩
      refine region_take (id := 7) 4 (by simp only [runL, List.take_succ_cons, List.take_zero, awant_none, astep, evl, put, ap_none, List.length_nil, Nat.add_zero, upd_app, stepBin, abin, ↓reduceIte, Nat.reduceEqDiff, t0, t2, t4, w2] <;> rfl) ?_
      refine ops_call 71 _ rfl (by simp only [upd_app, evl, List.map_cons, List.map_nil]; exact hsf) (fun h => (h rfl).elim) ?_
      refine ops_heap fun G2 hG2 => ?_
      rw [ap_w2] at hG2
      refine ops_run rfl ?_
      simp only [rngPost]
      refine ⟨by simp [upd_app, put, t24], by simp [upd_app, put, t23], fun _ _ _ => ⟨by simp [upd_app, put, t0], by simp [upd_app, put, t2], ?_, ?_, ?_, fun q hq1 hq2 => ?_⟩⟩
      · unfold SX; rw [hG2, upd_ne _ _ hXR, upd_ne _ _ (by omega)]; exact hX
      · rw [hG2, upd_ne _ _ (by omega), upd_self, hsucc, hsucc']; rfl
      · rw [hG2, upd_self, hsucc, hsucc']; rfl
      · rw [hG2, upd_ne _ _ hq2, upd_ne _ _ (by omega)]; exact ho q hq1 hq2
  · rintro t g n' ⟨t0, t2, hX, he, hr, ho⟩
    refine w_skip ⟨.inl rfl, by simp, [], fin_w1 rfl (by intro q hq; simp at hq) (by rw [hR2]; rfl) hr (fun q hq => SV1_plain (plain_intsI q hq)) fun i b hi hb => ?_⟩
    rw [ho i (hs i (hwf i b hb).1) hi]; exact hb
end Go.Proofs.Ytdpkhijbikbhnaa
