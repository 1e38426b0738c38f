import Derived.Test.YtdpkhijbikbhnaaT30
namespace Go.Proofs.Ytdpkhijbikbhnaa
open Go Abs Plain
set_option linter.unusedSimpArgs false
set_option linter.unusedVariables false

theorem byt_mem_lt {l : List Nat} {m x : Nat} (h : ∀ y ∈ l, y < m) (hm : 0 < m) : byt l x < m := by
  by_cases hx : x < l.length
  · rw [byt_eq hx]; exact h _ (List.getElem_mem hx)
  · simp [byt, List.getElem?_eq_none (show l.length ≤ x by omega)]; exact hm
theorem set_mem_lt {l : List Nat} {m x y : Nat} (h : ∀ z ∈ l, z < m) (hy : y < m) : ∀ z ∈ l.set x y, z < m := fun z hz => by
  rcases List.mem_or_eq_of_mem_set hz with hz | hz
  · exact h z hz
  · omega
theorem jnRun_lt (l : List Nat) (h : Nat) : ∀ i, i ≤ l.length → ∀ x ∈ jnRun l h i, x < l.length
  | 0, _, x, hx => by rw [jnRun] at hx; obtain ⟨h1, h2⟩ := List.mem_replicate.1 hx; omega
  | i + 1, hi, x, hx => by
    have ih := jnRun_lt l h i (by omega)
    have h1 := set_mem_lt (x := byt (joL l h) i) (y := i) ih (by omega)
    rw [jnRun] at hx
    split at hx
    · exact set_mem_lt h1 (byt_mem_lt h1 (by omega)) x hx
    · exact h1 x hx
theorem jnL_lt (l : List Nat) (h : Nat) : ∀ x ∈ jnL l h, x < (jnL l h).length := by rw [jnL_len]; exact jnRun_lt l h _ (Nat.le_refl _)
theorem drL_lt (s : List Nat) : ∀ x ∈ drL s, x < (drL s).length := by
  rw [drL_len]
  intro x hx
  obtain ⟨y, hy, rfl⟩ := List.mem_map.1 hx
  have h1 : (s.countP fun z => decide (z < y)) ≤ s.length := List.countP_le_length
  have h2 : (s.countP fun z => decide (z < y)) ≠ s.length := fun e => by
    have := List.countP_eq_length.1 e y hy
    simp at this
  show (s.countP fun z => decide (z < y)) < s.length
  omega

/-- Ranks by more and more numbers, up to h; at most f rounds. -/
def rkF : Nat → List Nat → Nat → Nat → List Nat
  | 0, l, _, _ => l
  | f + 1, l, n, h => if n < h then rkF f (jnL l (min n (h - n))) (n + min n (h - n)) h else l
theorem rkF_more : ∀ (f f' : Nat) (l : List Nat) (n h : Nat), 1 ≤ n → h - n ≤ f → h - n ≤ f' → rkF f l n h = rkF f' l n h
  | 0, 0, l, n, h, _, _, _ => rfl
  | 0, f' + 1, l, n, h, _, h1, _ => by rw [rkF, rkF, if_neg (by omega)]
  | f + 1, 0, l, n, h, _, _, h2 => by rw [rkF, rkF, if_neg (by omega)]
  | f + 1, f' + 1, l, n, h, h0, h1, h2 => by
    rw [rkF, rkF]
    split
    · exact rkF_more f f' _ _ _ (by omega) (by omega) (by omega)
    · rfl
/-- Of each place how many have an ending that begins with less. -/
def drkL (s : List Nat) (h : Nat) : List Nat := if h = 0 then List.replicate s.length 0 else rkF (min h s.length) (drL s) 1 (min h s.length)
theorem rkF_len (f : Nat) : ∀ (l : List Nat) (n h : Nat), (rkF f l n h).length = l.length := by
  induction f with
  | zero => intro l n h; rfl
  | succ f ih =>
    intro l n h
    rw [rkF]
    split
    · rw [ih, jnL_len]
    · rfl
theorem drkL_len (s : List Nat) (h : Nat) : (drkL s h).length = s.length := by
  unfold drkL; split
  · simp
  · rw [rkF_len, drL_len]

set_option maxRecDepth 40000 in
set_option maxHeartbeats 1000000 in
theorem dRanks_spec (v : Value) (s : List Nat) (h : Nat) (g : Heap) (jj : Nat) (hl : s.length ≤ 100000) (hh : h ≤ 2 ^ 37) (hv : Src g v 1 s.length (ints s)) :
    FnSpec Try.prog 21 [v, .int .i64 h] g { v := .slice (some ⟨jj, 0, some s.length⟩) s.length 1, r := srcBlk v, j := jj, a := [⟨false, 3, ints (drkL s h)⟩] } := by
  refine spec_of_body [4] follows Try.func21 rfl (by kernel_rfl) (by simp [Try.f21]) (by kernel_rfl) rfl ?_
  intro g2 s2 n hg hfr hs hn hwf hsv
  have hv2 : Src g2 v 1 s.length (ints s) := hv.congr fun i hi => hg i (by simp [Eff.fp, hi])
  have hvd : ∀ i ∈ srcBlk v, i < n := dom_of hs hwf hv2
  have hlen := hv2.len Try.underlying22
  clear hg hfr hn hv
  have d1 : decide ((h : Int) < 0) = false := decide_eq_false (by omega)
  have d2 : decide ((s.length : Int) > 100000) = false := decide_eq_false (by omega)
  refine s_run (by simp only [runL, awant_none, astep, evl, put, ap_none, List.length_nil, Nat.add_zero, undef] <;> rfl) ?_
  refine w_assoc (s_run (by simp only [runL, awant_some, Option.getD_some, List.getElem?_toArray, List.getElem?_cons_succ, List.getElem?_cons_zero, Option.bind_some, b_ff, awant_none, astep, evl, put, ap_none, List.length_nil, Nat.add_zero, upd_app, stepBin, abin, stepPick, stepCall, reduceCtorEq, ↓reduceIte, Nat.reduceEqDiff, Bool.false_eq_true, hlen, d1, d2] <;> rfl) ?_)
  refine s_false (by simp [evl]) (s_skip ?_)
  refine s_run (by simp only [runL, Option.getD_some, List.getElem?_cons_zero, awant_none, astep, evl, put, ap_none, ap_new, List.length_nil, List.length_cons, Nat.add_zero, Nat.zero_add, upd_app, stepCall, reduceCtorEq, ↓reduceIte, hlen, mkInts s.length n (by omega)] <;> rfl) (w_heap fun G1 hG1 => ?_)
  have b1 : G1 n = some ⟨false, 3, ints (List.replicate s.length 0)⟩ := by rw [hG1]; simp []
  have k1 : Kp n g2 G1 := by rw [hG1]; exact kp_upd (Kp.refl _ _) (Nat.le_refl _)
  clear hG1
  by_cases h0 : h = 0
  · subst h0
    have e1 : (((0 : Nat) : Int) == 0) = true := rfl
    refine w_assoc (s_run (by simp only [runL, Option.getD_some, List.getElem?_cons_succ, List.getElem?_cons_zero, awant_none, astep, evl, put, ap_none, List.length_nil, Nat.add_zero, upd_app, stepBin, abin, ↓reduceIte, Nat.reduceEqDiff, e1] <;> rfl) ?_)
    refine s_true (by simp [evl]) (w_assoc (s_run (by simp only [runL, awant_none, astep, evl, put, ap_none, List.length_nil, Nat.add_zero, upd_app, ↓reduceIte, Nat.reduceEqDiff] <;> rfl) ?_))
    refine s_ret ?_
    exact sl_fin (k := n) rfl (by simp []) (by simp [drkL]) (Nat.le_refl _) (by rw [b1]; rfl) (plain_is _) hs hwf k1
  have e1 : ((h : Int) == 0) = false := ieq_f (by omega)
  refine w_assoc (s_run (by simp only [runL, Option.getD_some, List.getElem?_cons_succ, List.getElem?_cons_zero, awant_none, astep, evl, put, ap_none, List.length_nil, Nat.add_zero, upd_app, stepBin, abin, ↓reduceIte, Nat.reduceEqDiff, e1] <;> rfl) ?_)
  refine s_false (by simp [evl]) (s_skip ?_)
  refine w_gen (fun t => t 0 = v ∧ t 1 = .int .i64 h) (by simp [upd_app]) ?_
  rintro t ⟨t0, t1⟩
  show awp _ _ _ _ G1 (n + 1)
  refine s_take 1 (by simp only [runL, List.take_succ_cons, List.take_zero, awant_none, astep, evl, put, ap_none, List.length_nil, Nat.add_zero, t0] <;> rfl) ?_
  refine ops_call 40 _ rfl (by simp only [upd_app, evl, List.map_cons, List.map_nil]; exact dranks_spec v s G1 (n + 1) (by omega) (k1.src hv2 hvd)) (fun _ => rfl) ?_
  refine ops_heap fun G2 hG2 => ?_
  have b2 : G2 (n + 1) = some ⟨false, 3, ints (drL s)⟩ := by rw [hG2]; simp [ap_new]
  have k2 : Kp n g2 G2 := by rw [hG2]; simp only [ap_new]; exact kp_upd k1 (by omega)
  clear hG2 b1
  refine ops_run (by simp only [runL, awant_none, astep, evl, put, ap_none, List.length_nil, List.length_cons, Nat.add_zero, Nat.zero_add, upd_app, ↓reduceIte] <;> rfl) ?_
  refine w_gen (fun t => t 0 = v ∧ t 1 = .int .i64 h ∧ t 5 = .slice (some ⟨n + 1, 0, some s.length⟩) s.length 1) (by simp [upd_app, t0, t1]) ?_
  clear t0 t1
  rintro t ⟨t0, t1, t5⟩
  show awp _ _ _ _ G2 (n + 2)
  have hmn := min_nat h s.length
  obtain ⟨hm, hhm⟩ : ∃ hm, min h s.length = hm := ⟨_, rfl⟩
  have hfinal : drkL s h = rkF hm (drL s) 1 hm := by unfold drkL; rw [if_neg h0, hhm]
  have hmh : hm ≤ h := by rw [← hhm]; exact Nat.min_le_left _ _
  rw [hhm] at hmn
  refine s_run (by simp only [runL, awant_none, astep, evl, put, ap_none, List.length_nil, Nat.add_zero, upd_app, stepCall, reduceCtorEq, ↓reduceIte, Nat.reduceEqDiff, t0, t1, hlen, hmn] <;> rfl) ?_
  refine w_assoc (s_run (by simp only [runL, awant_none, astep, evl, put, ap_none, List.length_nil, Nat.add_zero] <;> rfl) ?_)
  refine s_block (fun t g n' => ∃ q, t 5 = .slice (some ⟨q, 0, some s.length⟩) s.length 1 ∧ n ≤ q ∧ g q = some ⟨false, 3, ints (drkL s h)⟩ ∧ Kp n g2 g) ?_ ?_
  · refine w_loop (fun t g n' => ∃ (L : List Nat) (m q : Nat), L.length = s.length ∧ (∀ x ∈ L, x < L.length) ∧ 1 ≤ m ∧ m ≤ 2 ^ 38 ∧ rkF (hm - m) L m hm = drkL s h ∧ t 1 = .int .i64 hm ∧ t 5 = .slice (some ⟨q, 0, some s.length⟩) s.length 1 ∧ t 6 = .int .i64 m ∧ n ≤ q ∧ q < n' ∧ g q = some ⟨false, 3, ints L⟩ ∧ Kp n g2 g)
      (fun t _ _ => match t 6 with | .int _ k => hm - k.toNat | _ => 0) ⟨drL s, 1, n + 1, drL_len s, drL_lt s, Nat.le_refl _, by omega, by rw [hfinal]; exact rkF_more _ _ _ _ _ (by omega) (by omega) (by omega), by simp [upd_app], by simp [upd_app, t5], by simp [], by omega, by omega, b2, k2⟩ ?_
    clear t0 t1 t5 b2 k2
    rintro t g n' ⟨L, m, q, hL, hlt, hm1, hm2, hrk, t1, t5, t6, hq1, hq2, b, hkp⟩
    by_cases c : m < hm
    · have d : decide ((m : Int) < (hm : Int)) = true := decide_eq_true (by omega)
      have w1 : IntKind.i64.wrap ((hm : Int) - (m : Int)) = ((hm - m : Nat) : Int) := by rw [wrap64_of (by omega) (by omega)]; omega
      have hmn2 := min_nat m (hm - m)
      have hstep : rkF (hm - m) L m hm = rkF (hm - (m + min m (hm - m))) (jnL L (min m (hm - m))) (m + min m (hm - m)) hm := by
        rw [rkF_more (hm - m) (hm - m - 1 + 1) L m hm hm1 (by omega) (by omega), rkF, if_pos c]
        exact rkF_more _ _ _ _ _ (by omega) (by omega) (by omega)
      rw [hstep] at hrk
      obtain ⟨y, hy⟩ : ∃ y, min m (hm - m) = y := ⟨_, rfl⟩
      have hy1 : 1 ≤ y ∧ y ≤ m ∧ m + y ≤ hm := by omega
      rw [hy] at hrk hmn2
      have hsr : Src g (.slice (some ⟨q, 0, some s.length⟩) s.length 1) 1 L.length (ints L) := by rw [hL]; exact src_cells b (by simp [hL])
      have hjo := joined_spec (.slice (some ⟨q, 0, some s.length⟩) s.length 1) L y g n' (by omega) (by omega) hlt hsr
      have w2 : IntKind.i64.wrap ((m : Int) + (y : Int)) = ((m + y : Nat) : Int) := wrap_add (by omega)
      have hjl := jnL_len L y
      have hjl2 := joL_len L y
      have hμ : (match t 6 with | .int _ k => hm - k.toNat | _ => 0) = hm - m := by rw [t6]; rfl
      rw [hμ]
      refine w_assoc (s_run (by simp only [runL, awant_none, astep, evl, put, ap_none, List.length_nil, Nat.add_zero, upd_app, stepBin, abin, ↓reduceIte, Nat.reduceEqDiff, t1, t6, d] <;> rfl) ?_)
      refine s_true (by simp [evl]) (s_skip (w_block ?_))
      refine s_run (by simp only [runL, awant_none, astep, evl, put, ap_none, List.length_nil, Nat.add_zero, upd_app, stepBin, abin, stepCall, ↓reduceIte, Nat.reduceEqDiff, t1, t6, w1, hmn2] <;> rfl) ?_
      refine s_take 2 (by simp only [runL, List.take_succ_cons, List.take_zero, awant_none, astep, evl, put, ap_none, List.length_nil, Nat.add_zero, upd_app, ↓reduceIte, Nat.reduceEqDiff, t5] <;> rfl) ?_
      refine ops_call 41 _ rfl (by simp only [upd_app, evl, List.map_cons, List.map_nil]; exact hjo) (fun _ => rfl) ?_
      refine ops_heap fun G3 hG3 => ?_
      rw [twE_ap] at hG3
      have b3 : G3 n' = some ⟨false, 3, ints (jnL L y)⟩ := by rw [hG3, upd_ne _ _ (by omega), upd_self]
      have k3 : Kp n g2 G3 := by rw [hG3]; exact kp_upd (kp_upd hkp (by omega)) (by omega)
      clear hG3
      refine ops_run (by simp only [runL, List.getElem?_toArray, List.getElem?_cons_succ, List.getElem?_cons_zero, awant_none, astep, evl, put, ap_none, List.length_nil, List.length_cons, Nat.add_zero, Nat.zero_add, upd_app, stepExtract, ↓reduceIte, Nat.reduceEqDiff, Nat.reduceAdd, twE, hjl, hjl2, hL] <;> rfl) ?_
      refine region_run (id := 12) (by simp only [runL, awant_none, astep, evl, put, ap_none, List.length_nil, Nat.add_zero, upd_app, stepBin, abin, ↓reduceIte, Nat.reduceEqDiff, t6, w2] <;> rfl) ?_
      refine ⟨⟨jnL L y, m + y, n', by rw [hjl, hL], jnL_lt L y, by omega, by omega, hrk, by simp [upd_app, t1], by simp [upd_app], by simp [], by omega, ?_, b3, k3⟩, ?_⟩
      · show n' < n' + 2
        omega
      · simp only [upd_app]
        show hm - ((m + y : Nat) : Int).toNat < _
        rw [Int.toNat_natCast]
        omega
    · have d : decide ((m : Int) < (hm : Int)) = false := decide_eq_false (by omega)
      refine w_assoc (s_run (by simp only [runL, awant_none, astep, evl, put, ap_none, List.length_nil, Nat.add_zero, upd_app, stepBin, abin, ↓reduceIte, Nat.reduceEqDiff, t1, t6, d] <;> rfl) ?_)
      refine s_false (by simp [evl]) (s_exit ?_)
      rw [show hm - m = 0 by omega, rkF] at hrk
      exact ⟨q, by simp [upd_app, t5], hq1, by rw [← hrk]; exact b, hkp⟩
  · rintro t g n' ⟨q, t5, hq1, b, hkp⟩
    refine s_run (by simp only [runL, awant_none, astep, evl, put, ap_none, List.length_nil, Nat.add_zero, upd_app, ↓reduceIte, t5] <;> rfl) ?_
    exact w_ret (sl_fin (k := q) rfl (by simp []) (by simp [drkL_len]) hq1 b (plain_is _) hs hwf hkp)

/-- The places in their order, out of their ranks. -/
def ouRun (r : List Nat) : Nat → List Nat
  | 0 => List.replicate r.length 0
  | i + 1 => (ouRun r i).set (byt r i) i
theorem ouRun_len (r : List Nat) : ∀ i, (ouRun r i).length = r.length
  | 0 => by simp [ouRun]
  | i + 1 => by simp [ouRun, ouRun_len r i]
def dblL (s : List Nat) : List Nat := ouRun (drkL s s.length) s.length
theorem dblL_len (s : List Nat) : (dblL s).length = s.length := by unfold dblL; rw [ouRun_len, drkL_len]
theorem rkF_lt (f : Nat) : ∀ (l : List Nat) (n h : Nat), (∀ x ∈ l, x < l.length) → ∀ x ∈ rkF f l n h, x < l.length := by
  induction f with
  | zero => intro l n h hx; exact hx
  | succ f ih =>
    intro l n h hx
    rw [rkF]
    split
    · have := ih (jnL l (min n (h - n))) (n + min n (h - n)) h (jnL_lt _ _)
      rwa [jnL_len] at this
    · exact hx
theorem drkL_lt (s : List Nat) (h : Nat) : ∀ x ∈ drkL s h, x < s.length := by
  unfold drkL
  split
  · intro x hx; obtain ⟨h1, h2⟩ := List.mem_replicate.1 hx; omega
  · intro x hx
    have := rkF_lt _ _ _ _ (drL_lt s) x hx
    rwa [drL_len] at this

set_option maxRecDepth 40000 in
theorem dInts_spec (v : Value) (s : List Nat) (k : Nat) (g : Heap) (jj : Nat) (hl : s.length ≤ 100000) (hk : k ≤ 1048576) (hsk : ∀ x ∈ s, x < k) (hv : Src g v 1 s.length (ints s)) :
    FnSpec Try.prog 7 [v, .int .i64 k] g (ieE (dblL s) (srcBlk v) jj) := by
  refine spec_of_body [4, 5] follows Try.func7 rfl (by kernel_rfl) (by simp [Try.f7]) (by kernel_rfl) rfl ?_
  intro g2 s2 n hg hfr hs hn hwf hsv
  rw [ieE_fp] at hg
  have hv2 : Src g2 v 1 s.length (ints s) := hv.congr fun i hi => hg i hi
  have hvd := dom_of hs hwf hv2
  have hlen := hv2.len Try.underlying22
  clear hg hfr hn hv
  have d : decide ((s.length : Int) > 100000) = false := decide_eq_false (by omega)
  refine s_run (by simp only [runL, awant_none, astep, evl, put, ap_none, List.length_nil, Nat.add_zero, undef] <;> rfl) ?_
  refine w_assoc (s_run (by simp only [runL, Option.getD_some, List.getElem?_cons_zero, awant_none, astep, evl, put, ap_none, List.length_nil, Nat.add_zero, upd_app, stepBin, abin, stepCall, reduceCtorEq, ↓reduceIte, hlen, d] <;> rfl) ?_)
  refine s_false (by simp [evl]) (s_skip ?_)
  refine w_assoc (s_take 2 (by simp only [runL, Option.getD_some, List.getElem?_cons_succ, List.getElem?_cons_zero, List.take_succ_cons, List.take_zero, awant_none, astep, evl, put, ap_none, List.length_nil, Nat.add_zero, upd_app, reduceCtorEq, ↓reduceIte, Nat.reduceEqDiff] <;> rfl) ?_)
  refine ops_call 17 _ rfl (counts_spec v s k g2 n (by omega) hk hsk hv2) (fun _ => rfl) ?_
  refine ops_heap fun G1 hG1 => ?_
  have k1 : Kp n g2 G1 := by rw [hG1]; simp only [okE, ap_new]; exact kp_upd (Kp.refl _ _) (Nat.le_refl _)
  clear hG1
  refine ops_run (by simp only [runL, List.getElem?_toArray, List.getElem?_cons_succ, List.getElem?_cons_zero, awant_none, astep, evl, put, ap_none, List.length_nil, List.length_cons, Nat.add_zero, Nat.zero_add, upd_app, stepExtract, ↓reduceIte, Nat.reduceEqDiff, okE] <;> rfl) ?_
  refine w_assoc (s_run (by simp only [runL, Bool.not_true, awant_none, astep, evl, put, ap_none, List.length_nil, Nat.add_zero, upd_app, stepUn, ↓reduceIte] <;> rfl) ?_)
  refine s_false (by simp [evl]) (s_skip ?_)
  refine w_gen (fun t => t 0 = v) (by simp [upd_app]) ?_
  rintro t t0
  show awp _ _ _ _ G1 (n + 1)
  refine s_run (by simp only [runL, awant_none, astep, evl, put, ap_none, ap_new, List.length_nil, List.length_cons, Nat.add_zero, Nat.zero_add, upd_app, stepCall, ↓reduceIte, t0, hlen, mkInts s.length (n + 1) (by omega)] <;> rfl) (w_heap fun G2 hG2 => ?_)
  have b2 : G2 (n + 1) = some ⟨false, 3, ints (ouRun (drkL s s.length) 0)⟩ := by rw [hG2]; simp [ouRun, drkL_len]
  have k2 : Kp n g2 G2 := by rw [hG2]; exact kp_upd k1 (by omega)
  clear hG2
  refine w_assoc (s_take 3 (by simp only [runL, List.take_succ_cons, List.take_zero, awant_none, astep, evl, put, ap_none, List.length_nil, Nat.add_zero, upd_app, stepCall, reduceCtorEq, ↓reduceIte, t0, hlen] <;> rfl) ?_)
  refine ops_call 21 _ rfl (by simp only [upd_app, evl, List.map_cons, List.map_nil]; exact dRanks_spec v s s.length G2 (n + 2) hl (by omega) (k2.src hv2 hvd)) (fun _ => rfl) ?_
  dsimp only
  refine ops_heap fun G3 hG3 => ?_
  have b3 : G3 (n + 2) = some ⟨false, 3, ints (drkL s s.length)⟩ := by rw [hG3]; simp [ap_new]
  have a3 : G3 (n + 1) = some ⟨false, 3, ints (ouRun (drkL s s.length) 0)⟩ := by rw [hG3]; simp only [ap_new]; rw [upd_ne _ _ (by omega)]; exact b2
  have k3 : Kp n g2 G3 := by rw [hG3]; simp only [ap_new]; exact kp_upd k2 (by omega)
  clear hG3
  refine ops_run (by simp only [runL, awant_none, astep, evl, put, ap_none, List.length_nil, List.length_cons, Nat.add_zero, Nat.zero_add, upd_app, stepCall, ↓reduceIte, lenI] <;> rfl) ?_
  refine s_rng s.length (fun i t g _ => t 8 = .slice (some ⟨n + 1, 0, some s.length⟩) s.length 1 ∧ t 28 = .slice (some ⟨n + 2, 0, some s.length⟩) s.length 1 ∧ g (n + 1) = some ⟨false, 3, ints (ouRun (drkL s s.length) i)⟩ ∧ g (n + 2) = some ⟨false, 3, ints (drkL s s.length)⟩ ∧ Kp n g2 g) (by omega) (by simp []) (by simp [upd_app])
    (fun _ => ⟨by simp [upd_app], by simp [upd_app], a3, b3, k3⟩) (by decide) ?_ ?_
  · clear a3 b3 k3 t0 b2 k2
    rintro i t g n' hi t30 t29 ⟨t8, t28, bo, br, hkp⟩
    have hrl := drkL_len s s.length
    have ir := idxI (n + 2) s.length i s.length hi
    have lr := ldN (m := s.length) (i := i) br hrl (by rw [hrl]; exact hi)
    have hx := drkL_lt s s.length (byt (drkL s s.length) i) (by rw [byt_eq (by rw [hrl]; exact hi)]; exact List.getElem_mem _)
    have hsucc : ouRun (drkL s s.length) (i + 1) = (ouRun (drkL s s.length) i).set (byt (drkL s s.length) i) i := rfl
    obtain ⟨x, hxx⟩ : ∃ x, byt (drkL s s.length) i = x := ⟨_, rfl⟩
    rw [hxx] at hx lr hsucc
    have hol : (ouRun (drkL s s.length) i).length = s.length := by rw [ouRun_len, hrl]
    have ix := idxI (n + 1) s.length x s.length hx
    have s1 := stN (m := s.length) (i := x) (x := i) bo hol (by rw [hol]; exact hx)
    rw [← hsucc] at s1
    refine s_run (by simp only [runL, awant_none, astep, evl, put, ap_none, List.length_nil, Nat.add_zero, upd_app, ↓reduceIte, Nat.reduceEqDiff, t28, t30, ir, lr] <;> rfl) ?_
    refine region_run (id := 10) (by simp only [runL, awant_none, astep, evl, put, ap_none, ap_wr, List.length_nil, Nat.add_zero, upd_app, ↓reduceIte, Nat.reduceEqDiff, undef, t8, ix, s1] <;> rfl) ?_
    simp only [rngPost]
    exact ⟨by simp [upd_app, t30], by simp [upd_app, t29], fun _ _ _ => ⟨by simp [upd_app, t8], by simp [upd_app, t28], by rw [upd_self], by rw [upd_ne _ _ (by omega)]; exact br, kp_upd hkp (by omega)⟩⟩
  · rintro t g n' ⟨t8, t28, bo, br, hkp⟩
    refine s_run (by simp only [runL, awant_none, astep, evl, put, ap_none, List.length_nil, Nat.add_zero, upd_app, ↓reduceIte, t8] <;> rfl) ?_
    exact w_ret (ieE_fin (k := n + 1) rfl (by simp [upd_app]) (dblL_len s).symm (by simp []) (by omega) bo hs hwf hkp)

set_option maxRecDepth 40000 in
theorem dBytes_spec (v : Value) (s : List Nat) (g : Heap) (jj : Nat) (hl : s.length ≤ 100000) (hb : ∀ x ∈ s, x < 256) (hv : Src g v 1 s.length (bs s)) :
    FnSpec Try.prog 63 [v] g (ieE (dblL s) (srcBlk v) jj) := by
  refine spec_of_body [2, 3] follows Try.func63 rfl (by kernel_rfl) (by simp [Try.f63]) (by kernel_rfl) rfl ?_
  intro g2 s2 n hg hfr hs hn hwf hsv
  rw [ieE_fp] at hg
  have hv2 : Src g2 v 1 s.length (bs s) := hv.congr fun i hi => hg i hi
  have hvd := dom_of hs hwf hv2
  have hlen := hv2.len Try.underlying30
  clear hg hfr hn hv
  have d : decide ((s.length : Int) > 100000) = false := decide_eq_false (by omega)
  refine s_run (by simp only [runL, awant_none, astep, evl, put, ap_none, List.length_nil, Nat.add_zero, undef] <;> rfl) ?_
  refine w_assoc (s_run (by simp only [runL, Option.getD_some, List.getElem?_cons_zero, awant_none, astep, evl, put, ap_none, List.length_nil, Nat.add_zero, upd_app, stepBin, abin, stepCall, reduceCtorEq, ↓reduceIte, hlen, d] <;> rfl) ?_)
  refine s_false (by simp [evl]) (s_skip ?_)
  refine s_run (by simp only [runL, Option.getD_some, List.getElem?_cons_zero, awant_none, astep, evl, put, ap_none, ap_new, List.length_nil, List.length_cons, Nat.add_zero, Nat.zero_add, upd_app, stepCall, reduceCtorEq, ↓reduceIte, hlen, mkInts s.length n (by omega)] <;> rfl) (w_heap fun G2 hG2 => ?_)
  have b2 : G2 n = some ⟨false, 3, ints (preR s 0)⟩ := by rw [hG2, preR_zero]; simp []
  have k2 : Kp n g2 G2 := by rw [hG2]; exact kp_upd (Kp.refl _ _) (Nat.le_refl _)
  clear hG2
  refine w_assoc (s_run (by simp only [runL, Option.getD_some, List.getElem?_cons_zero, awant_none, astep, evl, put, ap_none, List.length_nil, Nat.add_zero, upd_app, stepCall, reduceCtorEq, ↓reduceIte, hlen] <;> rfl) ?_)
  refine s_rng s.length (fun i t g n' => t 4 = .slice (some ⟨n, 0, some s.length⟩) s.length 1 ∧ t 13 = v ∧ g n = some ⟨false, 3, ints (preR s i)⟩ ∧ Kp n g2 g ∧ n' = n + 1) (by omega) (by simp []) (by simp [upd_app])
    (fun _ => ⟨by simp [upd_app], by simp [upd_app], b2, k2, rfl⟩) (by decide) ?_ ?_
  · clear b2 k2
    rintro i t g n' hi t15 t14 ⟨t4, t13, b, hkp, hnn⟩
    obtain ⟨p, i1, l1, _⟩ := srcB (hkp.src hv2 hvd) hi
    have hbk := byt_lt hb i
    have w1 : IntKind.i64.wrap ((byt s i : Nat) : Int) = ((byt s i : Nat) : Int) := wrap_nat (by omega)
    have hpl := preR_len (l := s) (k := i) (by omega)
    have ix := idxI n s.length i s.length hi
    have s1 := stN (m := s.length) (i := i) (x := byt s i) b hpl (by rw [hpl]; exact hi)
    rw [preR_set hi] at s1
    refine s_run (by simp only [runL, awant_none, astep, evl, put, ap_none, List.length_nil, Nat.add_zero, upd_app, ↓reduceIte, Nat.reduceEqDiff, t13, t15, i1, l1] <;> rfl) ?_
    refine region_run (id := 7) (by simp only [runL, awant_none, astep, evl, put, ap_none, ap_wr, List.length_nil, Nat.add_zero, upd_app, ↓reduceIte, Nat.reduceEqDiff, undef, t4, conv5_3, w1, ix, s1] <;> rfl) ?_
    simp only [rngPost]
    exact ⟨by simp [upd_app, t15], by simp [upd_app, t14], fun _ _ _ => ⟨by simp [upd_app, t4], by simp [upd_app, t13], by rw [upd_self], kp_upd hkp (Nat.le_refl _), hnn⟩⟩
  · rintro t g N ⟨t4, t13, b, hkp, rfl⟩
    rw [preR_all] at b
    have hsO : Src g (.slice (some ⟨n, 0, some s.length⟩) s.length 1) 1 s.length (ints s) := src_cells b (by simp)
    have hsp := dInts_spec _ s 256 g (n + 1) hl (by omega) hb hsO
    refine s_take 1 (by simp only [runL, List.take_succ_cons, List.take_zero, awant_none, astep, evl, put, ap_none, List.length_nil, Nat.add_zero, t4] <;> rfl) ?_
    refine ops_call 7 _ rfl (by simp only [upd_app, evl, List.map_cons, List.map_nil]; exact hsp) (fun _ => rfl) ?_
    refine ops_heap fun G3 hG3 => ?_
    have b3 : G3 (n + 1) = some ⟨false, 3, ints (dblL s)⟩ := by rw [hG3]; simp only [ieE, ap_new]; simp []
    have k3 : Kp n g2 G3 := by rw [hG3]; simp only [ieE, ap_new]; exact kp_upd hkp (by omega)
    refine ops_run (by simp only [runL, List.getElem?_toArray, List.getElem?_cons_succ, List.getElem?_cons_zero, awant_none, astep, evl, put, ap_none, List.length_nil, List.length_cons, Nat.add_zero, Nat.zero_add, upd_app, stepExtract, ↓reduceIte, Nat.reduceEqDiff, ieE] <;> rfl) ?_
    refine w_ret ?_
    exact ieE_fin (k := n + 1) rfl (by simp [upd_app]) rfl (by simp []) (by omega) b3 hs hwf k3
end Go.Proofs.Ytdpkhijbikbhnaa
