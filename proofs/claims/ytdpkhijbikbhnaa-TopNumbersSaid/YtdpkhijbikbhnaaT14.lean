import Derived.Test.YtdpkhijbikbhnaaT13
namespace Go.Proofs.Ytdpkhijbikbhnaa
open Go Abs Plain
set_option linter.unusedSimpArgs false
set_option linter.unusedVariables false

/-- How often each number below k stands there. -/
def cntL (l : List Nat) (k : Nat) : List Nat := (List.range k).map fun c => l.count c
theorem cntL_len (l : List Nat) (k : Nat) : (cntL l k).length = k := by simp [cntL]
theorem cntL_at {l : List Nat} {k c : Nat} (h : c < k) : byt (cntL l k) c = l.count c := by rw [byt_eq (by rw [cntL_len]; exact h)]; simp [cntL]
theorem cntL_push {l : List Nat} {k c : Nat} (h : c < k) : (cntL l k).set c (l.count c + 1) = cntL (l ++ [c]) k := by
  apply List.ext_getElem
  · simp [cntL]
  · intro i h1 h2
    rw [List.getElem_set]
    simp only [cntL, List.getElem_map, List.getElem_range, List.count_append]
    by_cases e : c = i
    · subst e; simp
    · rw [if_neg e]; simp [e]
theorem take_byt {l : List Nat} {k : Nat} (h : k < l.length) : l.take (k + 1) = l.take k ++ [byt l k] := by rw [List.take_succ_eq_append_getElem h, byt_eq h]

set_option maxRecDepth 10000 in
theorem counts_spec (v : Value) (s : List Nat) (k : Nat) (g : Heap) (j : Nat) (hl : s.length ≤ 2 ^ 38) (hk : k ≤ 1048576) (hs : ∀ x ∈ s, x < k) (hv : Src g v 1 s.length (ints s)) :
    FnSpec Try.prog 17 [v, .int .i64 k] g (okE (some (zs (cntL s k))) (srcBlk v) j) := by
  have hb := hs
  clear hs
  refine spec_of_body [4, 5] follows Try.func17 rfl (by kernel_rfl) (by simp [Try.f17]) (by kernel_rfl) rfl ?_
  intro g2 s2 n hg hfr hs hn hwf hsv
  rw [okE_fp] at hg
  have hv2 : Src g2 v 1 s.length (ints s) := hv.congr fun i hi => hg i hi
  have hvd := dom_of hs hwf hv2
  have hlen := hv2.len Try.underlying22
  clear hg hfr hn hv
  refine s_run (by simp only [runL, awant_none, astep, evl, put, ap_none, List.length_nil, Nat.add_zero, undef] <;> rfl) ?_
  have d0 : decide ((k : Int) < 0) = false := decide_eq_false (by omega)
  have d1 : decide ((k : Int) > 1048576) = false := decide_eq_false (by omega)
  refine w_assoc (s_run (by simp only [runL, awant_some, Option.getD_some, List.getElem?_toArray, List.getElem?_cons_succ, List.getElem?_cons_zero, Option.bind_some, b_ff, awant_none, astep, evl, put, ap_none, List.length_nil, Nat.add_zero, upd_app, stepBin, abin, stepPick, ↓reduceIte, Nat.reduceEqDiff, Bool.false_eq_true, d0, d1] <;> rfl) ?_)
  refine s_false (by simp [evl]) (s_skip ?_)
  refine s_run (by simp only [runL, Option.getD_some, List.getElem?_cons_succ, List.getElem?_cons_zero, awant_none, astep, evl, put, ap_none, ap_new, List.length_nil, List.length_cons, Nat.add_zero, Nat.zero_add, upd_app, ↓reduceIte, Nat.reduceEqDiff, mkInts k n (by omega)] <;> rfl) (w_heap fun G1 hG1 => ?_)
  have b1 : G1 n = some ⟨false, 3, ints (cntL (s.take 0) k)⟩ := by
    have : cntL (s.take 0) k = List.replicate k 0 := by unfold cntL; rw [List.eq_replicate_iff]; simp
    rw [hG1, this]; simp []
  have k1 : Kp n g2 G1 := by rw [hG1]; exact kp_upd (Kp.refl _ _) (Nat.le_refl _)
  refine w_assoc (s_run (by simp only [runL, Option.getD_some, List.getElem?_cons_zero, awant_none, astep, evl, put, ap_none, List.length_nil, Nat.add_zero, upd_app, stepCall, reduceCtorEq, ↓reduceIte, hlen] <;> rfl) ?_)
  refine s_rng s.length (fun i t g n' => t 1 = .int .i64 k ∧ t 6 = .slice (some ⟨n, 0, some k⟩) k 1 ∧ t 17 = v ∧ g n = some ⟨false, 3, ints (cntL (s.take i) k)⟩ ∧ Kp n g2 g) (by omega) (by simp []) (by simp [upd_app])
    (fun _ => ⟨by simp [upd_app], by simp [upd_app], by simp [upd_app], b1, k1⟩) (by decide) ?_ ?_
  · clear b1 k1 hG1
    rintro i t g n' hi t19 t18 ⟨t1, t6, t17, b, hkp⟩
    obtain ⟨p, i1, l1, _⟩ := srcN (hkp.src hv2 hvd) hi
    have hx : byt s i < k := hb _ (by rw [byt_eq hi]; exact List.getElem_mem hi)
    have htk := take_byt hi
    generalize byt s i = x at *
    have hc := cntL_at (l := s.take i) hx
    have hcb : (s.take i).count x ≤ 2 ^ 38 := by have := List.count_le_length (a := x) (l := s.take i); simp at this; omega
    have hset := cntL_push (l := s.take i) hx
    rw [← htk] at hset
    have d0 : decide ((x : Int) < 0) = false := decide_eq_false (by omega)
    have d1 : decide ((x : Int) ≥ (k : Int)) = false := decide_eq_false (by omega)
    refine s_run (by simp only [runL, awant_none, astep, evl, put, ap_none, List.length_nil, Nat.add_zero, upd_app, ↓reduceIte, t17, t19, i1, l1] <;> rfl) ?_
    refine w_assoc (s_run (by simp only [runL, awant_some, List.getElem?_toArray, List.getElem?_cons_succ, List.getElem?_cons_zero, Option.bind_some, b_ff, awant_none, astep, evl, put, ap_none, List.length_nil, Nat.add_zero, upd_app, stepBin, abin, stepPick, ↓reduceIte, Nat.reduceEqDiff, Bool.false_eq_true, t1, d0, d1] <;> rfl) ?_)
    refine s_false (by simp [evl]) (s_skip ?_)
    have iy := idxI n k x k hx
    have ly := ldN b (cntL_len _ _) (show x < _ by rw [cntL_len]; exact hx)
    rw [hc] at ly
    have w1 : IntKind.i64.wrap (((s.take i).count x : Nat) + 1 : Int) = (((s.take i).count x + 1 : Nat) : Int) := wrap_succ (by omega)
    have s1 := stN (x := (s.take i).count x + 1) b (cntL_len _ _) (show x < _ by rw [cntL_len]; exact hx)
    rw [hset] at s1
    refine region_run (id := 9) (by simp only [runL, awant_none, astep, evl, put, ap_none, ap_wr, List.length_nil, Nat.add_zero, upd_app, stepBin, abin, ↓reduceIte, Nat.reduceEqDiff, undef, t6, iy, ly, w1, s1] <;> rfl) ?_
    simp only [rngPost]
    exact ⟨by simp [upd_app, t19], by simp [upd_app, t18], fun _ _ _ => ⟨by simp [upd_app, t1], by simp [upd_app, t6], by simp [upd_app, t17], by simp [], kp_upd hkp (Nat.le_refl _)⟩⟩
  · rintro t g n' ⟨t1, t6, t17, b, hkp⟩
    rw [List.take_length] at b
    refine s_run (by simp only [runL, awant_none, astep, evl, put, ap_none, List.length_nil, Nat.add_zero, upd_app, ↓reduceIte, t6] <;> rfl) ?_
    exact w_ret (okE_some (k := n) (l := zs (cntL s k)) rfl (by simp [upd_app, cntL_len]) (by simp []) (Nat.le_refl _) (by rw [← ints_zs]; exact b) hs hwf hkp rfl)

/-- The first k of a row, then noughts. -/
def preR (l : List Nat) (k : Nat) : List Nat := l.take k ++ List.replicate (l.length - k) 0
theorem preR_len {l : List Nat} {k : Nat} (h : k ≤ l.length) : (preR l k).length = l.length := by simp [preR]; omega
theorem preR_zero (l : List Nat) : preR l 0 = List.replicate l.length 0 := by simp [preR]
theorem preR_all (l : List Nat) : preR l l.length = l := by simp [preR]
theorem preR_set {l : List Nat} {k : Nat} (h : k < l.length) : (preR l k).set k (byt l k) = preR l (k + 1) := by
  unfold preR
  rw [take_byt h, List.set_append_right _ _ (by simp; omega), show k - (l.take k).length = 0 by simp; omega]
  rw [show l.length - k = (l.length - (k + 1)) + 1 by omega, List.replicate_succ]
  simp
/-- How many there are ahead of each. -/
def startsL (c : List Nat) : List Nat := (List.range c.length).map fun i => (c.take i).sum
theorem startsL_len (c : List Nat) : (startsL c).length = c.length := by simp [startsL]
theorem startsL_at {c : List Nat} {i : Nat} (h : i < c.length) : byt (startsL c) i = (c.take i).sum := by rw [byt_eq (by rw [startsL_len]; exact h)]; simp [startsL]
theorem sum_take_le (c : List Nat) (i : Nat) : (c.take i).sum ≤ c.sum := by
  conv => rhs; rw [← List.take_append_drop i c, List.sum_append]
  omega

set_option maxRecDepth 10000 in
theorem starts_spec (v : Value) (c : List Nat) (g : Heap) (j : Nat) (hl : c.length ≤ 2 ^ 38) (hsum : c.sum ≤ 2 ^ 60) (hv : Src g v 1 c.length (ints c)) :
    FnSpec Try.prog 39 [v] g { v := .slice (some ⟨j, 0, some c.length⟩) c.length 1, r := srcBlk v, j := j, a := [⟨false, 3, ints (startsL c)⟩] } := by
  refine spec_of_body [2] follows Try.func39 rfl (by kernel_rfl) (by simp [Try.f39]) (by kernel_rfl) rfl ?_
  intro g2 s2 n hg hfr hs hn hwf hsv
  have hv2 : Src g2 v 1 c.length (ints c) := hv.congr fun i hi => hg i (by simp [Eff.fp, hi])
  have hvd : ∀ i ∈ srcBlk v, i < n := dom_of hs hwf hv2
  have hlen := hv2.len Try.underlying22
  clear hg hfr hn hv
  refine s_run (by simp only [runL, awant_none, astep, evl, put, ap_none, List.length_nil, Nat.add_zero, undef] <;> rfl) ?_
  refine s_run (by simp only [runL, Option.getD_some, List.getElem?_cons_zero, awant_none, astep, evl, put, ap_none, ap_new, List.length_nil, List.length_cons, Nat.add_zero, Nat.zero_add, upd_app, stepCall, reduceCtorEq, ↓reduceIte, hlen, mkInts c.length n (by omega)] <;> rfl) (w_heap fun G1 hG1 => ?_)
  have b1 : G1 n = some ⟨false, 3, ints (preR (startsL c) 0)⟩ := by rw [hG1, preR_zero, startsL_len]; simp []
  have k1 : Kp n g2 G1 := by rw [hG1]; exact kp_upd (Kp.refl _ _) (Nat.le_refl _)
  refine s_run (by simp only [runL, awant_none, astep, evl, put, ap_none, List.length_nil, Nat.add_zero] <;> rfl) ?_
  refine w_assoc (s_run (by simp only [runL, Option.getD_some, List.getElem?_cons_zero, awant_none, astep, evl, put, ap_none, List.length_nil, Nat.add_zero, upd_app, stepCall, reduceCtorEq, ↓reduceIte, hlen] <;> rfl) ?_)
  refine s_rng c.length (fun i t g n' => t 3 = .slice (some ⟨n, 0, some c.length⟩) c.length 1 ∧ t 4 = .int .i64 ((c.take i).sum : Nat) ∧ t 10 = v ∧ g n = some ⟨false, 3, ints (preR (startsL c) i)⟩ ∧ Kp n g2 g) (by omega) (by simp []) (by simp [upd_app])
    (fun _ => ⟨by simp [upd_app], by simp [upd_app], by simp [upd_app], b1, k1⟩) (by decide) ?_ ?_
  · clear b1 k1 hG1
    rintro i t g n' hi t12 t11 ⟨t3, t4, t10, b, hkp⟩
    obtain ⟨p, i1, l1, _⟩ := srcN (hkp.src hv2 hvd) hi
    have hsu : (c.take (i + 1)).sum = (c.take i).sum + byt c i := by rw [take_byt hi, List.sum_append]; simp
    have hle := sum_take_le c (i + 1)
    have hse := startsL_at hi
    have hset := preR_set (l := startsL c) (k := i) (by rw [startsL_len]; exact hi)
    rw [hse] at hset
    generalize byt c i = x at *
    have iy := idxI n c.length i c.length hi
    have s1 := stN (x := (c.take i).sum) (i := i) (m := c.length) b (by rw [preR_len (by rw [startsL_len]; omega), startsL_len]) (by rw [preR_len (by rw [startsL_len]; omega), startsL_len]; exact hi)
    rw [hset] at s1
    have w1 : IntKind.i64.wrap (((c.take i).sum : Nat) + (x : Nat) : Int) = (((c.take i).sum + x : Nat) : Int) := wrap_add (by omega)
    refine s_run (by simp only [runL, awant_none, astep, evl, put, ap_none, List.length_nil, Nat.add_zero, upd_app, ↓reduceIte, Nat.reduceEqDiff, t10, t12, i1, l1] <;> rfl) ?_
    refine s_run (by simp only [runL, awant_none, astep, evl, put, ap_none, ap_wr, List.length_nil, Nat.add_zero, upd_app, ↓reduceIte, Nat.reduceEqDiff, undef, t3, t4, iy, s1] <;> rfl) ?_
    refine region_run (id := 7) (by simp only [runL, awant_none, astep, evl, put, ap_none, List.length_nil, Nat.add_zero, upd_app, stepBin, abin, ↓reduceIte, Nat.reduceEqDiff, t4, w1] <;> rfl) ?_
    simp only [rngPost]
    exact ⟨by simp [upd_app, t12], by simp [upd_app, t11], fun _ _ _ => ⟨by simp [upd_app, t3], by simp [upd_app, hsu], by simp [upd_app, t10], by simp [], kp_upd hkp (Nat.le_refl _)⟩⟩
  · clear b1 k1 hG1
    rintro t g n' ⟨t3, t4, t10, b, hkp⟩
    have e := preR_all (startsL c)
    rw [startsL_len] at e
    rw [e] at b
    refine s_run (by simp only [runL, awant_none, astep, evl, put, ap_none, List.length_nil, Nat.add_zero, upd_app, ↓reduceIte, t3] <;> rfl) ?_
    exact w_ret (sl_fin (k := n) rfl (by simp []) (by simp [startsL_len]) (Nat.le_refl _) b (plain_is _) hs hwf hkp)
end Go.Proofs.Ytdpkhijbikbhnaa
