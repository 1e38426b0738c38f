import Derived.Test.YtdpkhijbikbhnaaT32
namespace Go.Proofs.Ytdpkhijbikbhnaa
open Go Abs Plain
set_option linter.unusedSimpArgs false
set_option linter.unusedVariables false

/-- The ending of a place of the sample is less than that of another place. -/
def lessB (s r : List Nat) (i j : Nat) : Bool :=
  if keyN s i ≠ keyN s j then decide (keyN s i < keyN s j)
  else if (i + 1) % 3 ≠ 0 ∧ (j + 1) % 3 ≠ 0 then decide (byt r (min (i + 1) s.length) < byt r (min (j + 1) s.length))
  else if keyN s (i + 1) ≠ keyN s (j + 1) then decide (keyN s (i + 1) < keyN s (j + 1))
  else decide (byt r (min (i + 2) s.length) < byt r (min (j + 2) s.length))

set_option maxRecDepth 20000 in
set_option maxHeartbeats 1000000 in
theorem less_spec (v u : Value) (s r : List Nat) (i j : Nat) (g : Heap) (hl : s.length ≤ 2 ^ 37) (hr : s.length < r.length) (hi : i ≤ 2 ^ 37) (hj : j ≤ 2 ^ 37) (hx : ∀ x ∈ s, x ≤ 2 ^ 38) (hi3 : i % 3 ≠ 0) (hj3 : j % 3 = 0)
    (hv : Src g v 1 s.length (ints s)) (hu : Src g u 1 r.length (ints r)) :
    FnSpec Try.prog 38 [v, u, .int .i64 i, .int .i64 j] g { v := .bool (lessB s r i j), r := srcBlk v ++ srcBlk u } := by
  refine spec_of_body [8] follows Try.func38 rfl (by kernel_rfl) (by simp [Try.f38]) (by kernel_rfl) rfl ?_
  intro g2 s2 n hg hfr hs hn hwf hsv
  have hv2 : Src g2 v 1 s.length (ints s) := hv.congr fun i hi => hg i (by simp [Eff.fp, hi])
  have hvd : ∀ i ∈ srcBlk v, i < n := dom_of hs hwf hv2
  have hu2 : Src g2 u 1 r.length (ints r) := hu.congr fun i hi => hg i (by simp [Eff.fp, hi])
  have hud : ∀ i ∈ srcBlk u, i < n := dom_of hs hwf hu2
  have hlen := hv2.len Try.underlying22
  clear hg hfr hn hv hu
  refine s_run (by simp only [runL, awant_none, astep, evl, put, ap_none, List.length_nil, Nat.add_zero, undef] <;> rfl) ?_
  refine w_block ?_
  refine w_loop (fun t g n' => ∃ k, t 0 = v ∧ t 1 = u ∧ t 2 = .int .i64 ((i + k : Nat) : Int) ∧ t 3 = .int .i64 ((j + k : Nat) : Int) ∧ g2 = g ∧ k ≤ 1 ∧ (k = 1 → keyN s i = keyN s j ∧ ¬ ((i + 1) % 3 ≠ 0 ∧ (j + 1) % 3 ≠ 0)))
    (fun t _ _ => match t 2 with | .int _ q => i + 1 - q.toNat | _ => 0) ⟨0, by simp [upd_app], by simp [upd_app], by simp [upd_app], by simp [upd_app], rfl, by omega, fun h => by omega⟩ ?_
  rintro t g n' ⟨k, t0, t1, t2, t3, rfl, hk, hk1⟩
  have hB : lessB s r i j = if keyN s (i + k) ≠ keyN s (j + k) then decide (keyN s (i + k) < keyN s (j + k)) else if (i + (k + 1)) % 3 ≠ 0 ∧ (j + (k + 1)) % 3 ≠ 0 then decide (byt r (min (i + (k + 1)) s.length) < byt r (min (j + (k + 1)) s.length)) else lessB s r i j := by
    unfold lessB
    by_cases e : k = 0
    · subst e
      by_cases q1 : keyN s i ≠ keyN s j
      · simp only [Nat.add_zero, Nat.zero_add, if_pos q1]
      · simp only [Nat.add_zero, Nat.zero_add, if_neg q1]
        by_cases q2 : (i + 1) % 3 ≠ 0 ∧ (j + 1) % 3 ≠ 0
        · simp only [if_pos q2]
        · simp only [if_neg q2]
    · obtain rfl : k = 1 := by omega
      obtain ⟨q1, q2⟩ := hk1 rfl
      rw [if_neg (fun h => h q1), if_neg q2]
      by_cases q3 : keyN s (i + 1) ≠ keyN s (j + 1)
      · rw [if_pos q3, if_pos q3]
      · rw [if_neg q3, if_neg q3, if_pos (by omega)]
  have ks1 := key_spec v s (i + k) g2 (by omega) hx hv2
  have ks2 := key_spec v s (j + k) g2 (by omega) hx hv2
  have w1 : IntKind.i64.wrap (((i + k : Nat) : Int) + 1) = ((i + (k + 1) : Nat) : Int) := by rw [wrap_succ (by omega)]; rfl
  have w2 : IntKind.i64.wrap (((j + k : Nat) : Int) + 1) = ((j + (k + 1) : Nat) : Int) := by rw [wrap_succ (by omega)]; rfl
  have hμ : (match t 2 with | .int _ q => i + 1 - q.toNat | _ => 0) = i + 1 - (i + k) := by rw [t2]; rfl
  rw [hμ]
  refine w_block ?_
  refine w_assoc (s_take 2 (by simp only [runL, List.take_succ_cons, List.take_zero, awant_none, astep, evl, put, ap_none, List.length_nil, Nat.add_zero, upd_app, ↓reduceIte, Nat.reduceEqDiff, t0, t2] <;> rfl) ?_)
  refine ops_call 59 _ rfl (by simp only [upd_app, evl, List.map_cons, List.map_nil]; exact ks1) (fun h => (h rfl).elim) ?_
  refine ops_take 2 (by simp only [runL, List.take_succ_cons, List.take_zero, awant_none, astep, evl, put, ap_none, List.length_nil, Nat.add_zero, upd_app, reduceCtorEq, ↓reduceIte, Nat.reduceEqDiff, t0, t3] <;> rfl) ?_
  refine ops_call 59 _ rfl (by simp only [upd_app, evl, List.map_cons, List.map_nil]; exact ks2) (fun h => (h rfl).elim) ?_
  refine ops_run (by simp only [runL, awant_none, astep, evl, put, ap_none, List.length_nil, Nat.add_zero, upd_app, ↓reduceIte, Nat.reduceEqDiff] <;> rfl) ?_
  refine w_gen (fun t => t 0 = v ∧ t 1 = u ∧ t 2 = .int .i64 ((i + k : Nat) : Int) ∧ t 3 = .int .i64 ((j + k : Nat) : Int) ∧ t 9 = .int .i64 (keyN s (i + k) : Nat) ∧ t 10 = .int .i64 (keyN s (j + k) : Nat)) (by simp [upd_app, t0, t1, t2, t3]) ?_
  clear t0 t1 t2 t3 hμ
  rintro t ⟨t0, t1, t2, t3, t9, t10⟩
  by_cases e : keyN s (i + k) = keyN s (j + k)
  · have e1 : (((keyN s (i + k) : Nat) : Int) != ((keyN s (j + k) : Nat) : Int)) = false := ine_f (by omega)
    rw [if_neg (fun h => h e)] at hB
    refine w_assoc (s_run (by simp only [runL, awant_none, astep, evl, put, ap_none, List.length_nil, Nat.add_zero, upd_app, stepBin, abin, ↓reduceIte, Nat.reduceEqDiff, t9, t10, e1] <;> rfl) ?_)
    refine s_false (by simp [evl]) (s_skip ?_)
    refine s_run (by simp only [runL, awant_none, astep, evl, put, ap_none, List.length_nil, Nat.add_zero, upd_app, stepBin, abin, ↓reduceIte, Nat.reduceEqDiff, t2, t3, w1, w2] <;> rfl) ?_
    refine w_gen (fun t => t 0 = v ∧ t 1 = u ∧ t 2 = .int .i64 ((i + (k + 1) : Nat) : Int) ∧ t 3 = .int .i64 ((j + (k + 1) : Nat) : Int)) (by simp [upd_app, t0, t1]) ?_
    clear t0 t1 t2 t3 t9 t10
    rintro t ⟨t0, t1, t2, t3⟩
    have m1 : ((i + (k + 1) : Nat) : Int).tmod 3 = (((i + (k + 1)) % 3 : Nat) : Int) := rfl
    have m2 : ((j + (k + 1) : Nat) : Int).tmod 3 = (((j + (k + 1)) % 3 : Nat) : Int) := rfl
    have fin : (i + (k + 1)) % 3 ≠ 0 → (j + (k + 1)) % 3 ≠ 0 → lessB s r i j = decide (byt r (min (i + (k + 1)) s.length) < byt r (min (j + (k + 1)) s.length)) := fun h1 h2 => by rw [hB, if_pos ⟨h1, h2⟩]
    have go : ¬ ((i + (k + 1)) % 3 ≠ 0 ∧ (j + (k + 1)) % 3 ≠ 0) → k = 0 := fun h => by omega
    by_cases c1 : (i + (k + 1)) % 3 = 0
    · have f1 : (((((i + (k + 1)) % 3 : Nat) : Nat) : Int) != 0) = false := ine_f (by omega)
      obtain rfl := go (fun h => h.1 c1)
      refine s_run (by simp only [runL, awant_some, List.getElem?_toArray, List.getElem?_cons_succ, List.getElem?_cons_zero, Option.bind_some, b_ft, awant_none, astep, evl, put, ap_none, List.length_nil, Nat.add_zero, Nat.zero_add, upd_app, stepBin, abin, stepPick, ↓reduceIte, Nat.reduceEqDiff, Bool.false_eq_true, ne_eq, not_false_eq_true, and_self, Int.reduceEq, undef, t2, m1, f1] <;> rfl) ?_
      refine w_false (by simp [evl]) (w_skip ?_)
      refine ⟨⟨1, by simp [upd_app, t0], by simp [upd_app, t1], by simp [upd_app, t2], by simp [upd_app, t3], rfl, by omega, fun _ => ⟨e, fun h => h.1 c1⟩⟩, ?_⟩
      simp only [upd_app, t2]
      show i + 1 - ((i + 1 : Nat) : Int).toNat < _
      rw [Int.toNat_natCast]; omega
    · have f1 : (((((i + (k + 1)) % 3 : Nat) : Nat) : Int) != 0) = true := ine_t (by omega)
      by_cases c2 : (j + (k + 1)) % 3 = 0
      · exfalso; omega
      · have f2 : (((((j + (k + 1)) % 3 : Nat) : Nat) : Int) != 0) = true := ine_t (by omega)
        have hB := fin c1 c2
        have mn1 := min_nat (i + (k + 1)) s.length
        have mn2 := min_nat (j + (k + 1)) s.length
        have q1 : min (i + (k + 1)) s.length < r.length := by omega
        have q2 : min (j + (k + 1)) s.length < r.length := by omega
        obtain ⟨x, hxx⟩ : ∃ x, min (i + (k + 1)) s.length = x := ⟨_, rfl⟩
        obtain ⟨y, hyy⟩ : ∃ y, min (j + (k + 1)) s.length = y := ⟨_, rfl⟩
        rw [hxx] at mn1 q1 hB
        rw [hyy] at mn2 q2 hB
        obtain ⟨p1, i1, l1, _⟩ := srcN hu2 q1
        obtain ⟨p2, i2, l2, _⟩ := srcN hu2 q2
        have dd : decide (((byt r x : Nat) : Int) < ((byt r y : Nat) : Int)) = lessB s r i j := by rw [hB, Bool.eq_iff_iff]; simp
        refine s_run (by simp only [runL, awant_some, List.getElem?_toArray, List.getElem?_cons_succ, List.getElem?_cons_zero, Option.bind_some, b_tt, awant_none, astep, evl, put, ap_none, List.length_nil, Nat.add_zero, upd_app, stepBin, abin, stepPick, ↓reduceIte, Nat.reduceEqDiff, ne_eq, not_false_eq_true, and_self, Int.reduceEq, t2, t3, m1, m2, f1, f2] <;> rfl) ?_
        refine w_true (by simp [evl]) ?_
        refine w_gen (fun t => t 0 = v ∧ t 1 = u ∧ t 2 = .int .i64 ((i + (k + 1) : Nat) : Int) ∧ t 3 = .int .i64 ((j + (k + 1) : Nat) : Int)) (by simp [upd_app, t0, t1, t2, t3]) ?_
        clear t0 t1 t2 t3
        rintro t ⟨t0, t1, t2, t3⟩
        refine s_draw #[0, 0, 0, 4, 14, 31, 63, 0, 0, 0, 512, 1792, 3968, 8064, 16383, 32767] (by decide +kernel) (by simp only [runR, awant_none, astep, evl, put, upd_app, stepBin, abin, stepCall, reduceCtorEq, ↓reduceIte, Nat.reduceEqDiff, List.isEmpty_nil, Bool.and_self, t0, t1, t2, t3, hlen, mn1, mn2, i1, l1, i2, l2, dd] <;> rfl) ?_
        refine w_ret ?_
        exact ⟨.inr rfl, by simp, [], fin_none (by simp [resVal]) trivial (fun _ _ h => h)⟩
  · have e1 : (((keyN s (i + k) : Nat) : Int) != ((keyN s (j + k) : Nat) : Int)) = true := ine_t (by omega)
    rw [if_pos e] at hB
    have dd : decide (((keyN s (i + k) : Nat) : Int) < ((keyN s (j + k) : Nat) : Int)) = lessB s r i j := by rw [hB, Bool.eq_iff_iff]; simp
    refine w_assoc (s_run (by simp only [runL, awant_none, astep, evl, put, ap_none, List.length_nil, Nat.add_zero, upd_app, stepBin, abin, ↓reduceIte, Nat.reduceEqDiff, t9, t10, e1] <;> rfl) ?_)
    refine s_true (by simp [evl]) (w_assoc (s_run (by simp only [runL, awant_none, astep, evl, put, ap_none, List.length_nil, Nat.add_zero, upd_app, stepBin, abin, ↓reduceIte, Nat.reduceEqDiff, t9, t10, dd] <;> rfl) ?_))
    refine s_ret ?_
    exact ⟨.inr rfl, by simp, [], fin_none (by simp [resVal]) trivial (fun _ _ h => h)⟩

/-- The greatest of the first i. -/
def mxP (s : List Nat) (i : Nat) : Nat := (s.take i).foldl max 0
theorem mxP_succ {s : List Nat} {i : Nat} (h : i < s.length) : mxP s (i + 1) = max (mxP s i) (byt s i) := by unfold mxP; rw [take_byt h, List.foldl_append]; rfl
theorem foldl_max_le (l : List Nat) (k : Nat) : ∀ a, a ≤ k → (∀ x ∈ l, x ≤ k) → l.foldl max a ≤ k := by
  induction l with
  | nil => intro a h _; exact h
  | cons x l ih => intro a h hx; rw [List.foldl_cons]; exact ih _ (by have := hx x (by simp); omega) (fun y hy => hx y (by simp [hy]))
theorem le_foldl_max (l : List Nat) : ∀ a, a ≤ l.foldl max a ∧ ∀ x ∈ l, x ≤ l.foldl max a := by
  induction l with
  | nil => intro a; exact ⟨Nat.le_refl _, by simp⟩
  | cons x l ih =>
    intro a
    rw [List.foldl_cons]
    obtain ⟨h1, h2⟩ := ih (max a x)
    refine ⟨by omega, fun y hy => ?_⟩
    rcases List.mem_cons.1 hy with rfl | hy
    · omega
    · exact h2 y hy
def mxL (s : List Nat) : Nat := mxP s s.length
theorem mxL_ge {s : List Nat} : ∀ x ∈ s, x ≤ mxL s := by unfold mxL mxP; rw [List.take_length]; exact (le_foldl_max s 0).2
theorem mxP_le {s : List Nat} {k : Nat} (h : ∀ x ∈ s, x ≤ k) (i : Nat) : mxP s i ≤ k := foldl_max_le _ _ _ (Nat.zero_le _) fun x hx => h x (List.mem_of_mem_take hx)
/-- Which numbers below m are among the first i. -/
def thP (s : List Nat) (m i : Nat) : List Nat := (List.range m).map fun x => if x ∈ s.take i then 1 else 0
theorem thP_len (s : List Nat) (m i : Nat) : (thP s m i).length = m := by simp [thP]
theorem thP_zero (s : List Nat) (m : Nat) : thP s m 0 = List.replicate m 0 := by unfold thP; rw [List.eq_replicate_iff]; simp
theorem thP_set {s : List Nat} {m i : Nat} (h : i < s.length) (hm : byt s i < m) : (thP s m i).set (byt s i) 1 = thP s m (i + 1) := by
  apply List.ext_getElem
  · simp [thP]
  · intro x h1 h2
    rw [List.getElem_set]
    simp only [thP, List.getElem_map, List.getElem_range, take_byt h, List.mem_append, List.mem_singleton]
    by_cases e : byt s i = x
    · rw [if_pos e, if_pos (.inr e.symm)]
    · rw [if_neg e]
      by_cases e2 : x ∈ s.take i
      · rw [if_pos e2, if_pos (.inl e2)]
      · rw [if_neg e2, if_neg (by rintro (h | h); exact e2 h; exact e h.symm)]
theorem sum_le_len : ∀ l : List Nat, (∀ x ∈ l, x ≤ 1) → l.sum ≤ l.length
  | [], _ => by simp
  | x :: l, h => by
    have h1 := sum_le_len l fun y hy => h y (by simp [hy])
    have h2 := h x (by simp)
    simp; omega
def thL (s : List Nat) : List Nat := thP s (mxL s + 1) s.length
theorem thL_len (s : List Nat) : (thL s).length = mxL s + 1 := thP_len _ _ _
theorem thL_sum (s : List Nat) : (thL s).sum ≤ mxL s + 1 := by
  have := sum_le_len (thL s) (by intro x hx; simp only [thL, thP, List.mem_map] at hx; obtain ⟨y, _, rfl⟩ := hx; split <;> omega)
  rwa [thL_len] at this
/-- The numbers as places in their order. -/
def sqL (s : List Nat) : List Nat := s.map (byt (startsL (thL s)))
theorem sqL_len (s : List Nat) : (sqL s).length = s.length := by simp [sqL]
theorem sqL_at {s : List Nat} {i : Nat} (h : i < s.length) : byt (sqL s) i = byt (startsL (thL s)) (byt s i) := by rw [byt_eq (by rw [sqL_len]; exact h), byt_eq h]; simp [sqL]

set_option maxRecDepth 20000 in
set_option maxHeartbeats 1000000 in
theorem squeezed_spec (v : Value) (s : List Nat) (g : Heap) (jj : Nat) (hl : s.length ≤ 100000) (hx : ∀ x ∈ s, x ≤ 1048576) (hv : Src g v 1 s.length (ints s)) :
    FnSpec Try.prog 20 [v] g { v := .slice (some ⟨jj, 0, some s.length⟩) s.length 1, r := srcBlk v, j := jj, a := [⟨false, 3, ints (sqL s)⟩] } := by
  refine spec_of_body [2] follows Try.func20 rfl (by kernel_rfl) (by simp [Try.f20]) (by kernel_rfl) rfl ?_
  intro g2 s2 n hg hfr hs hn hwf hsv
  have hv2 : Src g2 v 1 s.length (ints s) := hv.congr fun i hi => hg i (by simp [Eff.fp, hi])
  have hvd : ∀ i ∈ srcBlk v, i < n := dom_of hs hwf hv2
  have hlen := hv2.len Try.underlying22
  clear hg hfr hn hv
  refine s_run (by simp only [runL, awant_none, astep, evl, put, ap_none, List.length_nil, Nat.add_zero, undef] <;> rfl) ?_
  refine s_run (by simp only [runL, awant_none, astep, evl, put, ap_none, List.length_nil, Nat.add_zero] <;> rfl) ?_
  refine w_assoc (s_run (by simp only [runL, Option.getD_some, List.getElem?_cons_zero, awant_none, astep, evl, put, ap_none, List.length_nil, Nat.add_zero, upd_app, stepCall, reduceCtorEq, ↓reduceIte, hlen] <;> rfl) ?_)
  refine s_rng s.length (fun i t g n' => t 0 = v ∧ t 13 = v ∧ t 3 = .int .i64 (mxP s i : Nat) ∧ g2 = g ∧ n' = n) (by omega) (by simp []) (by simp [upd_app])
    (fun _ => ⟨by simp [upd_app], by simp [upd_app], by simp [upd_app, mxP], rfl, rfl⟩) (by decide) ?_ ?_
  · rintro i t g n' hi t15 t14 ⟨t0, t13, t3, rfl, hnn⟩
    obtain ⟨p, i1, l1, _⟩ := srcN hv2 hi
    have hm := max_nat (mxP s i) (byt s i)
    rw [← mxP_succ hi] at hm
    refine s_run (by simp only [runL, awant_none, astep, evl, put, ap_none, List.length_nil, Nat.add_zero, upd_app, ↓reduceIte, t13, t15, i1, l1] <;> rfl) ?_
    refine region_run (id := 5) (by simp only [runL, awant_none, astep, evl, put, ap_none, List.length_nil, Nat.add_zero, upd_app, stepCall, ↓reduceIte, Nat.reduceEqDiff, t3, hm] <;> rfl) ?_
    simp only [rngPost]
    exact ⟨by simp [upd_app, t15], by simp [upd_app, t14], fun _ _ _ => ⟨by simp [upd_app, t0], by simp [upd_app, t13], by simp [upd_app], trivial, hnn⟩⟩
  rintro t g n' ⟨t0, t13, t3, rfl, rfl⟩
  have hmx : mxL s ≤ 1048576 := mxP_le hx _
  have t3 : t 3 = .int .i64 (mxL s : Nat) := t3
  have w1 : IntKind.i64.wrap (((mxL s : Nat) : Int) + 1) = ((mxL s + 1 : Nat) : Int) := wrap_succ (by omega)
  refine s_run (by simp only [runL, awant_none, astep, evl, put, ap_none, ap_new, List.length_nil, List.length_cons, Nat.add_zero, Nat.zero_add, upd_app, stepBin, abin, ↓reduceIte, t3, w1, mkInts (mxL s + 1) n' (by omega)] <;> rfl) (w_heap fun G1 hG1 => ?_)
  have b1 : G1 n' = some ⟨false, 3, ints (thP s (mxL s + 1) 0)⟩ := by rw [hG1, thP_zero]; simp []
  have k1 : Kp n' g2 G1 := by rw [hG1]; exact kp_upd (Kp.refl _ _) (Nat.le_refl _)
  clear hG1
  refine w_assoc (s_run (by simp only [runL, awant_none, astep, evl, put, ap_none, List.length_nil, Nat.add_zero, upd_app, stepCall, reduceCtorEq, ↓reduceIte, t0, hlen] <;> rfl) ?_)
  refine s_rng s.length (fun i t g n => t 0 = v ∧ t 26 = v ∧ t 6 = .slice (some ⟨n', 0, some (mxL s + 1)⟩) (mxL s + 1) 1 ∧ g n' = some ⟨false, 3, ints (thP s (mxL s + 1) i)⟩ ∧ Kp n' g2 g ∧ n = n' + 1) (by omega) (by simp []) (by simp [upd_app])
    (fun _ => ⟨by simp [upd_app, t0], by simp [upd_app], by simp [upd_app], b1, k1, rfl⟩) (by decide) ?_ ?_
  · clear b1 k1 t0 t13 t3
    rintro i t g n hi t28 t27 ⟨t0, t26, t6, b, hkp, hnn⟩
    obtain ⟨p, i1, l1, _⟩ := srcN (hkp.src hv2 hvd) hi
    have hle : byt s i < mxL s + 1 := by have := mxL_ge (byt s i) (by rw [byt_eq hi]; exact List.getElem_mem hi); omega
    have ix := idxI n' (mxL s + 1) (byt s i) (mxL s + 1) hle
    have s1 := stN (m := mxL s + 1) (i := byt s i) (x := 1) b (thP_len _ _ _) (by rw [thP_len]; exact hle)
    rw [thP_set hi hle, show ((1 : Nat) : Int) = 1 from rfl] at s1
    refine s_run (by simp only [runL, awant_none, astep, evl, put, ap_none, List.length_nil, Nat.add_zero, upd_app, ↓reduceIte, t26, t28, i1, l1] <;> rfl) ?_
    refine region_run (id := 11) (by simp only [runL, awant_none, astep, evl, put, ap_none, ap_wr, List.length_nil, Nat.add_zero, upd_app, ↓reduceIte, Nat.reduceEqDiff, undef, t6, ix, s1] <;> rfl) ?_
    simp only [rngPost]
    exact ⟨by simp [upd_app, t28], by simp [upd_app, t27], fun _ _ _ => ⟨by simp [upd_app, t0], by simp [upd_app, t26], by simp [upd_app, t6], by rw [upd_self], kp_upd hkp (Nat.le_refl _), hnn⟩⟩
  clear b1 k1 t0 t13 t3
  rintro t g n ⟨t0, t26, t6, b, hkp, rfl⟩
  have b : g n' = some ⟨false, 3, ints (thL s)⟩ := b
  have hsc : Src g (.slice (some ⟨n', 0, some (mxL s + 1)⟩) (mxL s + 1) 1) 1 (thL s).length (ints (thL s)) := by rw [thL_len]; exact src_cells b (by simp [thL_len])
  have hst := starts_spec _ (thL s) g (n' + 1) (by rw [thL_len]; omega) (by have := thL_sum s; omega) hsc
  rw [thL_len] at hst
  refine s_take 1 (by simp only [runL, List.take_succ_cons, List.take_zero, awant_none, astep, evl, put, ap_none, List.length_nil, Nat.add_zero, t6] <;> rfl) ?_
  refine ops_call 39 _ rfl (by simp only [upd_app, evl, List.map_cons, List.map_nil]; exact hst) (fun _ => rfl) ?_
  dsimp only
  refine ops_heap fun G2 hG2 => ?_
  have b2 : G2 (n' + 1) = some ⟨false, 3, ints (startsL (thL s))⟩ := by rw [hG2]; simp [ap_new]
  have k2 : Kp n' g2 G2 := by rw [hG2]; simp only [ap_new]; exact kp_upd hkp (by omega)
  clear hG2 hst hsc b
  refine ops_run (by simp only [runL, awant_none, astep, evl, put, ap_none, List.length_nil, List.length_cons, Nat.add_zero, Nat.zero_add, upd_app, ↓reduceIte] <;> rfl) ?_
  refine w_gen (fun t => t 0 = v ∧ t 9 = .slice (some ⟨n' + 1, 0, some (mxL s + 1)⟩) (mxL s + 1) 1) (by simp [upd_app, t0]) ?_
  clear t0 t26 t6
  rintro t ⟨t0, t9⟩
  show awp _ _ _ _ G2 (n' + 2)
  refine s_run (by simp only [runL, awant_none, astep, evl, put, ap_none, ap_new, List.length_nil, List.length_cons, Nat.add_zero, Nat.zero_add, upd_app, stepCall, ↓reduceIte, t0, hlen, mkInts s.length (n' + 2) (by omega)] <;> rfl) (w_heap fun G3 hG3 => ?_)
  have c3 : G3 (n' + 2) = some ⟨false, 3, ints (preR (sqL s) 0)⟩ := by rw [hG3, preR_zero, sqL_len]; simp []
  have b3 : G3 (n' + 1) = some ⟨false, 3, ints (startsL (thL s))⟩ := by rw [hG3, upd_ne _ _ (by omega)]; exact b2
  have k3 : Kp n' g2 G3 := by rw [hG3]; exact kp_upd k2 (by omega)
  clear hG3 b2 k2
  refine w_assoc (s_run (by simp only [runL, awant_none, astep, evl, put, ap_none, List.length_nil, Nat.add_zero, upd_app, stepCall, reduceCtorEq, ↓reduceIte, t0, hlen] <;> rfl) ?_)
  refine s_rng s.length (fun i t g n => t 41 = v ∧ t 9 = .slice (some ⟨n' + 1, 0, some (mxL s + 1)⟩) (mxL s + 1) 1 ∧ t 10 = .slice (some ⟨n' + 2, 0, some s.length⟩) s.length 1 ∧ g (n' + 2) = some ⟨false, 3, ints (preR (sqL s) i)⟩ ∧ g (n' + 1) = some ⟨false, 3, ints (startsL (thL s))⟩ ∧ Kp n' g2 g) (by omega) (by simp []) (by simp [upd_app])
    (fun _ => ⟨by simp [upd_app], by simp [upd_app, t9], by simp [upd_app], c3, b3, k3⟩) (by decide) ?_ ?_
  · clear c3 b3 k3 t0 t9
    rintro i t g n hi t43 t42 ⟨t41, t9, t10, c, b, hkp⟩
    obtain ⟨p, i1, l1, _⟩ := srcN (hkp.src hv2 hvd) hi
    have hle : byt s i < mxL s + 1 := by have := mxL_ge (byt s i) (by rw [byt_eq hi]; exact List.getElem_mem hi); omega
    have hsl : (startsL (thL s)).length = mxL s + 1 := by rw [startsL_len, thL_len]
    have ix := idxI (n' + 1) (mxL s + 1) (byt s i) (mxL s + 1) hle
    have lx' := ldN (m := mxL s + 1) (i := byt s i) b hsl (by rw [hsl]; exact hle)
    have hp := preR_set (l := sqL s) (k := i) (by rw [sqL_len]; exact hi)
    rw [sqL_at hi] at hp
    have hpl : (preR (sqL s) i).length = s.length := by rw [preR_len (by rw [sqL_len]; omega), sqL_len]
    have iy := idxI (n' + 2) s.length i s.length hi
    have s1 := stN (m := s.length) (i := i) (x := byt (startsL (thL s)) (byt s i)) c hpl (by rw [hpl]; exact hi)
    rw [hp] at s1
    refine s_run (by simp only [runL, awant_none, astep, evl, put, ap_none, List.length_nil, Nat.add_zero, upd_app, ↓reduceIte, Nat.reduceEqDiff, t41, t43, i1, l1] <;> rfl) ?_
    refine region_run (id := 18) (by simp only [runL, awant_none, astep, evl, put, ap_none, ap_wr, List.length_nil, Nat.add_zero, upd_app, ↓reduceIte, Nat.reduceEqDiff, undef, t9, t10, ix, lx', iy, s1] <;> rfl) ?_
    simp only [rngPost]
    exact ⟨by simp [upd_app, t43], by simp [upd_app, t42], fun _ _ _ => ⟨by simp [upd_app, t41], by simp [upd_app, t9], by simp [upd_app, t10], by rw [upd_self], by rw [upd_ne _ _ (by omega)]; exact b, kp_upd hkp (by omega)⟩⟩
  · rintro t g n ⟨t41, t9, t10, c, b, hkp⟩
    have hr := preR_all (sqL s)
    rw [sqL_len] at hr
    rw [hr] at c
    refine s_run (by simp only [runL, awant_none, astep, evl, put, ap_none, List.length_nil, Nat.add_zero, upd_app, ↓reduceIte, t10] <;> rfl) ?_
    exact w_ret (sl_fin (k := n' + 2) rfl (by simp []) (by simp [sqL_len]) (by omega) c (plain_is _) hs hwf hkp)
end Go.Proofs.Ytdpkhijbikbhnaa
