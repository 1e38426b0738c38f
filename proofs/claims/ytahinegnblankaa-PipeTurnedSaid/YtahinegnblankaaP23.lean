import Derived.Test.YtahinegnblankaaP22
namespace Go.Proofs.Ytahinegnblankaa
open Go Abs
set_option linter.unusedSimpArgs false
set_option linter.unusedVariables false

set_option maxRecDepth 10000 in
theorem rtotal_spec (p q : Nat) (c : List Nat) (g : Heap) (h : Ro p q c g) (hc : c.sum ≤ 2 ^ 40) (hl : c.length ≤ 2 ^ 40) : FnSpec Try.prog 46 [ptr1 p] g { v := .int .i64 (c.sum : Nat), r := [p, q] } := by
  refine spec_of_body [2] follows Try.func46 rfl (by kernel_rfl) (by simp [Try.f46]) (by kernel_rfl) rfl ?_
  intro g2 s2 n hg hfr hs' hn hwf hsv
  have h2 : Ro p q c g2 := h.congr (hg p (by simp [Eff.fp])) (hg q (by simp [Eff.fp]))
  refine s_run (by simp only [runL, awant_none, astep, evl, put, ap_none, List.length_nil, Nat.add_zero, undef] <;> rfl) ?_
  refine s_run (by simp only [runL, awant_none, astep, evl, put, ap_none, List.length_nil, Nat.add_zero] <;> rfl) ?_
  refine w_assoc (s_run (by simp only [runL, awant_none, astep, evl, put, ap_none, List.length_nil, Nat.add_zero] <;> rfl) ?_)
  refine s_for 0 c.length (fun k t g n' => g = g2 ∧ t 0 = ptr1 p ∧ t 3 = .int .i64 ((c.take k).sum : Nat)) (by omega) (by omega) (by simp []) ⟨rfl, by simp [upd_app], by simp [upd_app]⟩ ?_ ?_ ?_
  · rintro k t g m hk t4 ⟨rfl, t0, t3⟩
    have dl : decide ((k : Int) < (c.length : Int)) = decide (k < c.length) := by simp
    exact ⟨_, (by simp only [runL, awant_none, astep, evl, put, ap_none, List.length_nil, Nat.add_zero, upd_app, stepBin, abin, stepCall, reduceCtorEq, ↓reduceIte, Nat.reduceEqDiff, t4, t0, nchk, fld89_0, h2.ld0, len22, dl] <;> rfl), by simp [], by simp [upd_app, t4], rfl, by simp [upd_app, t0], by simp [upd_app, t3]⟩
  · rintro k t g m hk t4 ⟨rfl, t0, t3⟩
    have hst := sum_take_succ hk
    have hle := sum_take_le c (k + 1)
    have w1 : IntKind.i64.wrap (((c.take k).sum : Nat) + (byt c k : Nat)) = ((c.take (k + 1)).sum : Nat) := by rw [wrap_add (by omega), hst]
    refine region_run (id := 5) (by simp only [runL, awant_none, astep, evl, put, ap_none, List.length_nil, Nat.add_zero, upd_app, stepBin, abin, reduceCtorEq, ↓reduceIte, Nat.reduceEqDiff, t0, t3, t4, nchk, fld89_0, h2.ld0, idx22 _ _ _ _ hk, ldq h2.hq hk, w1] <;> rfl) ?_
    simp only [rangePost]
    exact ⟨by simp [upd_app, t4], fun _ _ _ => ⟨by trivial, by simp [upd_app, t0], by simp [upd_app]⟩⟩
  · rintro t g m ⟨rfl, t0, t3⟩
    rw [List.take_length] at t3
    refine s_run (by simp only [runL, awant_none, astep, evl, put, ap_none, List.length_nil, Nat.add_zero, upd_app, ↓reduceIte, t3] <;> rfl) ?_
    exact w_ret ⟨.inr rfl, by simp, [], fin_none (by simp [resVal]) trivial (fun _ _ h => h)⟩

set_option maxRecDepth 10000 in
theorem rspan_no (p q : Nat) (c : List Nat) (x : Int) (g : Heap) (h : Ro p q c g) (hx : inR x c.length = false) : FnSpec Try.prog 48 [ptr1 p, .int .i64 x] g { v := spanN, r := [p, q] } := by
  refine spec_of_body [4, 5, 6] follows Try.func48 rfl (by kernel_rfl) (by simp [Try.f48]) (by kernel_rfl) rfl ?_
  intro g2 s2 n hg hfr hs' hn hwf hsv
  have h2 : Ro p q c g2 := h.congr (hg p (by simp [Eff.fp])) (hg q (by simp [Eff.fp]))
  have hx := of_decide_eq_false hx
  refine s_run (by simp only [runL, awant_none, astep, evl, put, ap_none, List.length_nil, Nat.add_zero, undef] <;> rfl) ?_
  by_cases h0 : x < 0
  · have d0 : decide (x < 0) = true := decide_eq_true h0
    refine w_assoc (s_run (by simp only [runL, awant_some, Option.getD_some, List.getElem?_toArray, List.getElem?_cons_succ, List.getElem?_cons_zero, Option.bind_some, b_tf, awant_none, astep, evl, put, ap_none, List.length_nil, Nat.add_zero, upd_app, stepBin, abin, stepPick, ↓reduceIte, Nat.reduceEqDiff, undef, d0] <;> rfl) ?_)
    refine s_true (by simp [evl]) (w_assoc (s_run (by simp only [runL, awant_none, astep, evl, put, ap_none, List.length_nil, Nat.add_zero] <;> rfl) ?_))
    exact s_ret ⟨.inr rfl, by simp [upd_app, isTup], [], fin_none (by simp [resVal, upd_app]) (by simp [SVT, SVA, SV1]) (fun _ _ h => h)⟩
  · have d0 : decide (x < 0) = false := decide_eq_false h0
    have d1 : decide (x ≥ (c.length : Int)) = true := decide_eq_true (by omega)
    refine w_assoc (s_run (by simp only [runL, awant_some, Option.getD_some, List.getElem?_toArray, List.getElem?_cons_succ, List.getElem?_cons_zero, Option.bind_some, b_ff, awant_none, astep, evl, put, ap_none, List.length_nil, Nat.add_zero, upd_app, stepBin, abin, stepPick, stepCall, reduceCtorEq, ↓reduceIte, Nat.reduceEqDiff, Bool.false_eq_true, d0, d1, nchk, fld89_0, h2.ld0, len22] <;> rfl) ?_)
    refine s_true (by simp [evl]) (w_assoc (s_run (by simp only [runL, awant_none, astep, evl, put, ap_none, List.length_nil, Nat.add_zero] <;> rfl) ?_))
    exact s_ret ⟨.inr rfl, by simp [upd_app, isTup], [], fin_none (by simp [resVal, upd_app]) (by simp [SVT, SVA, SV1]) (fun _ _ h => h)⟩

set_option maxRecDepth 10000 in
theorem rspan_yes (p q : Nat) (c : List Nat) (s : Nat) (g : Heap) (h : Ro p q c g) (hc : c.sum ≤ 2 ^ 40) (hl : c.length ≤ 2 ^ 40) (hs : s < c.length) : FnSpec Try.prog 48 [ptr1 p, .int .i64 s] g { v := spanV c s, r := [p, q] } := by
  refine spec_of_body [4, 5, 6] follows Try.func48 rfl (by kernel_rfl) (by simp [Try.f48]) (by kernel_rfl) rfl ?_
  intro g2 s2 n hg hfr hs' hn hwf hsv
  have h2 : Ro p q c g2 := h.congr (hg p (by simp [Eff.fp])) (hg q (by simp [Eff.fp]))
  refine s_run (by simp only [runL, awant_none, astep, evl, put, ap_none, List.length_nil, Nat.add_zero, undef] <;> rfl) ?_
  have d0 : decide ((s : Int) < 0) = false := decide_eq_false (by omega)
  have d1 : decide ((s : Int) ≥ (c.length : Int)) = false := decide_eq_false (by omega)
  refine w_assoc (s_run (by simp only [runL, awant_some, Option.getD_some, List.getElem?_toArray, List.getElem?_cons_succ, List.getElem?_cons_zero, Option.bind_some, b_ff, awant_none, astep, evl, put, ap_none, List.length_nil, Nat.add_zero, upd_app, stepBin, abin, stepPick, stepCall, reduceCtorEq, ↓reduceIte, Nat.reduceEqDiff, Bool.false_eq_true, d0, d1, nchk, fld89_0, h2.ld0, len22] <;> rfl) ?_)
  refine s_false (by simp [evl]) (s_skip ?_)
  refine w_gen (fun t => t 0 = ptr1 p ∧ t 1 = .int .i64 s) (by simp [upd_app]) ?_
  rintro t ⟨t0, t1⟩
  refine s_run (by simp only [runL, awant_none, astep, evl, put, ap_none, List.length_nil, Nat.add_zero] <;> rfl) ?_
  refine w_assoc (s_run (by simp only [runL, awant_none, astep, evl, put, ap_none, List.length_nil, Nat.add_zero] <;> rfl) ?_)
  refine s_for 0 s (fun k t g n' => g = g2 ∧ t 0 = ptr1 p ∧ t 1 = .int .i64 s ∧ t 7 = .int .i64 ((c.take k).sum : Nat)) (by omega) (by omega) (by simp []) ⟨rfl, by simp [upd_app, t0], by simp [upd_app, t1], by simp [upd_app]⟩ ?_ ?_ ?_
  · clear t0 t1
    rintro k t g m hk t8 ⟨rfl, t0, t1, t7⟩
    have dl : decide ((k : Int) < (s : Int)) = decide (k < s) := by simp
    exact ⟨_, (by simp only [runL, awant_none, astep, evl, put, ap_none, List.length_nil, Nat.add_zero, upd_app, stepBin, abin, ↓reduceIte, Nat.reduceEqDiff, t8, t1, dl] <;> rfl), by simp [], by simp [upd_app, t8], rfl, by simp [upd_app, t0], by simp [upd_app, t1], by simp [upd_app, t7]⟩
  · clear t0 t1
    rintro k t g m hk t8 ⟨rfl, t0, t1, t7⟩
    have hk' : k < c.length := by omega
    have hst := sum_take_succ hk'
    have hle := sum_take_le c (k + 1)
    have w1 : IntKind.i64.wrap (((c.take k).sum : Nat) + (byt c k : Nat)) = ((c.take (k + 1)).sum : Nat) := by rw [wrap_add (by omega), hst]
    refine region_run (id := 7) (by simp only [runL, awant_none, astep, evl, put, ap_none, List.length_nil, Nat.add_zero, upd_app, stepBin, abin, reduceCtorEq, ↓reduceIte, Nat.reduceEqDiff, t0, t7, t8, nchk, fld89_0, h2.ld0, idx22 _ _ _ _ hk', ldq h2.hq hk', w1] <;> rfl) ?_
    simp only [rangePost]
    exact ⟨by simp [upd_app, t8], fun _ _ _ => ⟨by trivial, by simp [upd_app, t0], by simp [upd_app, t1], by simp [upd_app]⟩⟩
  · clear t0 t1
    rintro t g m ⟨rfl, t0, t1, t7⟩
    refine s_draw #[0, 0, 2, 6, 14, 0, 62, 126, 1, 511, 1023] (by decide +kernel) (by simp only [runR, awant_none, astep, evl, put, upd_app, reduceCtorEq, ↓reduceIte, Nat.reduceEqDiff, List.isEmpty_nil, Bool.and_self, t0, t1, t7, nchk, fld89_0, h2.ld0, idx22 _ _ _ _ hs, ldq h2.hq hs] <;> rfl) ?_
    exact w_ret ⟨.inr rfl, by simp [upd_app, isTup], [], fin_none (by simp [resVal, upd_app]) (by simp [SVT, SVA, SV1]) (fun _ _ h => h)⟩

set_option maxRecDepth 10000 in
theorem rfind_yes (p q : Nat) (c : List Nat) (v : Nat) (g : Heap) (h : Ro p q c g) (hc : c.sum ≤ 2 ^ 40) (hl : c.length ≤ 2 ^ 40) (hv : v ≤ 2 ^ 63 - 1) : FnSpec Try.prog 50 [ptr1 p, .int .i64 v] g { v := if v < c.sum then findV c v else findN, r := [p, q] } := by
  refine spec_of_body [4, 5] follows Try.func50 rfl (by kernel_rfl) (by simp [Try.f50]) (by kernel_rfl) rfl ?_
  intro g2 s2 n hg hfr hs' hn hwf hsv
  have h2 : Ro p q c g2 := h.congr (hg p (by simp [Eff.fp])) (hg q (by simp [Eff.fp]))
  refine s_run (by simp only [runL, awant_none, astep, evl, put, ap_none, List.length_nil, Nat.add_zero, undef] <;> rfl) ?_
  have d0 : decide ((v : Int) < 0) = false := decide_eq_false (by omega)
  refine w_assoc (s_run (by simp only [runL, Option.getD_some, List.getElem?_cons_succ, List.getElem?_cons_zero, awant_none, astep, evl, put, ap_none, List.length_nil, Nat.add_zero, upd_app, stepBin, abin, ↓reduceIte, Nat.reduceEqDiff, d0] <;> rfl) ?_)
  refine s_false (by simp [evl]) (s_skip ?_)
  refine w_assoc (s_run (by simp only [runL, awant_none, astep, evl, put, ap_none, List.length_nil, Nat.add_zero] <;> rfl) ?_)
  have hsvt : SVT s2 (if v < c.sum then findV c v else findN) := by split <;> simp [SVT, SVA, SV1]
  refine s_for 0 c.length (fun k t g n' => g = g2 ∧ t 0 = ptr1 p ∧ ∃ u : Nat, t 1 = .int .i64 u ∧ u ≤ v ∧ (if v < c.sum then u < (c.drop k).sum ∧ find c v = find (c.drop k) u + k else (c.drop k).sum ≤ u)) (by omega) (by omega) (by simp [])
    ⟨rfl, by simp [upd_app], v, by simp [upd_app], Nat.le_refl _, by split <;> simp <;> omega⟩ ?_ ?_ ?_
  · rintro k t g m hk t6 ⟨rfl, t0, u, t1, hu, hi⟩
    have dl : decide ((k : Int) < (c.length : Int)) = decide (k < c.length) := by simp
    exact ⟨_, (by simp only [runL, awant_none, astep, evl, put, ap_none, List.length_nil, Nat.add_zero, upd_app, stepBin, abin, stepCall, reduceCtorEq, ↓reduceIte, Nat.reduceEqDiff, t6, t0, nchk, fld89_0, h2.ld0, len22, dl] <;> rfl), by simp [], by simp [upd_app, t6], rfl, by simp [upd_app, t0], u, by simp [upd_app, t1], hu, hi⟩
  · rintro k t g m hk t6 ⟨rfl, t0, u, t1, hu, hi⟩
    have hsd := sum_drop hk
    by_cases hlt : u < byt c k
    · have d2 : decide ((u : Int) < (byt c k : Int)) = true := decide_eq_true (by omega)
      refine w_assoc (s_run (by simp only [runL, awant_none, astep, evl, put, ap_none, List.length_nil, Nat.add_zero, upd_app, stepBin, abin, reduceCtorEq, ↓reduceIte, Nat.reduceEqDiff, t0, t1, t6, nchk, fld89_0, h2.ld0, idx22 _ _ _ _ hk, ldq h2.hq hk, d2] <;> rfl) ?_)
      refine s_true (by simp [evl]) (w_assoc (s_run (by simp only [runL, awant_none, astep, evl, put, ap_none, List.length_nil, Nat.add_zero, upd_app, ↓reduceIte, Nat.reduceEqDiff, t6] <;> rfl) ?_))
      refine s_ret ?_
      show _ ∧ _
      refine ⟨.inr rfl, by simp [upd_app, isTup], [], fin_none ?_ hsvt (fun _ _ h => h)⟩
      by_cases hvs : v < c.sum
      · rw [if_pos hvs] at hi ⊢
        have : find c v = k := by rw [hi.2, find_here hk hlt, Nat.zero_add]
        simp [resVal, upd_app, this]
      · rw [if_neg hvs] at hi
        omega
    · have d2 : decide ((u : Int) < (byt c k : Int)) = false := decide_eq_false (by omega)
      refine w_assoc (s_run (by simp only [runL, awant_none, astep, evl, put, ap_none, List.length_nil, Nat.add_zero, upd_app, stepBin, abin, reduceCtorEq, ↓reduceIte, Nat.reduceEqDiff, t0, t1, t6, nchk, fld89_0, h2.ld0, idx22 _ _ _ _ hk, ldq h2.hq hk, d2] <;> rfl) ?_)
      refine s_false (by simp [evl]) (s_skip ?_)
      refine w_gen (fun t => t 0 = ptr1 p ∧ t 1 = .int .i64 u ∧ t 6 = .int .i64 k) (by simp [upd_app, t0, t1, t6]) ?_
      clear t0 t1 t6
      rintro t ⟨t0, t1, t6⟩
      have w1 : IntKind.i64.wrap ((u : Int) - (byt c k : Int)) = ((u - byt c k : Nat) : Int) := wrap_sub (by omega) (by omega)
      refine region_run (id := 8) (by simp only [runL, awant_none, astep, evl, put, ap_none, List.length_nil, Nat.add_zero, upd_app, stepBin, abin, reduceCtorEq, ↓reduceIte, Nat.reduceEqDiff, t0, t1, t6, nchk, fld89_0, h2.ld0, idx22 _ _ _ _ hk, ldq h2.hq hk, w1] <;> rfl) ?_
      simp only [rangePost]
      refine ⟨by simp [upd_app, t6], fun _ _ _ => ⟨by trivial, by simp [upd_app, t0], u - byt c k, by simp [upd_app], by omega, ?_⟩⟩
      by_cases hvs : v < c.sum
      · rw [if_pos hvs] at hi ⊢
        exact ⟨by omega, by rw [hi.2, find_drop hk (by omega)]; omega⟩
      · rw [if_neg hvs] at hi ⊢
        omega
  · rintro t g m ⟨rfl, t0, u, t1, hu, hi⟩
    rw [List.drop_length] at hi
    have hvs : ¬ v < c.sum := fun e => by rw [if_pos e] at hi; simp at hi
    refine s_run (by simp only [runL, awant_none, astep, evl, put, ap_none, List.length_nil, Nat.add_zero] <;> rfl) ?_
    refine w_ret ⟨.inr rfl, by simp [upd_app, isTup], [], fin_none ?_ hsvt (fun _ _ h => h)⟩
    rw [if_neg hvs]
    simp [resVal, upd_app]

set_option maxRecDepth 10000 in
theorem rfind_neg (a : Value) (x : Int) (g : Heap) (hx : x < 0) : FnSpec Try.prog 50 [a, .int .i64 x] g { v := findN } := by
  refine spec_of_body [4, 5] follows Try.func50 rfl (by kernel_rfl) (by simp [Try.f50]) (by kernel_rfl) rfl ?_
  intro g2 s2 n hg hfr hs' hn hwf hsv
  refine s_run (by simp only [runL, awant_none, astep, evl, put, ap_none, List.length_nil, Nat.add_zero, undef] <;> rfl) ?_
  have d0 : decide (x < 0) = true := decide_eq_true hx
  refine w_assoc (s_run (by simp only [runL, Option.getD_some, List.getElem?_cons_succ, List.getElem?_cons_zero, awant_none, astep, evl, put, ap_none, List.length_nil, Nat.add_zero, upd_app, stepBin, abin, ↓reduceIte, Nat.reduceEqDiff, d0] <;> rfl) ?_)
  refine s_true (by simp [evl]) (w_assoc (s_run (by simp only [runL, awant_none, astep, evl, put, ap_none, List.length_nil, Nat.add_zero] <;> rfl) ?_))
  exact s_ret ⟨.inr rfl, by simp [upd_app, isTup], [], fin_none (by simp [resVal, upd_app]) (by simp [SVT, SVA, SV1]) (fun _ _ h => h)⟩

def rsawE (p q : Nat) (c : List Nat) : Eff := { v := .bool true, r := [p, q], w := [(q, moQ c)] }
theorem rsawE_ap {p q : Nat} {c c' : List Nat} {g : Heap} (h : Ro p q c g) (hl : c'.length = c.length) : Ro p q c' ((rsawE p q c').ap g) ∧ ∀ i, i ≠ q → (rsawE p q c').ap g i = g i := by
  have hne := h.ne
  refine ⟨⟨by simp [rsawE, Eff.ap, setAll, addAll, upd_app, hne, h.hp, hl], by simp [rsawE, Eff.ap, setAll, addAll]⟩, fun i h2 => by simp [rsawE, Eff.ap, setAll, addAll, upd_app, h2]⟩

set_option maxRecDepth 10000 in
theorem rsaw_no (p q : Nat) (c : List Nat) (x : Int) (g : Heap) (h : Ro p q c g) (hx : inR x c.length = false) : FnSpec Try.prog 44 [ptr1 p, .int .i64 x] g { v := .bool false, r := [p, q] } := by
  refine spec_of_body [4] follows Try.func44 rfl (by kernel_rfl) (by simp [Try.f44]) (by kernel_rfl) rfl ?_
  intro g2 s2 n hg hfr hs' hn hwf hsv
  have h2 : Ro p q c g2 := h.congr (hg p (by simp [Eff.fp])) (hg q (by simp [Eff.fp]))
  have hx := of_decide_eq_false hx
  refine s_run (by simp only [runL, awant_none, astep, evl, put, ap_none, List.length_nil, Nat.add_zero, undef] <;> rfl) ?_
  by_cases h0 : x < 0
  · have d0 : decide (x < 0) = true := decide_eq_true h0
    refine w_assoc (s_run (by simp only [runL, awant_some, Option.getD_some, List.getElem?_toArray, List.getElem?_cons_succ, List.getElem?_cons_zero, Option.bind_some, b_tf, awant_none, astep, evl, put, ap_none, List.length_nil, Nat.add_zero, upd_app, stepBin, abin, stepPick, ↓reduceIte, Nat.reduceEqDiff, undef, d0] <;> rfl) ?_)
    refine s_true (by simp [evl]) (w_assoc (s_run (by simp only [runL, awant_none, astep, evl, put, ap_none, List.length_nil, Nat.add_zero] <;> rfl) ?_))
    exact s_ret ⟨.inr rfl, by simp, [], fin_none (by simp [resVal]) trivial (fun _ _ h => h)⟩
  · have d0 : decide (x < 0) = false := decide_eq_false h0
    have d1 : decide (x ≥ (c.length : Int)) = true := decide_eq_true (by omega)
    refine w_assoc (s_run (by simp only [runL, awant_some, Option.getD_some, List.getElem?_toArray, List.getElem?_cons_succ, List.getElem?_cons_zero, Option.bind_some, b_ff, awant_none, astep, evl, put, ap_none, List.length_nil, Nat.add_zero, upd_app, stepBin, abin, stepPick, stepCall, reduceCtorEq, ↓reduceIte, Nat.reduceEqDiff, Bool.false_eq_true, d0, d1, nchk, fld89_0, h2.ld0, len22] <;> rfl) ?_)
    refine s_true (by simp [evl]) (w_assoc (s_run (by simp only [runL, awant_none, astep, evl, put, ap_none, List.length_nil, Nat.add_zero] <;> rfl) ?_))
    exact s_ret ⟨.inr rfl, by simp, [], fin_none (by simp [resVal]) trivial (fun _ _ h => h)⟩

theorem rsaw_fin {p q : Nat} {c c' : List Nat} {s2 : Nat → Prop} {g2 g' : Heap} {n : Nat} {v' : Value} (h : Ro p q c g2) (h' : g' q = some (moQ c')) (hv : v' = .bool true) (hold : ∀ i, i ≠ q → g' i = g2 i) : Abs.Fin (rsawE p q c') [] s2 g2 n g' v' :=
  fin_w1 hv trivial (by rw [h.hq]; rfl) h' (fun x hx => SV1_plain (plain_is _ x hx)) (fun i b h1 hb => by rw [hold i h1]; exact hb)

set_option maxRecDepth 10000 in
theorem rsaw_yes (p q : Nat) (c : List Nat) (s : Nat) (g : Heap) (h : Ro p q c g) (hc : c.sum ≤ 2 ^ 39) (hl : c.length ≤ 2 ^ 38) (hs : s < c.length) : FnSpec Try.prog 44 [ptr1 p, .int .i64 s] g (rsawE p q (saw c s)) := by
  refine spec_of_body [4] follows Try.func44 rfl (by kernel_rfl) (by simp [Try.f44]) (by kernel_rfl) rfl ?_
  intro g2 s2 n hg hfr hs' hn hwf hsv
  have h2 : Ro p q c g2 := h.congr (hg p (by simp [rsawE, Eff.fp])) (hg q (by simp [rsawE, Eff.fp]))
  have hne := h2.ne
  refine s_run (by simp only [runL, awant_none, astep, evl, put, ap_none, List.length_nil, Nat.add_zero, undef] <;> rfl) ?_
  have d0 : decide ((s : Int) < 0) = false := decide_eq_false (by omega)
  have d1 : decide ((s : Int) ≥ (c.length : Int)) = false := decide_eq_false (by omega)
  refine w_assoc (s_run (by simp only [runL, awant_some, Option.getD_some, List.getElem?_toArray, List.getElem?_cons_succ, List.getElem?_cons_zero, Option.bind_some, b_ff, awant_none, astep, evl, put, ap_none, List.length_nil, Nat.add_zero, upd_app, stepBin, abin, stepPick, stepCall, reduceCtorEq, ↓reduceIte, Nat.reduceEqDiff, Bool.false_eq_true, d0, d1, nchk, fld89_0, h2.ld0, len22] <;> rfl) ?_)
  refine s_false (by simp [evl]) (s_skip ?_)
  refine w_gen (fun t => t 0 = ptr1 p ∧ t 1 = .int .i64 s) (by simp [upd_app]) ?_
  rintro t ⟨t0, t1⟩
  have hbs : byt c s ≤ c.sum := by have := sum_take_le c (s + 1); rw [sum_take_succ hs] at this; omega
  have w1 : IntKind.i64.wrap ((byt c s : Int) + 32) = ((byt c s + 32 : Nat) : Int) := by rw [wrap64_of (by omega) (by omega)]; simp
  refine s_drawn #[0, 1, 3, 7, 0, 0, 32, 96, 224, 0, 992, 2016, 4064, 8191, 16383] (by decide +kernel) ?_
  refine d_readsB 14 (by simp) (by simp only [runR, List.take_succ_cons, List.take_zero, awant_none, astep, evl, put, upd_app, stepBin, abin, reduceCtorEq, ↓reduceIte, Nat.reduceEqDiff, List.isEmpty_nil, Bool.and_self, t0, t1, nchk, fld89_0, h2.ld0, idx22 _ _ _ _ hs, ldq h2.hq hs, w1] <;> rfl) fun a1 ha1 => ?_
  refine d_last _ (by simp only [astep, evl, upd_app, ↓reduceIte, Nat.reduceEqDiff, undef, stq h2.hq hs] <;> rfl) rfl ha1 rfl (w_heap fun G1 hG1 => ?_)
  have hsum := sum_set (x := byt c s + 32) hs
  have hG1q : G1 q = some ⟨false, 3, ints (c.set s (byt c s + 32))⟩ := by rw [hG1]; simp [ap_wr]
  have o1 : ∀ i, i ≠ q → G1 i = g2 i := fun i h1 => by rw [hG1]; simp [ap_wr, upd_app, h1]
  have hsaw : saw c s = if (c.set s (byt c s + 32)).sum > 65504 then half (c.set s (byt c s + 32)) else c.set s (byt c s + 32) := rfl
  have hl1 : (c.set s (byt c s + 32)).length = c.length := by simp
  generalize c.set s (byt c s + 32) = c1 at hsum hG1q hsaw hl1
  have m1 : Ro p q c1 G1 := ⟨by rw [o1 p hne, hl1]; exact h2.hp, hG1q⟩
  refine w_gen (fun t => t 0 = ptr1 p) (by simp [upd_app, put, t0]) ?_
  clear t0 t1
  rintro t t0
  by_cases hbig : c1.sum > 65504
  · have d : decide (((c1.sum : Nat) : Int) > 65504) = true := decide_eq_true (by omega)
    rw [if_pos hbig] at hsaw
    refine w_assoc (s_take 1 (by simp only [runL, List.take_succ_cons, List.take_zero, awant_none, astep, evl, put, ap_none, List.length_nil, Nat.add_zero, t0] <;> rfl) ?_)
    refine ops_call 46 _ rfl (rtotal_spec p q c1 G1 m1 (by omega) (by omega)) (by simp) ?_
    refine ops_run (by simp only [runL, awant_none, astep, evl, put, ap_none, List.length_nil, Nat.add_zero, upd_app, stepBin, abin, ↓reduceIte, d] <;> rfl) ?_
    refine s_true (by simp [evl]) (w_assoc (s_run (by simp only [runL, awant_none, astep, evl, put, ap_none, List.length_nil, Nat.add_zero] <;> rfl) ?_))
    refine s_for 0 c1.length (fun k t g n' => t 0 = ptr1 p ∧ g q = some ⟨false, 3, ints (halfed c1 k)⟩ ∧ ∀ i, i ≠ q → g i = g2 i) (by omega) (by omega) (by simp []) ⟨by simp [upd_app, t0], by rw [halfed_zero]; exact m1.hq, o1⟩ ?_ ?_ ?_
    · clear t0
      rintro k t g m hk t5 ⟨t0, hq, ho⟩
      have dl : decide ((k : Int) < (c1.length : Int)) = decide (k < c1.length) := by simp
      have hp' : g p = some ⟨false, 89, [.slice (some ⟨q, 0, some c1.length⟩) c1.length 1]⟩ := by rw [ho p hne, hl1]; exact h2.hp
      have l0 : stepLoad Try.prog 22 (.pointer (some ⟨p, 0, some 1⟩)) g = some { v := .slice (some ⟨q, 0, some c1.length⟩) c1.length 1, r := [p] } := ld_at hp' rfl rfl aggT22
      exact ⟨_, (by simp only [runL, awant_none, astep, evl, put, ap_none, List.length_nil, Nat.add_zero, upd_app, stepBin, abin, stepCall, reduceCtorEq, ↓reduceIte, Nat.reduceEqDiff, t5, t0, nchk, fld89_0, l0, len22, dl] <;> rfl), by simp [], by simp [upd_app, t5], by simp [upd_app, t0], hq, ho⟩
    · clear t0
      rintro k t g m hk t5 ⟨t0, hq, ho⟩
      have hp' : g p = some ⟨false, 89, [.slice (some ⟨q, 0, some c1.length⟩) c1.length 1]⟩ := by rw [ho p hne, hl1]; exact h2.hp
      have l0 : stepLoad Try.prog 22 (.pointer (some ⟨p, 0, some 1⟩)) g = some { v := .slice (some ⟨q, 0, some c1.length⟩) c1.length 1, r := [p] } := ld_at hp' rfl rfl aggT22
      have hkl := halfed_len (Nat.le_of_lt hk)
      have hka := halfed_at hk
      have i1 : stepIndex Try.prog 22 (.slice (some ⟨q, 0, some c1.length⟩) c1.length 1) (.int .i64 (k : Int)) = some { v := .pointer (some ⟨q, k, some c1.length⟩) } := idx22 _ _ _ _ hk
      have l1 : stepLoad Try.prog 3 (.pointer (some ⟨q, k, some c1.length⟩)) g = some { v := .int .i64 (byt c1 k), r := [q] } := by rw [← hka, ← hkl]; exact ldq hq (by omega)
      have hbk : byt c1 k ≤ c1.sum := by have := sum_take_le c1 (k + 1); rw [sum_take_succ hk] at this; omega
      have w3 : IntKind.i64.wrap ((byt c1 k : Int) + 1) = ((byt c1 k + 1 : Nat) : Int) := wrap_succ (by omega)
      have w4 : IntKind.i64.wrap (((byt c1 k + 1 : Nat) : Int).tdiv 2) = (((byt c1 k + 1) / 2 : Nat) : Int) := by
        rw [show ((byt c1 k + 1 : Nat) : Int).tdiv 2 = (((byt c1 k + 1) / 2 : Nat) : Int) from rfl]; exact wrap_nat (by omega)
      have st1 : stepStore Try.prog 3 (.pointer (some ⟨q, k, some c1.length⟩)) (.int .i64 (((byt c1 k + 1) / 2 : Nat) : Int)) g = some { v := undef, r := [q], w := [(q, ⟨false, 3, ints (halfed c1 (k + 1))⟩)] } := by
        have := stq (x := (byt c1 k + 1) / 2) hq (i := k) (by omega)
        rw [hkl, halfed_set hk] at this; exact this
      refine region_drawn (id := 8) #[0, 1, 3, 7, 0, 0, 32, 96, 224, 0, 992, 2016, 4064, 8160, 16383, 32767] (by decide +kernel) ?_
      refine d_readsB 15 (by simp) (by simp only [runR, List.take_succ_cons, List.take_zero, awant_none, astep, evl, put, upd_app, stepBin, abin, reduceCtorEq, ↓reduceIte, Nat.reduceEqDiff, ne_eq, not_false_eq_true, and_self, Int.reduceEq, List.isEmpty_nil, Bool.and_self, t0, t5, nchk, fld89_0, l0, i1, l1, w3, w4] <;> rfl) fun a1 ha1 => ?_
      refine d_last _ (by simp only [astep, evl, upd_app, ↓reduceIte, Nat.reduceEqDiff, undef, st1] <;> rfl) rfl ha1 rfl ?_
      simp only [rangePost]
      refine ⟨by simp [upd_app, put, t5], fun _ _ _ => ⟨by simp [upd_app, put, t0], by simp [ap_wr], fun i h1 => by simp [ap_wr, upd_app, h1, ho i h1]⟩⟩
    · rintro t g m ⟨t0, hq, ho⟩
      rw [halfed_all] at hq
      refine s_run (by simp only [runL, awant_none, astep, evl, put, ap_none, List.length_nil, Nat.add_zero] <;> rfl) ?_
      refine w_ret ⟨.inr rfl, by simp, [], ?_⟩
      rw [hsaw]
      exact rsaw_fin h2 hq (by simp [resVal]) ho
  · have d : decide (((c1.sum : Nat) : Int) > 65504) = false := decide_eq_false (by omega)
    rw [if_neg hbig] at hsaw
    refine w_assoc (s_take 1 (by simp only [runL, List.take_succ_cons, List.take_zero, awant_none, astep, evl, put, ap_none, List.length_nil, Nat.add_zero, t0] <;> rfl) ?_)
    refine ops_call 46 _ rfl (rtotal_spec p q c1 G1 m1 (by omega) (by omega)) (by simp) ?_
    refine ops_run (by simp only [runL, awant_none, astep, evl, put, ap_none, List.length_nil, Nat.add_zero, upd_app, stepBin, abin, ↓reduceIte, d] <;> rfl) ?_
    refine s_false (by simp [evl]) (s_skip ?_)
    refine s_run (by simp only [runL, awant_none, astep, evl, put, ap_none, List.length_nil, Nat.add_zero] <;> rfl) ?_
    refine w_ret ⟨.inr rfl, by simp, [], ?_⟩
    rw [hsaw]
    exact rsaw_fin h2 m1.hq (by simp [resVal]) o1
end Go.Proofs.Ytahinegnblankaa
