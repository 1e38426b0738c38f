import Derived.Test.YtdpkhijbikbhnaaT3
namespace Go.Proofs.Ytdpkhijbikbhnaa
open Go Abs Plain
set_option linter.unusedSimpArgs false
set_option linter.unusedVariables false

/-- Ranks of places. -/
def rkL (A : List Nat) : List Nat := (List.range A.length).map fun x => A.idxOf x
theorem rkL_len (A : List Nat) : (rkL A).length = A.length := by simp [rkL]
theorem rkL_at {A : List Nat} {x : Nat} (h : x < A.length) : byt (rkL A) x = A.idxOf x := by rw [byt_eq (by rw [rkL_len]; exact h)]; simp [rkL]
theorem srcN {g : Heap} {v : Value} {l : List Nat} {i : Nat} (h : Src g v 1 l.length (ints l)) (hi : i < l.length) : ∃ p : Addr, stepIndex Try.prog 22 v (.int .i64 (i : Int)) = some { v := .pointer (some p) } ∧ stepLoad Try.prog 3 (.pointer (some p)) g = some { v := .int .i64 (byt l i : Nat), r := [p.block] } ∧ p.block ∈ srcBlk v := by
  obtain ⟨p, h1, h2, h3⟩ := h.at1 (P := Try.prog) (i := i) (c := .int .i64 (byt l i : Nat)) (ints_at hi) Try.underlying22 tsize3 aggT3
  exact ⟨p, h1 .i64, h2, h3⟩
theorem acc_cons {acc : List FP} {i k : Nat} {r w : List Nat} (h : ∀ p ∈ acc, p.1 < i ∧ p.2.2 = []) (hw : w = []) (hk : i ≤ k) : ∀ p ∈ ((i, r, w) :: acc : List FP), p.1 < k + 1 ∧ p.2.2 = [] := by
  intro p hp
  rcases List.mem_cons.1 hp with rfl | hp
  · exact ⟨by show i < k + 1; omega, hw⟩
  · have := h p hp
    exact ⟨by omega, this.2⟩

set_option maxRecDepth 10000 in
theorem behind_spec (u : Value) (A : List Nat) (x : Nat) (g : Heap) (hl : A.length ≤ 2 ^ 38) (hx : x < A.length) (hu : Src g u 1 A.length (ints (rkL A))) : FnSpec Try.prog 43 [u, .int .i64 x] g { v := .int .i64 (rkI A (x + 1)), r := srcBlk u } := by
  refine spec_of_body [4] follows Try.func43 rfl (by kernel_rfl) (by simp [Try.f43]) (by kernel_rfl) rfl ?_
  intro g2 s2 n hg hfr hs hn hwf hsv
  have hu2 : Src g2 u 1 A.length (ints (rkL A)) := hu.congr fun i hi => hg i (by simp [Eff.fp, hi])
  have hlen := hu2.len Try.underlying22
  have w1 : IntKind.i64.wrap ((x : Int) + 1) = ((x + 1 : Nat) : Int) := wrap_succ (by omega)
  refine s_run (by simp only [runL, awant_none, astep, evl, put, ap_none, List.length_nil, Nat.add_zero, undef] <;> rfl) ?_
  by_cases h : x + 1 = A.length
  · have e1 : (((x + 1 : Nat) : Int) == (A.length : Int)) = true := ieq_t (by omega)
    have hr : rkI A (x + 1) = -1 := by unfold rkI; rw [if_neg (by omega)]
    refine w_assoc (s_run (by simp only [runL, Option.getD_some, List.getElem?_cons_succ, List.getElem?_cons_zero, awant_none, astep, evl, put, ap_none, List.length_nil, Nat.add_zero, upd_app, stepBin, abin, stepCall, reduceCtorEq, ↓reduceIte, Nat.reduceEqDiff, w1, hlen, e1] <;> rfl) ?_)
    refine s_true (by simp [evl]) (w_assoc (s_run (by simp only [runL, awant_none, astep, evl, put, ap_none, List.length_nil, Nat.add_zero] <;> rfl) ?_))
    exact s_ret ⟨.inr rfl, by simp, [], fin_none (by simp [resVal, hr]) trivial (fun _ _ h => h)⟩
  · have e1 : (((x + 1 : Nat) : Int) == (A.length : Int)) = false := ieq_f (by omega)
    have hr : rkI A (x + 1) = ((A.idxOf (x + 1) : Nat) : Int) := by unfold rkI; rw [if_pos (by omega)]
    have hu3 : Src g2 u 1 (rkL A).length (ints (rkL A)) := by rw [rkL_len]; exact hu2
    obtain ⟨p, i1, l1, _⟩ := srcN hu3 (show x + 1 < (rkL A).length by rw [rkL_len]; omega)
    rw [rkL_at (by omega)] at l1
    refine w_assoc (s_run (by simp only [runL, Option.getD_some, List.getElem?_cons_succ, List.getElem?_cons_zero, awant_none, astep, evl, put, ap_none, List.length_nil, Nat.add_zero, upd_app, stepBin, abin, stepCall, reduceCtorEq, ↓reduceIte, Nat.reduceEqDiff, w1, hlen, e1] <;> rfl) ?_)
    refine s_false (by simp [evl]) (s_skip ?_)
    refine s_run (by simp only [runL, Option.getD_some, List.getElem?_cons_succ, List.getElem?_cons_zero, awant_none, astep, evl, put, ap_none, List.length_nil, Nat.add_zero, upd_app, stepBin, abin, reduceCtorEq, ↓reduceIte, Nat.reduceEqDiff, w1, i1, l1] <;> rfl) ?_
    exact w_ret ⟨.inr rfl, by simp, [], fin_none (by simp [resVal, hr]) trivial (fun _ _ h => h)⟩

theorem chk_false {s A : List Nat} {i : Nat} (h : i < A.length) (h0 : 0 < i) (hb : bad s A (nth A (i - 1)) (nth A i)) : chk s A = false := decide_eq_false fun h1 => h1 i h h0 hb

set_option maxRecDepth 10000 in
theorem ordered_spec (v w u : Value) (s A : List Nat) (g : Heap) (hl : s.length ≤ 2 ^ 38) (hp : A.Perm (List.range s.length)) (hv : Src g v 1 s.length (bs s)) (hw : Src g w 1 A.length (ints A)) (hu : Src g u 1 A.length (ints (rkL A))) :
    FnSpec Try.prog 26 [v, w, u] g { v := .bool (chk s A), r := srcBlk v ++ srcBlk w ++ srcBlk u } := by
  refine spec_of_body [6] follows Try.func26 rfl (by kernel_rfl) (by simp [Try.f26]) (by kernel_rfl) rfl ?_
  intro g2 s2 n hg hfr hs hn hwf hsv
  have hv2 : Src g2 v 1 s.length (bs s) := hv.congr fun i hi => hg i (by simp [Eff.fp, hi])
  have hw2 : Src g2 w 1 A.length (ints A) := hw.congr fun i hi => hg i (by simp [Eff.fp, hi])
  have hu2 : Src g2 u 1 A.length (ints (rkL A)) := hu.congr fun i hi => hg i (by simp [Eff.fp, hi])
  have hlen := hw2.len Try.underlying22
  have hAl : A.length = s.length := by simpa using hp.length_eq
  have hlt : ∀ i, i < A.length → byt A i < s.length := fun i hi => by
    have : byt A i ∈ A := by rw [byt_eq hi]; exact List.getElem_mem hi
    simpa using hp.mem_iff.1 this
  clear hg hfr hn hv hw hu
  refine s_run (by simp only [runL, awant_none, astep, evl, put, ap_none, List.length_nil, Nat.add_zero, undef] <;> rfl) ?_
  refine w_assoc (s_run (by simp only [runL, awant_none, astep, evl, put, ap_none, List.length_nil, Nat.add_zero] <;> rfl) ?_)
  refine s_for 1 (max 1 A.length) (fun k t g n' => t 0 = v ∧ t 1 = w ∧ t 2 = u ∧ g = g2 ∧ 1 ≤ k ∧ ∀ i, i < k → 0 < i → i < A.length → ¬ bad s A (nth A (i - 1)) (nth A i)) (by omega) (by omega) (by simp []) ⟨by simp [upd_app], by simp [upd_app], by simp [upd_app], rfl, Nat.le_refl _, fun i h1 h2 => by omega⟩ ?_ ?_ ?_
  · rintro k t g m hk t7 ⟨t0, t1, t2, rfl, h1, hok⟩
    have dl : decide ((k : Int) < (A.length : Int)) = decide (k < max 1 A.length) := by
      by_cases h : k < A.length
      · rw [decide_eq_true (by omega), decide_eq_true (by omega)]
      · rw [decide_eq_false (by omega), decide_eq_false (by omega)]
    exact ⟨_, (by simp only [runL, awant_none, astep, evl, put, ap_none, List.length_nil, Nat.add_zero, upd_app, stepBin, abin, stepCall, ↓reduceIte, Nat.reduceEqDiff, t7, t1, hlen, dl] <;> rfl), by simp [], by simp [upd_app, t7], by simp [upd_app, t0], by simp [upd_app, t1], by simp [upd_app, t2], rfl, h1, hok⟩
  · rintro k t g m hk t7 ⟨t0, t1, t2, rfl, h1, hok⟩
    have hkA : k < A.length := by omega
    have w1 : IntKind.i64.wrap ((k : Int) - 1) = ((k - 1 : Nat) : Int) := wrap_sub1 h1 (by omega)
    obtain ⟨p, i1, l1, _⟩ := srcN hw2 (show k - 1 < A.length by omega)
    obtain ⟨q, i2, l2, _⟩ := srcN hw2 hkA
    have hx := hlt (k - 1) (by omega)
    have hy := hlt k hkA
    have hbad : bad s A (nth A (k - 1)) (nth A k) ↔ byt s (byt A k) < byt s (byt A (k - 1)) ∨ (byt s (byt A (k - 1)) = byt s (byt A k) ∧ rkI A (byt A k + 1) < rkI A (byt A (k - 1) + 1)) := by
      unfold bad; rw [nth_byt, nth_byt, nth_byt, nth_byt]
    refine s_draw #[0, 0, 2, 7, 15, 0, 0, 96, 224, 31, 1023] (by decide +kernel) (by simp only [runR, awant_none, astep, evl, put, upd_app, stepBin, abin, ↓reduceIte, Nat.reduceEqDiff, List.isEmpty_nil, Bool.and_self, t1, t7, w1, i1, l1, i2, l2] <;> rfl) ?_
    generalize byt A (k - 1) = x at *
    generalize byt A k = y at *
    refine w_gen (fun t => t 0 = v ∧ t 1 = w ∧ t 2 = u ∧ t 7 = .int .i64 k ∧ t 8 = .int .i64 x ∧ t 9 = .int .i64 y) (by simp [upd_app, t0, t1, t2, t7]) ?_
    clear t0 t1 t2 t7
    rintro t ⟨t0, t1, t2, t7, t8, t9⟩
    obtain ⟨p1, j1, m1, _⟩ := srcB hv2 hx
    obtain ⟨p2, j2, m2, _⟩ := srcB hv2 hy
    have cont : ¬ bad s A (nth A (k - 1)) (nth A k) → ∀ i, i < k + 1 → 0 < i → i < A.length → ¬ bad s A (nth A (i - 1)) (nth A i) := fun hb i ha hb' hc => by
      by_cases e : i = k
      · subst e; exact hb
      · exact hok i (by omega) hb' hc
    by_cases c1 : byt s y < byt s x
    · have d1 : decide (((byt s x : Nat) : Int) > ((byt s y : Nat) : Int)) = true := decide_eq_true (by omega)
      refine s_draw #[0, 0, 3, 7, 0, 0, 48, 112, 255, 511, 1023, 1023, 4095, 8191, 1023, 1023, 50175, 115711, 262143, 524287, 1048575, 1048575, 4194303, 1048575, 1048575, 33554431, 67108863, 134217727, 268435455] (by decide +kernel) (by simp only [runR, awant_some, List.getElem?_toArray, List.getElem?_cons_succ, List.getElem?_cons_zero, Option.bind_some, b_tf, awant_none, astep, evl, put, upd_app, stepBin, abin, stepPick, reduceCtorEq, ↓reduceIte, Nat.reduceEqDiff, undef, List.isEmpty_nil, Bool.and_self, t0, t8, t9, j1, m1, j2, m2, d1] <;> rfl) ?_
      refine w_true (by simp [evl]) (s_run (by simp only [runL, awant_none, astep, evl, put, ap_none, List.length_nil, Nat.add_zero] <;> rfl) ?_)
      refine w_ret ?_
      show _ ∧ _
      exact ⟨.inr rfl, by simp, [], fin_none (by simp [resVal, chk_false hkA h1 (hbad.2 (.inl c1))]) trivial (fun _ _ h => h)⟩
    have d1 : decide (((byt s x : Nat) : Int) > ((byt s y : Nat) : Int)) = false := decide_eq_false (by omega)
    by_cases c2 : byt s x = byt s y
    · have e2 : (((byt s x : Nat) : Int) == ((byt s y : Nat) : Int)) = true := ieq_t (by rw [c2])
      have hb1 := behind_spec u A x g (by omega) (by omega) hu2
      have hb2 := behind_spec u A y g (by omega) (by omega) hu2
      refine s_drawn #[0, 0, 3, 7, 0, 0, 48, 112, 255, 511, 1023, 1023, 4095, 8191, 1023, 1023, 50175, 115711, 262143, 524287, 1048575, 1048575, 4194303, 1048575, 1048575, 33554431, 67108863, 134217727, 268435455] (by decide +kernel) ?_
      refine d_readsB 22 (by simp) (by simp only [runR, awant_some, List.getElem?_toArray, List.getElem?_cons_succ, List.getElem?_cons_zero, Option.bind_some, b_tt, b_ff, List.take_succ_cons, List.take_zero, awant_none, astep, evl, put, upd_app, stepBin, abin, reduceCtorEq, ↓reduceIte, Nat.reduceEqDiff, List.isEmpty_nil, Bool.and_self, t0, t2, t8, t9, j1, m1, j2, m2, d1, e2] <;> rfl) fun a1 ha1 => ?_
      refine d_call 43 _ rfl rfl rfl (by simp only [awant_some, List.getElem?_toArray, List.getElem?_cons_succ, List.getElem?_cons_zero, Option.bind_some, b_tt, upd_app, ↓reduceIte, Nat.reduceEqDiff] <;> rfl) hb1 (by simp) (fun q hq => .inl ?_) ?_
      · exact full_bit (ha1 q hq).1
      refine d_readsB 2 (acc_cons ha1 rfl (Nat.le_refl _)) (by simp only [runR, awant_some, List.getElem?_toArray, List.getElem?_cons_succ, List.getElem?_cons_zero, Option.bind_some, b_tt, List.take_succ_cons, List.take_zero, astep, evl, put, ap_none, List.length_nil, Nat.add_zero, upd_app, ↓reduceIte, Nat.reduceEqDiff, List.isEmpty_nil, Bool.and_self, t2, t9] <;> rfl) fun a2 ha2 => ?_
      refine d_call 43 _ rfl rfl rfl (by simp only [awant_some, List.getElem?_toArray, List.getElem?_cons_succ, List.getElem?_cons_zero, Option.bind_some, b_tt, upd_app, ↓reduceIte, Nat.reduceEqDiff] <;> rfl) hb2 (by simp) (fun q hq => .inl ?_) ?_
      · exact full_bit (ha2 q hq).1
      by_cases c3 : rkI A (y + 1) < rkI A (x + 1)
      · have d3 : decide (rkI A (x + 1) > rkI A (y + 1)) = true := decide_eq_true c3
        refine d_readsB 3 (acc_cons ha2 rfl (Nat.le_refl _)) (by simp only [runR, awant_some, List.getElem?_toArray, List.getElem?_cons_succ, List.getElem?_cons_zero, Option.bind_some, b_tt, b_ff, List.take_succ_cons, List.take_zero, awant_none, astep, evl, put, ap_none, List.length_nil, Nat.add_zero, upd_app, stepBin, abin, stepPick, ↓reduceIte, Nat.reduceEqDiff, Bool.false_eq_true, List.isEmpty_nil, Bool.and_self, d3] <;> rfl) fun a3 ha3 => ?_
        refine w_true (by simp [evl]) (s_run (by simp only [runL, awant_none, astep, evl, put, ap_none, List.length_nil, Nat.add_zero] <;> rfl) ?_)
        refine w_ret ?_
        show _ ∧ _
        exact ⟨.inr rfl, by simp, [], fin_none (by simp [resVal, chk_false hkA h1 (hbad.2 (.inr ⟨c2, c3⟩))]) trivial (fun _ _ h => h)⟩
      · have d3 : decide (rkI A (x + 1) > rkI A (y + 1)) = false := decide_eq_false c3
        refine d_readsB 3 (acc_cons ha2 rfl (Nat.le_refl _)) (by simp only [runR, awant_some, List.getElem?_toArray, List.getElem?_cons_succ, List.getElem?_cons_zero, Option.bind_some, b_tt, b_ff, List.take_succ_cons, List.take_zero, awant_none, astep, evl, put, ap_none, List.length_nil, Nat.add_zero, upd_app, stepBin, abin, stepPick, ↓reduceIte, Nat.reduceEqDiff, Bool.false_eq_true, List.isEmpty_nil, Bool.and_self, d3] <;> rfl) fun a3 ha3 => ?_
        refine w_false (by simp [evl]) (w_skip ?_)
        simp only [rngPost]
        exact ⟨by simp [upd_app, t7], fun _ _ _ => ⟨by simp [upd_app, t0], by simp [upd_app, t1], by simp [upd_app, t2], trivial, by omega, cont (fun h => by rcases hbad.1 h with h | h <;> omega)⟩⟩
    · have e2 : (((byt s x : Nat) : Int) == ((byt s y : Nat) : Int)) = false := ieq_f (by omega)
      refine s_draw #[0, 0, 3, 7, 0, 0, 48, 112, 255, 511, 1023, 1023, 4095, 8191, 1023, 1023, 50175, 115711, 262143, 524287, 1048575, 1048575, 4194303, 1048575, 1048575, 33554431, 67108863, 134217727, 268435455] (by decide +kernel) (by simp only [runR, awant_some, List.getElem?_toArray, List.getElem?_cons_succ, List.getElem?_cons_zero, Option.bind_some, b_ft, b_ff, awant_none, astep, evl, put, upd_app, stepBin, abin, stepPick, reduceCtorEq, ↓reduceIte, Nat.reduceEqDiff, Bool.false_eq_true, undef, List.isEmpty_nil, Bool.and_self, t0, t8, t9, j1, m1, j2, m2, d1, e2] <;> rfl) ?_
      refine w_false (by simp [evl]) (w_skip ?_)
      simp only [rngPost]
      exact ⟨by simp [upd_app, t7], fun _ _ _ => ⟨by simp [upd_app, t0], by simp [upd_app, t1], by simp [upd_app, t2], trivial, by omega, cont (fun h => by rcases hbad.1 h with h | h <;> omega)⟩⟩
  · rintro t g m ⟨t0, t1, t2, rfl, h1, hok⟩
    have hc : chk s A = true := decide_eq_true fun i h1 h2 => hok i (by omega) h2 h1
    refine s_run (by simp only [runL, awant_none, astep, evl, put, ap_none, List.length_nil, Nat.add_zero] <;> rfl) ?_
    exact w_ret ⟨.inr rfl, by simp, [], fin_none (by simp [resVal, hc]) trivial (fun _ _ h => h)⟩
end Go.Proofs.Ytdpkhijbikbhnaa
