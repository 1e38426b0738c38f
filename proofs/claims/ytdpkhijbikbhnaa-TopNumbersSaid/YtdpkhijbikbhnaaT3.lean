import Derived.Test.YtdpkhijbikbhnaaT2
namespace Go.Proofs.Ytdpkhijbikbhnaa
open Go Abs Plain
set_option linter.unusedSimpArgs false
set_option linter.unusedVariables false

theorem nth_byt (l : List Nat) (i : Nat) : nth l i = byt l i := by simp [nth, byt]
theorem max_nat (i j : Nat) : stepMax (.int .i64 (i : Nat)) (.int .i64 (j : Nat)) = some { v := .int .i64 ((max i j : Nat) : Int) } := by
  show some ({ v := .int .i64 (if (i : Int) < (j : Int) then (j : Int) else (i : Int)) } : Eff) = _
  by_cases h : i < j
  · rw [if_pos (by omega), Nat.max_eq_right (by omega)]
  · rw [if_neg (by omega), Nat.max_eq_left (by omega)]
/-- How far two endings are alike: one look. -/
theorem cp_look {s : List Nat} {n i j : Nat} (h : n ≤ cp (s.drop i) (s.drop j)) : n < cp (s.drop i) (s.drop j) ↔ max i j + n < s.length ∧ byt s (i + n) = byt s (j + n) := by
  rw [cp_step h, nth_byt, nth_byt]
  omega

set_option maxRecDepth 10000 in
theorem isEnding_spec (v : Value) (s : List Nat) (i : Nat) (g : Heap) (hi : i ≤ s.length) (hv : Src g v 1 s.length (bs s)) : FnSpec Try.prog 44 [v, .int .i64 i] g { v := .bool true, r := srcBlk v } := by
  refine spec_of_body [4] follows Try.func44 rfl (by kernel_rfl) (by simp [Try.f44]) (by kernel_rfl) rfl ?_
  intro g2 s2 n hg hfr hs hn hwf hsv
  have hv2 : Src g2 v 1 s.length (bs s) := hv.congr fun i hi => hg i (by simp [Eff.fp, hi])
  have hlen := hv2.len Try.underlying30
  have d0 : decide (((i : Nat) : Int) ≥ 0) = true := decide_eq_true (by omega)
  have d1 : decide (((i : Nat) : Int) ≤ (s.length : Int)) = true := decide_eq_true (by omega)
  refine s_run (by simp only [runL, awant_none, astep, evl, put, ap_none, List.length_nil, Nat.add_zero, undef] <;> rfl) ?_
  refine s_run (by simp only [runL, awant_some, Option.getD_some, List.getElem?_toArray, List.getElem?_cons_succ, List.getElem?_cons_zero, Option.bind_some, b_tt, awant_none, astep, evl, put, ap_none, List.length_nil, Nat.add_zero, upd_app, stepBin, abin, stepPick, stepCall, reduceCtorEq, ↓reduceIte, Nat.reduceEqDiff, hlen, d0, d1] <;> rfl) ?_
  exact w_ret ⟨.inr rfl, by simp, [], fin_none (by simp [resVal]) trivial (fun _ _ h => h)⟩

set_option maxRecDepth 10000 in
theorem common_spec (v : Value) (s : List Nat) (i j : Nat) (g : Heap) (hl : s.length ≤ 2 ^ 38) (hi : i ≤ s.length) (hj : j ≤ s.length) (hv : Src g v 1 s.length (bs s)) : FnSpec Try.prog 28 [v, .int .i64 i, .int .i64 j] g { v := .int .i64 (cp (s.drop i) (s.drop j) : Nat), r := srcBlk v } := by
  refine spec_of_body [6] follows Try.func28 rfl (by kernel_rfl) (by simp [Try.f28]) (by kernel_rfl) rfl ?_
  intro g2 s2 n hg hfr hs hn hwf hsv
  have hv2 : Src g2 v 1 s.length (bs s) := hv.congr fun i hi => hg i (by simp [Eff.fp, hi])
  have hlen := hv2.len Try.underlying30
  clear hg hfr hn
  refine s_run (by simp only [runL, awant_none, astep, evl, put, ap_none, List.length_nil, Nat.add_zero, undef] <;> rfl) ?_
  refine w_assoc (s_take 2 (by simp only [runL, Option.getD_some, List.getElem?_cons_succ, List.getElem?_cons_zero, List.take_succ_cons, List.take_zero, awant_none, astep, evl, put, ap_none, List.length_nil, Nat.add_zero, upd_app, reduceCtorEq, ↓reduceIte, Nat.reduceEqDiff] <;> rfl) ?_)
  refine ops_call 44 _ rfl (isEnding_spec v s i g2 hi hv2) (by simp) ?_
  refine ops_take 4 (by simp only [runL, awant_some, Option.getD_some, List.getElem?_toArray, List.getElem?_cons_succ, List.getElem?_cons_zero, Option.bind_some, b_ff, Bool.not_true, List.take_succ_cons, List.take_zero, awant_none, astep, evl, put, ap_none, List.length_nil, Nat.add_zero, upd_app, stepUn, reduceCtorEq, ↓reduceIte, Nat.reduceEqDiff] <;> rfl) ?_
  refine g_call 44 _ (by simp only [awant_some, List.getElem?_toArray, List.getElem?_cons_succ, List.getElem?_cons_zero, Option.bind_some, b_ff, upd_app, ↓reduceIte, Nat.reduceEqDiff] <;> rfl) rfl (isEnding_spec v s j g2 hj hv2) (by simp) ?_
  refine ops_run (by simp only [runL, awant_some, List.getElem?_toArray, List.getElem?_cons_succ, List.getElem?_cons_zero, Option.bind_some, b_ff, Bool.not_true, awant_none, astep, evl, put, ap_none, List.length_nil, Nat.add_zero, upd_app, stepUn, stepPick, ↓reduceIte, Nat.reduceEqDiff, Bool.false_eq_true] <;> rfl) ?_
  refine s_false (by simp [evl]) (s_skip ?_)
  refine w_gen (fun t => t 0 = v ∧ t 1 = .int .i64 i ∧ t 2 = .int .i64 j) (by simp [upd_app]) ?_
  rintro t ⟨t0, t1, t2⟩
  refine s_run (by simp only [runL, awant_none, astep, evl, put, ap_none, List.length_nil, Nat.add_zero] <;> rfl) ?_
  have hcp := cp_le (s.drop i) (s.drop j)
  rw [List.length_drop] at hcp
  refine s_block (fun t g n' => t 7 = .int .i64 (cp (s.drop i) (s.drop j) : Nat) ∧ g = g2) ?_ ?_
  · refine w_loop (fun t g n' => g = g2 ∧ t 0 = v ∧ t 1 = .int .i64 i ∧ t 2 = .int .i64 j ∧ ∃ k : Nat, t 7 = .int .i64 k ∧ k ≤ cp (s.drop i) (s.drop j)) (fun t _ _ => match t 7 with | .int _ k => cp (s.drop i) (s.drop j) - k.toNat | _ => 0) ⟨rfl, by simp [upd_app, t0], by simp [upd_app, t1], by simp [upd_app, t2], 0, by simp [], by omega⟩ ?_
    clear t0 t1 t2
    rintro t g n' ⟨rfl, t0, t1, t2, k, t7, hk⟩
    have hlook := cp_look hk
    obtain ⟨C, hC⟩ : ∃ C, cp (s.drop i) (s.drop j) = C := ⟨_, rfl⟩
    rw [hC] at hlook hk hcp
    have hmx := max_nat i j
    have w1 : IntKind.i64.wrap (((max i j : Nat) : Int) + ((k : Nat) : Int)) = ((max i j + k : Nat) : Int) := wrap_add (by omega)
    have hμ : (match t 7 with | .int _ k => C - k.toNat | _ => 0) = C - k := by rw [t7]; rfl
    by_cases h1 : max i j + k < s.length
    · have d1 : decide (((max i j + k : Nat) : Int) < (s.length : Int)) = true := decide_eq_true (by omega)
      have w2 : IntKind.i64.wrap (((i : Nat) : Int) + ((k : Nat) : Int)) = ((i + k : Nat) : Int) := wrap_add (by omega)
      have w3 : IntKind.i64.wrap (((j : Nat) : Int) + ((k : Nat) : Int)) = ((j + k : Nat) : Int) := wrap_add (by omega)
      obtain ⟨p, i1, l1, _⟩ := srcB hv2 (show i + k < s.length by omega)
      obtain ⟨q, i2, l2, _⟩ := srcB hv2 (show j + k < s.length by omega)
      by_cases h2 : byt s (i + k) = byt s (j + k)
      · have e1 : (((byt s (i + k) : Nat) : Int) == ((byt s (j + k) : Nat) : Int)) = true := ieq_t (by rw [h2])
        refine w_assoc (s_draw #[0, 0, 3, 0, 15, 0, 32, 127, 255, 511, 511, 511, 3583, 8191, 16383, 511, 511, 511, 197119, 492031, 1016319, 2097151, 4194303] (by decide +kernel) (by simp only [runR, awant_some, List.getElem?_toArray, List.getElem?_cons_succ, List.getElem?_cons_zero, Option.bind_some, b_tt, awant_none, astep, evl, put, upd_app, stepBin, abin, stepPick, stepCall, reduceCtorEq, ↓reduceIte, Nat.reduceEqDiff, List.isEmpty_nil, Bool.and_self, t0, t1, t2, t7, hmx, w1, hlen, d1, w2, w3, i1, l1, i2, l2, e1] <;> rfl) ?_)
        refine s_true (by simp [evl]) (s_skip (w_block ?_))
        have hlt : k < C := hlook.2 ⟨h1, h2⟩
        have w4 : IntKind.i64.wrap (((k : Nat) : Int) + 1) = ((k + 1 : Nat) : Int) := wrap_succ (by omega)
        refine w_gen (fun t => t 0 = v ∧ t 1 = .int .i64 i ∧ t 2 = .int .i64 j ∧ t 7 = .int .i64 k) (by simp [upd_app, t0, t1, t2, t7]) ?_
        rw [hC] at *
        rw [hμ]
        clear t0 t1 t2 t7 hμ
        rintro t ⟨t0, t1, t2, t7⟩
        refine region_run (id := 5) (by simp only [runL, awant_none, astep, evl, put, ap_none, List.length_nil, Nat.add_zero, upd_app, stepBin, abin, ↓reduceIte, t7, w4] <;> rfl) ?_
        refine ⟨⟨rfl, by simp [upd_app, t0], by simp [upd_app, t1], by simp [upd_app, t2], k + 1, by simp [], by omega⟩, ?_⟩
        simp only [upd_app]
        show C - ((k + 1 : Nat) : Int).toNat < _
        rw [Int.toNat_natCast]
        omega
      · have e1 : (((byt s (i + k) : Nat) : Int) == ((byt s (j + k) : Nat) : Int)) = false := ieq_f (by omega)
        refine w_assoc (s_draw #[0, 0, 3, 0, 15, 0, 32, 127, 255, 511, 511, 511, 3583, 8191, 16383, 511, 511, 511, 197119, 492031, 1016319, 2097151, 4194303] (by decide +kernel) (by simp only [runR, awant_some, List.getElem?_toArray, List.getElem?_cons_succ, List.getElem?_cons_zero, Option.bind_some, b_tt, awant_none, astep, evl, put, upd_app, stepBin, abin, stepPick, stepCall, reduceCtorEq, ↓reduceIte, Nat.reduceEqDiff, List.isEmpty_nil, Bool.and_self, t0, t1, t2, t7, hmx, w1, hlen, d1, w2, w3, i1, l1, i2, l2, e1] <;> rfl) ?_)
        refine s_false (by simp [evl]) (s_exit ?_)
        have : k = C := by
          apply Classical.byContradiction
          intro hne
          exact h2 (hlook.1 (by omega)).2
        subst this
        exact ⟨by simp [upd_app, t7, hC], rfl⟩
    · have d1 : decide (((max i j + k : Nat) : Int) < (s.length : Int)) = false := decide_eq_false (by omega)
      refine w_assoc (s_draw #[0, 0, 3, 0, 15, 0, 32, 127, 255, 511, 511, 511, 3583, 8191, 16383, 511, 511, 511, 197119, 492031, 1016319, 2097151, 4194303] (by decide +kernel) (by simp only [runR, awant_some, List.getElem?_toArray, List.getElem?_cons_succ, List.getElem?_cons_zero, Option.bind_some, b_ft, awant_none, astep, evl, put, upd_app, stepBin, abin, stepPick, stepCall, reduceCtorEq, ↓reduceIte, Nat.reduceEqDiff, Bool.false_eq_true, undef, List.isEmpty_nil, Bool.and_self, t0, t1, t2, t7, hmx, w1, hlen, d1] <;> rfl) ?_)
      refine s_false (by simp [evl]) (s_exit ?_)
      have : k = C := by
        apply Classical.byContradiction
        intro hne
        exact h1 (hlook.1 (by omega)).1
      subst this
      exact ⟨by simp [upd_app, t7, hC], rfl⟩
  · rintro t g n' ⟨t7, rfl⟩
    refine s_run (by simp only [runL, awant_none, astep, evl, put, ap_none, List.length_nil, Nat.add_zero, upd_app, ↓reduceIte, t7] <;> rfl) ?_
    exact w_ret ⟨.inr rfl, by simp, [], fin_none (by simp [resVal]) trivial (fun _ _ h => h)⟩

set_option maxRecDepth 10000 in
theorem rcommon_spec (v : Value) (s : List Nat) (i j : Nat) (g : Heap) (hl : s.length ≤ 2 ^ 38) (hi : i ≤ s.length) (hj : j ≤ s.length) (hv : Src g v 1 s.length (bs s)) : FnSpec Try.prog 14 [v, .int .i64 i, .int .i64 j] g { v := .int .i64 (cp (s.drop i) (s.drop j) : Nat), r := srcBlk v } := by
  refine spec_of_body [6] follows Try.func14 rfl (by kernel_rfl) (by simp [Try.f14]) (by kernel_rfl) rfl ?_
  intro g2 s2 n hg hfr hs hn hwf hsv
  have hv2 : Src g2 v 1 s.length (bs s) := hv.congr fun i hi => hg i (by simp [Eff.fp, hi])
  have hlen := hv2.len Try.underlying30
  clear hg hfr hn
  refine s_run (by simp only [runL, awant_none, astep, evl, put, ap_none, List.length_nil, Nat.add_zero, undef] <;> rfl) ?_
  have d0 : decide (((i : Nat) : Int) < 0) = false := decide_eq_false (by omega)
  have d1 : decide (((i : Nat) : Int) > (s.length : Int)) = false := decide_eq_false (by omega)
  have d2 : decide (((j : Nat) : Int) < 0) = false := decide_eq_false (by omega)
  have d3 : decide (((j : Nat) : Int) > (s.length : Int)) = false := decide_eq_false (by omega)
  refine w_assoc (s_run (by simp only [runL, awant_some, Option.getD_some, List.getElem?_toArray, List.getElem?_cons_succ, List.getElem?_cons_zero, Option.bind_some, b_ff, awant_none, astep, evl, put, ap_none, List.length_nil, Nat.add_zero, upd_app, stepBin, abin, stepPick, stepCall, reduceCtorEq, ↓reduceIte, Nat.reduceEqDiff, Bool.false_eq_true, hlen, d0, d1, d2, d3] <;> rfl) ?_)
  refine s_false (by simp [evl]) (s_skip ?_)
  clear d0 d1 d2 d3
  refine w_gen (fun t => t 0 = v ∧ t 1 = .int .i64 i ∧ t 2 = .int .i64 j) (by simp [upd_app]) ?_
  rintro t ⟨t0, t1, t2⟩
  refine s_run (by simp only [runL, awant_none, astep, evl, put, ap_none, List.length_nil, Nat.add_zero] <;> rfl) ?_
  have hcp := cp_le (s.drop i) (s.drop j)
  rw [List.length_drop] at hcp
  refine s_block (fun t g n' => t 7 = .int .i64 (cp (s.drop i) (s.drop j) : Nat) ∧ g = g2) ?_ ?_
  · refine w_loop (fun t g n' => g = g2 ∧ t 0 = v ∧ t 1 = .int .i64 i ∧ t 2 = .int .i64 j ∧ ∃ k : Nat, t 7 = .int .i64 k ∧ k ≤ cp (s.drop i) (s.drop j)) (fun t _ _ => match t 7 with | .int _ k => cp (s.drop i) (s.drop j) - k.toNat | _ => 0) ⟨rfl, by simp [upd_app, t0], by simp [upd_app, t1], by simp [upd_app, t2], 0, by simp [], by omega⟩ ?_
    clear t0 t1 t2
    rintro t g n' ⟨rfl, t0, t1, t2, k, t7, hk⟩
    have hlook := cp_look hk
    obtain ⟨C, hC⟩ : ∃ C, cp (s.drop i) (s.drop j) = C := ⟨_, rfl⟩
    rw [hC] at hlook hk hcp
    have hmx := max_nat i j
    have w1 : IntKind.i64.wrap (((max i j : Nat) : Int) + ((k : Nat) : Int)) = ((max i j + k : Nat) : Int) := wrap_add (by omega)
    have hμ : (match t 7 with | .int _ k => C - k.toNat | _ => 0) = C - k := by rw [t7]; rfl
    by_cases h1 : max i j + k < s.length
    · have d1 : decide (((max i j + k : Nat) : Int) < (s.length : Int)) = true := decide_eq_true (by omega)
      have w2 : IntKind.i64.wrap (((i : Nat) : Int) + ((k : Nat) : Int)) = ((i + k : Nat) : Int) := wrap_add (by omega)
      have w3 : IntKind.i64.wrap (((j : Nat) : Int) + ((k : Nat) : Int)) = ((j + k : Nat) : Int) := wrap_add (by omega)
      obtain ⟨p, i1, l1, _⟩ := srcB hv2 (show i + k < s.length by omega)
      obtain ⟨q, i2, l2, _⟩ := srcB hv2 (show j + k < s.length by omega)
      by_cases h2 : byt s (i + k) = byt s (j + k)
      · have e1 : (((byt s (i + k) : Nat) : Int) == ((byt s (j + k) : Nat) : Int)) = true := ieq_t (by rw [h2])
        refine w_assoc (s_draw #[0, 0, 3, 0, 15, 0, 32, 127, 255, 511, 511, 511, 3583, 8191, 16383, 511, 511, 511, 197119, 492031, 1016319, 2097151, 4194303] (by decide +kernel) (by simp only [runR, awant_some, List.getElem?_toArray, List.getElem?_cons_succ, List.getElem?_cons_zero, Option.bind_some, b_tt, awant_none, astep, evl, put, upd_app, stepBin, abin, stepPick, stepCall, reduceCtorEq, ↓reduceIte, Nat.reduceEqDiff, List.isEmpty_nil, Bool.and_self, t0, t1, t2, t7, hmx, w1, hlen, d1, w2, w3, i1, l1, i2, l2, e1] <;> rfl) ?_)
        refine s_true (by simp [evl]) (s_skip (w_block ?_))
        have hlt : k < C := hlook.2 ⟨h1, h2⟩
        have w4 : IntKind.i64.wrap (((k : Nat) : Int) + 1) = ((k + 1 : Nat) : Int) := wrap_succ (by omega)
        refine w_gen (fun t => t 0 = v ∧ t 1 = .int .i64 i ∧ t 2 = .int .i64 j ∧ t 7 = .int .i64 k) (by simp [upd_app, t0, t1, t2, t7]) ?_
        rw [hC] at *
        rw [hμ]
        clear t0 t1 t2 t7 hμ
        rintro t ⟨t0, t1, t2, t7⟩
        refine region_run (id := 5) (by simp only [runL, awant_none, astep, evl, put, ap_none, List.length_nil, Nat.add_zero, upd_app, stepBin, abin, ↓reduceIte, t7, w4] <;> rfl) ?_
        refine ⟨⟨rfl, by simp [upd_app, t0], by simp [upd_app, t1], by simp [upd_app, t2], k + 1, by simp [], by omega⟩, ?_⟩
        simp only [upd_app]
        show C - ((k + 1 : Nat) : Int).toNat < _
        rw [Int.toNat_natCast]
        omega
      · have e1 : (((byt s (i + k) : Nat) : Int) == ((byt s (j + k) : Nat) : Int)) = false := ieq_f (by omega)
        refine w_assoc (s_draw #[0, 0, 3, 0, 15, 0, 32, 127, 255, 511, 511, 511, 3583, 8191, 16383, 511, 511, 511, 197119, 492031, 1016319, 2097151, 4194303] (by decide +kernel) (by simp only [runR, awant_some, List.getElem?_toArray, List.getElem?_cons_succ, List.getElem?_cons_zero, Option.bind_some, b_tt, awant_none, astep, evl, put, upd_app, stepBin, abin, stepPick, stepCall, reduceCtorEq, ↓reduceIte, Nat.reduceEqDiff, List.isEmpty_nil, Bool.and_self, t0, t1, t2, t7, hmx, w1, hlen, d1, w2, w3, i1, l1, i2, l2, e1] <;> rfl) ?_)
        refine s_false (by simp [evl]) (s_exit ?_)
        have : k = C := by
          apply Classical.byContradiction
          intro hne
          exact h2 (hlook.1 (by omega)).2
        subst this
        exact ⟨by simp [upd_app, t7, hC], rfl⟩
    · have d1 : decide (((max i j + k : Nat) : Int) < (s.length : Int)) = false := decide_eq_false (by omega)
      refine w_assoc (s_draw #[0, 0, 3, 0, 15, 0, 32, 127, 255, 511, 511, 511, 3583, 8191, 16383, 511, 511, 511, 197119, 492031, 1016319, 2097151, 4194303] (by decide +kernel) (by simp only [runR, awant_some, List.getElem?_toArray, List.getElem?_cons_succ, List.getElem?_cons_zero, Option.bind_some, b_ft, awant_none, astep, evl, put, upd_app, stepBin, abin, stepPick, stepCall, reduceCtorEq, ↓reduceIte, Nat.reduceEqDiff, Bool.false_eq_true, undef, List.isEmpty_nil, Bool.and_self, t0, t1, t2, t7, hmx, w1, hlen, d1] <;> rfl) ?_)
      refine s_false (by simp [evl]) (s_exit ?_)
      have : k = C := by
        apply Classical.byContradiction
        intro hne
        exact h1 (hlook.1 (by omega)).1
      subst this
      exact ⟨by simp [upd_app, t7, hC], rfl⟩
  · rintro t g n' ⟨t7, rfl⟩
    refine s_run (by simp only [runL, awant_none, astep, evl, put, ap_none, List.length_nil, Nat.add_zero, upd_app, ↓reduceIte, t7] <;> rfl) ?_
    exact w_ret ⟨.inr rfl, by simp, [], fin_none (by simp [resVal]) trivial (fun _ _ h => h)⟩
end Go.Proofs.Ytdpkhijbikbhnaa
