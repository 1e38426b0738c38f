import Derived.Test.YtokmmcfnpobldaaV6
namespace Go.Proofs.Ytokmmcfnpobldaa
open Go Abs
set_option linter.unusedSimpArgs false
set_option linter.unusedVariables false

theorem and127 (u : Nat) (h : u < 2 ^ 64) : bits .and .u64 (u : Int) 127 = ((u % 128 : Nat) : Int) := by
  have := u64_and_nat u 127 (by omega) (by omega)
  rw [nat_mask7] at this
  exact this
theorem or128' (u : Nat) : bits .or .u64 ((u % 128 : Nat) : Int) 128 = ((u % 128 + 128 : Nat) : Int) := by
  have := u64_or_nat (u % 128) 128 (by omega) (by omega)
  rw [Nat.or_comm, nat_join 7 _ _ (by decide) (by omega), Nat.add_comm] at this
  exact this
theorem w128 (u : Nat) : IntKind.u8.wrap ((u % 128 + 128 : Nat) : Int) = ((u % 128 + 128 : Nat) : Int) := by rw [wrap_u8, Nat.mod_eq_of_lt (by omega)]

set_option maxRecDepth 10000 in
theorem rput_spec (v : Nat) (hv : v < 2 ^ 64) (g : Heap) (j : Nat) : FnSpec Try.prog 18 [.int .u64 v] g { v := .slice (some ⟨j, 0, some (vput v).length⟩) (vput v).length 1, j := j, a := [⟨false, 5, bs (vput v)⟩] } := by
  refine spec_of_body [2] follows Try.func18 rfl (by kernel_rfl) (by simp [Try.f18]) (by kernel_rfl) rfl ?_
  intro g2 s2 n hg hfr hs hn hwf hsv
  refine s_run (by simp only [runL, List.drop_succ_cons, List.drop_zero, awant_some, Option.getD_some, List.getElem?_toArray, List.getElem?_cons_succ, List.getElem?_cons_zero, Option.bind_some, b_tt, b_tf, b_ft, b_ff, Bool.not_true, Bool.not_false, List.take_succ_cons, List.take_zero, awant_none, astep, evl, put, ap_none, ap_new, ap_wr, List.length_nil, List.length_cons, Nat.add_zero, Nat.zero_add, upd_app, stepBin, abin, stepUn, stepPick, stepExtract, stepCall, if_true, if_false, reduceCtorEq, ↓reduceIte, Nat.reduceEqDiff, Nat.reduceAdd, List.map_cons, List.map_nil, Option.map_some, Option.map_none, Bool.false_eq_true, Int.reduceLE, Int.reduceToNat, ne_eq, not_false_eq_true, and_self, and_true, true_and, decide_true, decide_false] <;> rfl) ?_
  refine s_run (by simp only [runL, List.drop_succ_cons, List.drop_zero, awant_some, Option.getD_some, List.getElem?_toArray, List.getElem?_cons_succ, List.getElem?_cons_zero, Option.bind_some, b_tt, b_tf, b_ft, b_ff, Bool.not_true, Bool.not_false, List.take_succ_cons, List.take_zero, awant_none, astep, evl, put, ap_none, ap_new, ap_wr, List.length_nil, List.length_cons, Nat.add_zero, Nat.zero_add, upd_app, stepBin, abin, stepUn, stepPick, stepExtract, stepCall, if_true, if_false, reduceCtorEq, ↓reduceIte, Nat.reduceEqDiff, Nat.reduceAdd, List.map_cons, List.map_nil, Option.map_some, Option.map_none, Bool.false_eq_true, Int.reduceLE, Int.reduceToNat, ne_eq, not_false_eq_true, and_self, and_true, true_and, decide_true, decide_false] <;> rfl) ?_
  refine s_block (fun t g n' => ∃ (u : Nat) (a : List Nat) (i : Option Nat), u < 128 ∧ a ++ vput u = vput v ∧ t 0 = .int .u64 u ∧ OwnI 5 1 g (t 3) a.length (bs a) i ∧ (∀ k, i = some k → n ≤ k ∧ k < n') ∧ (∀ k, k < n → g k = g2 k) ∧ n ≤ n') ?_ ?_
  · refine w_loop (fun t g n' => ∃ (u : Nat) (a : List Nat) (i : Option Nat), u < 2 ^ 64 ∧ a ++ vput u = vput v ∧ t 0 = .int .u64 u ∧ OwnI 5 1 g (t 3) a.length (bs a) i ∧ (∀ k, i = some k → n ≤ k ∧ k < n') ∧ (∀ k, k < n → g k = g2 k) ∧ n ≤ n')
      (fun t g n' => match t 0 with | .int _ u => u.toNat | _ => 0) ⟨v, [], none, hv, rfl, rfl, OwnI.nil 5 1 g2, by simp, fun k hk => rfl, Nat.le_refl _⟩ ?_
    rintro t g n' ⟨u, a, i, hu, ha, ht0, hO, hi, hk, hnn⟩
    refine w_assoc (s_run (by simp only [runL, List.drop_succ_cons, List.drop_zero, awant_some, Option.getD_some, List.getElem?_toArray, List.getElem?_cons_succ, List.getElem?_cons_zero, Option.bind_some, b_tt, b_tf, b_ft, b_ff, Bool.not_true, Bool.not_false, List.take_succ_cons, List.take_zero, awant_none, astep, evl, put, ap_none, ap_new, ap_wr, List.length_nil, List.length_cons, Nat.add_zero, Nat.zero_add, upd_app, stepBin, abin, stepUn, stepPick, stepExtract, stepCall, if_true, if_false, reduceCtorEq, ↓reduceIte, Nat.reduceEqDiff, Nat.reduceAdd, List.map_cons, List.map_nil, Option.map_some, Option.map_none, Bool.false_eq_true, Int.reduceLE, Int.reduceToNat, ne_eq, not_false_eq_true, and_self, and_true, true_and, decide_true, decide_false, ht0] <;> rfl) ?_)
    by_cases h128 : u < 128
    · refine s_false (by simp [evl, upd_app]; omega) ?_
      refine s_exit ?_
      exact ⟨u, a, i, h128, ha, by simpa [upd_app] using ht0, by simpa [upd_app] using hO, hi, hk, hnn⟩
    · refine s_true (by simp [evl, upd_app]; omega) ?_
      refine s_skip (w_block ?_)
      have hal : a.length + 1 ≤ 10 := by
        have h1 := congrArg List.length ha
        have h2 := vput_len10 v hv
        rw [vput_high h128] at h1
        simp at h1
        omega
      obtain ⟨f, i', hf, hO', hi', hk'⟩ := own_push (P := Try.prog) (n := n') (T := 23) (c := .int .u8 ((u % 128 + 128 : Nat) : Int)) hO (fun k hk => (hi k hk).2) Try.underlying23 tinf5 (by omega) (by omega)
      refine s_run (by simp only [runL, List.drop_succ_cons, List.drop_zero, awant_some, Option.getD_some, List.getElem?_toArray, List.getElem?_cons_succ, List.getElem?_cons_zero, Option.bind_some, b_tt, b_tf, b_ft, b_ff, Bool.not_true, Bool.not_false, List.take_succ_cons, List.take_zero, awant_none, astep, evl, put, ap_none, ap_new, ap_wr, List.length_nil, List.length_cons, Nat.add_zero, Nat.zero_add, upd_app, stepBin, abin, stepUn, stepPick, stepExtract, stepCall, if_true, if_false, reduceCtorEq, ↓reduceIte, Nat.reduceEqDiff, Nat.reduceAdd, List.map_cons, List.map_nil, Option.map_some, Option.map_none, Bool.false_eq_true, Int.reduceLE, Int.reduceToNat, ne_eq, not_false_eq_true, and_self, and_true, true_and, decide_true, decide_false, ht0, lit23, and127 u hu, or128' u, conv22_5, w128 u, hf] <;> rfl) ?_
      refine region_run (by simp only [runL, List.drop_succ_cons, List.drop_zero, awant_some, Option.getD_some, List.getElem?_toArray, List.getElem?_cons_succ, List.getElem?_cons_zero, Option.bind_some, b_tt, b_tf, b_ft, b_ff, Bool.not_true, Bool.not_false, List.take_succ_cons, List.take_zero, awant_none, astep, evl, put, ap_none, ap_new, ap_wr, List.length_nil, List.length_cons, Nat.add_zero, Nat.zero_add, upd_app, stepBin, abin, stepUn, stepPick, stepExtract, stepCall, if_true, if_false, reduceCtorEq, ↓reduceIte, Nat.reduceEqDiff, Nat.reduceAdd, List.map_cons, List.map_nil, Option.map_some, Option.map_none, Bool.false_eq_true, Int.reduceLE, Int.reduceToNat, ne_eq, not_false_eq_true, and_self, and_true, true_and, decide_true, decide_false, ht0] <;> rfl) ?_
      have hu' : (u : Int).fdiv (2 ^ (min 7 IntKind.u64.bits)) = ((u / 128 : Nat) : Int) := shr_nat .u64 u 7 (by decide)
      refine ⟨⟨u / 128, a ++ [u % 128 + 128], i', by omega, by rw [← ha, vput_high h128]; simp, by simp [upd_app, hu'], by simpa [upd_app] using hO', fun k hk1 => ?_, fun k hk1 => ?_, by omega⟩, ?_⟩
      · have := hi' k hk1
        rcases this.1 with h | h
        · have := hi k h; omega
        · omega
      · rw [hk' k (by omega) (fun e => by have := hi k e.symm; omega)]
        exact hk k hk1
      · simp [upd_app, hu', ht0]
        omega
  · rintro t g n' ⟨u, a, i, hu, ha, ht0, hO, hi, hk, hnn⟩
    have hal : a.length + 1 ≤ 10 := by
      have h1 := congrArg List.length ha
      have h2 := vput_len10 v hv
      rw [vput_low hu] at h1
      simp at h1
      omega
    obtain ⟨f, i', hf, hO', hi', hk'⟩ := own_push (P := Try.prog) (n := n') (T := 23) (c := .int .u8 (IntKind.u8.wrap (u : Int))) hO (fun k hk => (hi k hk).2) Try.underlying23 tinf5 (by omega) (by omega)
    refine s_run (by simp only [runL, List.drop_succ_cons, List.drop_zero, awant_some, Option.getD_some, List.getElem?_toArray, List.getElem?_cons_succ, List.getElem?_cons_zero, Option.bind_some, b_tt, b_tf, b_ft, b_ff, Bool.not_true, Bool.not_false, List.take_succ_cons, List.take_zero, awant_none, astep, evl, put, ap_none, ap_new, ap_wr, List.length_nil, List.length_cons, Nat.add_zero, Nat.zero_add, upd_app, stepBin, abin, stepUn, stepPick, stepExtract, stepCall, if_true, if_false, reduceCtorEq, ↓reduceIte, Nat.reduceEqDiff, Nat.reduceAdd, List.map_cons, List.map_nil, Option.map_some, Option.map_none, Bool.false_eq_true, Int.reduceLE, Int.reduceToNat, ne_eq, not_false_eq_true, and_self, and_true, true_and, decide_true, decide_false, ht0, lit23, conv22_5, hf] <;> rfl) ?_
    refine w_ret ?_
    rcases hO' with ⟨_, _, h0, _⟩ | ⟨k, rfl, hv', hg', hl⟩
    · omega
    · have hbv : bs a ++ [Value.int .u8 (IntKind.u8.wrap (u : Int))] = bs (vput v) := by
        rw [← ha, vput_low hu, wrap_u8, Nat.mod_eq_of_lt (by omega)]
        simp
      have hlen : a.length + 1 = (vput v).length := by rw [← ha, vput_low hu]; simp
      rw [hbv] at hv' hg'
      refine ⟨.inr rfl, by simp, [k], ?_⟩
      have hnk : n ≤ k := by
        rcases (hi' k rfl).1 with h | h
        · exact (hi k h).1
        · omega
      have := fin_slice (s2 := s2) (g2 := g2) (n := n) (j := j) (r := []) (v' := f.v) (m := (vput v).length) (esz := 1) (by rw [hv', hlen]) hnk hg' plain_ints (fun i' b hb => by
        have h1 := hs i' (hwf i' b hb).1
        rw [hk' i' (by omega) (fun e => by have := hi i' e.symm; omega), hk i' h1]
        exact hb)
      simpa [resVal, upd_app] using this
end Go.Proofs.Ytokmmcfnpobldaa
