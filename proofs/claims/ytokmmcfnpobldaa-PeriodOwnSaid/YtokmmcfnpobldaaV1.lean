import Derived.Test.YtokmmcfnpobldaaAbs13
import Derived.Test.YtokmmcfnpobldaaProg
import Derived.KernelRfl
namespace Go.Proofs.Ytokmmcfnpobldaa
open Go Abs
set_option linter.unusedSimpArgs false

theorem follows : Try.prog.follows .mixedOrders = true := by kernel_rfl
theorem tinf5 : tinf Try.prog 5 = some ([.int .u8 0], 1, 1) := by kernel_rfl
theorem lit23 (x : Int) (j : Nat) : stepBuildSlice Try.prog 23 1 [(0, .int .u8 x)] j = some { v := .slice (some ⟨j, 0, some 1⟩) 1 1, j := j, a := [⟨false, 5, [.int .u8 x]⟩] } := build_one Try.underlying23 tinf5 _ _ _
theorem conv22_5 (x : Int) (g : Heap) : stepConv Try.prog 22 5 (.int .u64 x) g = some { v := .int .u8 (IntKind.u8.wrap x) } := by simp [stepConv, Try.underlying22, Try.underlying5]

/-- A number's bytes. -/
def vput (v : Nat) : List Nat := if v < 128 then [v] else (v % 128 + 128) :: vput (v / 128)
termination_by v
decreasing_by omega

abbrev bs (l : List Nat) : List Value := l.map fun (b : Nat) => Value.int .u8 (b : Int)

theorem vput_low {v : Nat} (h : v < 128) : vput v = [v] := by rw [vput, if_pos h]
theorem vput_high {v : Nat} (h : ¬ v < 128) : vput v = (v % 128 + 128) :: vput (v / 128) := by rw [vput, if_neg h]

theorem wrap_u8 (v : Nat) : IntKind.u8.wrap (v : Int) = ((v % 256 : Nat) : Int) := by simp [IntKind.wrap, IntKind.bits, IntKind.signed]
theorem or128_lt : ∀ b : Nat, b < 256 → bits .or .u8 (b : Int) 128 = ((b % 128 + 128 : Nat) : Int) := by decide +kernel
theorem or128 (v : Nat) : bits .or .u8 (IntKind.u8.wrap (v : Int)) 128 = ((v % 128 + 128 : Nat) : Int) := by
  rw [wrap_u8, or128_lt _ (Nat.mod_lt _ (by omega)), Nat.mod_mod_of_dvd v (show 128 ∣ 256 by omega)]

theorem shr_nat (k : IntKind) (v s : Nat) (hs : s ≤ k.bits) : (v : Int).fdiv (2 ^ (min (s : Int).toNat k.bits)) = ((v / 2 ^ s : Nat) : Int) := by
  have h1 : min (s : Int).toNat k.bits = s := by simp; omega
  rw [h1, Int.fdiv_eq_ediv_of_nonneg _ (by exact Int.pow_nonneg (by omega))]
  simp

theorem vput_len (v : Nat) : (vput v).length ≤ v + 1 := by
  induction v using Nat.strongRecOn with
  | _ v ih =>
    rw [vput]
    split
    · simp
    · have := ih (v / 128) (by omega)
      simp
      omega

theorem vput_len10 (v : Nat) (h : v < 2 ^ 64) : (vput v).length ≤ 10 := by
  have key : ∀ (k v : Nat), v < 128 ^ k → (vput v).length ≤ max k 1 := by
    intro k
    induction k with
    | zero => intro v hv; simp [vput_low (show v < 128 by rw [Nat.pow_zero] at hv; omega)]
    | succ k ih =>
      intro v hv
      by_cases h1 : v < 128
      · rw [vput_low h1]; simp only [List.length_cons, List.length_nil]; omega
      · rw [vput_high h1]
        have hlt : v / 128 < 128 ^ k := by rw [Nat.div_lt_iff_lt_mul (by omega)]; rw [Nat.pow_succ] at hv; exact hv
        have := ih (v / 128) hlt
        cases k with
        | zero => rw [Nat.pow_zero] at hlt; omega
        | succ k => simp; omega
  have := key 10 v (by omega)
  omega

set_option maxRecDepth 10000 in
theorem put_spec (v : Nat) (hv : v < 2 ^ 64) (g : Heap) (j : Nat) : FnSpec Try.prog 16 [.int .u64 v] g { v := .slice (some ⟨j, 0, some (vput v).length⟩) (vput v).length 1, j := j, a := [⟨false, 5, bs (vput v)⟩] } := by
  refine spec_of_body [2] follows Try.func16 rfl (by kernel_rfl) (by simp [Try.f16]) (by kernel_rfl) rfl ?_
  intro g2 s2 n hg hfr hs hn hwf hsv
  refine s_run (by simp only [runL, List.drop_succ_cons, List.drop_zero, awant_some, Option.getD_some, List.getElem?_toArray, List.getElem?_cons_succ, List.getElem?_cons_zero, Option.bind_some, b_tt, b_tf, b_ft, b_ff, Bool.not_true, Bool.not_false, List.take_succ_cons, List.take_zero, awant_none, astep, evl, put, ap_none, ap_new, ap_wr, List.length_nil, List.length_cons, Nat.add_zero, Nat.zero_add, upd_app, stepBin, abin, stepUn, stepPick, stepExtract, stepCall, if_true, if_false, reduceCtorEq, ↓reduceIte, Nat.reduceEqDiff, Nat.reduceAdd, List.map_cons, List.map_nil, Option.map_some, Option.map_none, Bool.false_eq_true, Int.reduceLE, Int.reduceToNat, ne_eq, not_false_eq_true, and_self, and_true, true_and, decide_true, decide_false] <;> rfl) ?_
  refine s_run (by simp only [runL, List.drop_succ_cons, List.drop_zero, awant_some, Option.getD_some, List.getElem?_toArray, List.getElem?_cons_succ, List.getElem?_cons_zero, Option.bind_some, b_tt, b_tf, b_ft, b_ff, Bool.not_true, Bool.not_false, List.take_succ_cons, List.take_zero, awant_none, astep, evl, put, ap_none, ap_new, ap_wr, List.length_nil, List.length_cons, Nat.add_zero, Nat.zero_add, upd_app, stepBin, abin, stepUn, stepPick, stepExtract, stepCall, if_true, if_false, reduceCtorEq, ↓reduceIte, Nat.reduceEqDiff, Nat.reduceAdd, List.map_cons, List.map_nil, Option.map_some, Option.map_none, Bool.false_eq_true, Int.reduceLE, Int.reduceToNat, ne_eq, not_false_eq_true, and_self, and_true, true_and, decide_true, decide_false] <;> rfl) ?_
  refine s_block (fun t g n' => ∃ (u : Nat) (a : List Nat) (i : Option Nat), u < 128 ∧ a ++ vput u = vput v ∧ t 0 = .int .u64 u ∧ OwnI 5 1 g (t 3) a.length (bs a) i ∧ (∀ k, i = some k → n ≤ k ∧ k < n') ∧ (∀ k, k < n → g k = g2 k) ∧ n ≤ n') ?_ ?_
  · refine w_loop (fun t g n' => ∃ (u : Nat) (a : List Nat) (i : Option Nat), u < 2 ^ 64 ∧ a ++ vput u = vput v ∧ t 0 = .int .u64 u ∧ OwnI 5 1 g (t 3) a.length (bs a) i ∧ (∀ k, i = some k → n ≤ k ∧ k < n') ∧ (∀ k, k < n → g k = g2 k) ∧ n ≤ n')
      (fun t g n' => match t 0 with | .int _ u => u.toNat | _ => 0) ⟨v, [], none, hv, rfl, rfl, OwnI.nil 5 1 g2, by simp, fun k hk => rfl, Nat.le_refl _⟩ ?_
    rintro t g n' ⟨u, a, i, hu, ha, ht0, hO, hi, hk, hnn⟩
    refine w_assoc (s_run (by simp only [runL, List.drop_succ_cons, List.drop_zero, awant_some, Option.getD_some, List.getElem?_toArray, List.getElem?_cons_succ, List.getElem?_cons_zero, Option.bind_some, b_tt, b_tf, b_ft, b_ff, Bool.not_true, Bool.not_false, List.take_succ_cons, List.take_zero, awant_none, astep, evl, put, ap_none, ap_new, ap_wr, List.length_nil, List.length_cons, Nat.add_zero, Nat.zero_add, upd_app, stepBin, abin, stepUn, stepPick, stepExtract, stepCall, if_true, if_false, reduceCtorEq, ↓reduceIte, Nat.reduceEqDiff, Nat.reduceAdd, List.map_cons, List.map_nil, Option.map_some, Option.map_none, Bool.false_eq_true, Int.reduceLE, Int.reduceToNat, ne_eq, not_false_eq_true, and_self, and_true, true_and, decide_true, decide_false, ht0] <;> rfl) ?_)
    by_cases h128 : u < 128
    · refine s_false (by simp [evl, upd_app]; omega) ?_
      refine s_exit ?_
      exact ⟨u, a, i, h128, ha, by simpa [upd_app] using ht0, by simpa [upd_app] using hO, hi, hk, hnn⟩
    · refine s_true (by simp [evl, upd_app]; omega) ?_
      refine s_skip (w_block ?_)
      have hal : a.length + 1 ≤ 10 := by
        have h1 := congrArg List.length ha
        have h2 := vput_len10 v hv
        rw [vput_high h128] at h1
        simp at h1
        omega
      obtain ⟨f, i', hf, hO', hi', hk'⟩ := own_push (P := Try.prog) (n := n') (T := 23) (c := .int .u8 ((u % 128 + 128 : Nat) : Int)) hO (fun k hk => (hi k hk).2) Try.underlying23 tinf5 (by omega) (by omega)
      refine s_run (by simp only [runL, List.drop_succ_cons, List.drop_zero, awant_some, Option.getD_some, List.getElem?_toArray, List.getElem?_cons_succ, List.getElem?_cons_zero, Option.bind_some, b_tt, b_tf, b_ft, b_ff, Bool.not_true, Bool.not_false, List.take_succ_cons, List.take_zero, awant_none, astep, evl, put, ap_none, ap_new, ap_wr, List.length_nil, List.length_cons, Nat.add_zero, Nat.zero_add, upd_app, stepBin, abin, stepUn, stepPick, stepExtract, stepCall, if_true, if_false, reduceCtorEq, ↓reduceIte, Nat.reduceEqDiff, Nat.reduceAdd, List.map_cons, List.map_nil, Option.map_some, Option.map_none, Bool.false_eq_true, Int.reduceLE, Int.reduceToNat, ne_eq, not_false_eq_true, and_self, and_true, true_and, decide_true, decide_false, ht0, lit23, conv22_5, or128, hf] <;> rfl) ?_
      refine region_run (by simp only [runL, List.drop_succ_cons, List.drop_zero, awant_some, Option.getD_some, List.getElem?_toArray, List.getElem?_cons_succ, List.getElem?_cons_zero, Option.bind_some, b_tt, b_tf, b_ft, b_ff, Bool.not_true, Bool.not_false, List.take_succ_cons, List.take_zero, awant_none, astep, evl, put, ap_none, ap_new, ap_wr, List.length_nil, List.length_cons, Nat.add_zero, Nat.zero_add, upd_app, stepBin, abin, stepUn, stepPick, stepExtract, stepCall, if_true, if_false, reduceCtorEq, ↓reduceIte, Nat.reduceEqDiff, Nat.reduceAdd, List.map_cons, List.map_nil, Option.map_some, Option.map_none, Bool.false_eq_true, Int.reduceLE, Int.reduceToNat, ne_eq, not_false_eq_true, and_self, and_true, true_and, decide_true, decide_false, ht0] <;> rfl) ?_
      have hu' : (u : Int).fdiv (2 ^ (min 7 IntKind.u64.bits)) = ((u / 128 : Nat) : Int) := shr_nat .u64 u 7 (by decide)
      refine ⟨⟨u / 128, a ++ [u % 128 + 128], i', by omega, by rw [← ha, vput_high h128]; simp, by simp [upd_app, hu'], by simpa [upd_app] using hO', fun k hk1 => ?_, fun k hk1 => ?_, by omega⟩, ?_⟩
      · have := hi' k hk1
        rcases this.1 with h | h
        · have := hi k h; omega
        · omega
      · rw [hk' k (by omega) (fun e => by have := hi k e.symm; omega)]
        exact hk k hk1
      · simp [upd_app, hu', ht0]
        omega
  · rintro t g n' ⟨u, a, i, hu, ha, ht0, hO, hi, hk, hnn⟩
    have hal : a.length + 1 ≤ 10 := by
      have h1 := congrArg List.length ha
      have h2 := vput_len10 v hv
      rw [vput_low hu] at h1
      simp at h1
      omega
    obtain ⟨f, i', hf, hO', hi', hk'⟩ := own_push (P := Try.prog) (n := n') (T := 23) (c := .int .u8 (IntKind.u8.wrap (u : Int))) hO (fun k hk => (hi k hk).2) Try.underlying23 tinf5 (by omega) (by omega)
    refine s_run (by simp only [runL, List.drop_succ_cons, List.drop_zero, awant_some, Option.getD_some, List.getElem?_toArray, List.getElem?_cons_succ, List.getElem?_cons_zero, Option.bind_some, b_tt, b_tf, b_ft, b_ff, Bool.not_true, Bool.not_false, List.take_succ_cons, List.take_zero, awant_none, astep, evl, put, ap_none, ap_new, ap_wr, List.length_nil, List.length_cons, Nat.add_zero, Nat.zero_add, upd_app, stepBin, abin, stepUn, stepPick, stepExtract, stepCall, if_true, if_false, reduceCtorEq, ↓reduceIte, Nat.reduceEqDiff, Nat.reduceAdd, List.map_cons, List.map_nil, Option.map_some, Option.map_none, Bool.false_eq_true, Int.reduceLE, Int.reduceToNat, ne_eq, not_false_eq_true, and_self, and_true, true_and, decide_true, decide_false, ht0, lit23, conv22_5, hf] <;> rfl) ?_
    refine w_ret ?_
    rcases hO' with ⟨_, _, h0, _⟩ | ⟨k, rfl, hv', hg', hl⟩
    · omega
    · have hbv : bs a ++ [Value.int .u8 (IntKind.u8.wrap (u : Int))] = bs (vput v) := by
        rw [← ha, vput_low hu, wrap_u8, Nat.mod_eq_of_lt (by omega)]
        simp
      have hlen : a.length + 1 = (vput v).length := by rw [← ha, vput_low hu]; simp
      rw [hbv] at hv' hg'
      refine ⟨.inr rfl, by simp, [k], ?_⟩
      have hnk : n ≤ k := by
        rcases (hi' k rfl).1 with h | h
        · exact (hi k h).1
        · omega
      have := fin_slice (s2 := s2) (g2 := g2) (n := n) (j := j) (r := []) (v' := f.v) (m := (vput v).length) (esz := 1) (by rw [hv', hlen]) hnk hg' plain_ints (fun i' b hb => by
        have h1 := hs i' (hwf i' b hb).1
        rw [hk' i' (by omega) (fun e => by have := hi i' e.symm; omega), hk i' h1]
        exact hb)
      simpa [resVal, upd_app] using this
end Go.Proofs.Ytokmmcfnpobldaa
