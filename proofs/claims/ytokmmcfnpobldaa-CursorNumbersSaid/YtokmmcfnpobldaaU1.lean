import Derived.Test.YtokmmcfnpobldaaAbsC
import Derived.Test.YtokmmcfnpobldaaProg
import Derived.KernelRfl
import Derived.Laws.BitsAllLaws
import Derived.Laws.Strings
namespace Go.Proofs.Ytokmmcfnpobldaa
open Go Abs
set_option linter.unusedSimpArgs false

theorem follows : Try.prog.follows .mixedOrders = true := by kernel_rfl
theorem tinf5 : tinf Try.prog 5 = some ([.int .u8 0], 1, 1) := by kernel_rfl
theorem lit23 (x : Int) (j : Nat) : stepBuildSlice Try.prog 23 1 [(0, .int .u8 x)] j = some { v := .slice (some ⟨j, 0, some 1⟩) 1 1, j := j, a := [⟨false, 5, [.int .u8 x]⟩] } := build_one Try.underlying23 tinf5 _ _ _
theorem conv22_5 (x : Int) (g : Heap) : stepConv Try.prog 22 5 (.int .u64 x) g = some { v := .int .u8 (IntKind.u8.wrap x) } := by simp [stepConv, Try.underlying22, Try.underlying5]

/-- A number's bytes. -/
def vput (v : Nat) : List Nat := if v < 128 then [v] else (v % 128 + 128) :: vput (v / 128)
termination_by v
decreasing_by omega

abbrev bs (l : List Nat) : List Value := l.map fun (b : Nat) => Value.int .u8 (b : Int)

theorem vput_low {v : Nat} (h : v < 128) : vput v = [v] := by rw [vput, if_pos h]
theorem vput_high {v : Nat} (h : ¬ v < 128) : vput v = (v % 128 + 128) :: vput (v / 128) := by rw [vput, if_neg h]

theorem wrap_u8 (v : Nat) : IntKind.u8.wrap (v : Int) = ((v % 256 : Nat) : Int) := by simp [IntKind.wrap, IntKind.bits, IntKind.signed]
theorem or128_lt : ∀ b : Nat, b < 256 → bits .or .u8 (b : Int) 128 = ((b % 128 + 128 : Nat) : Int) := by decide +kernel
theorem or128 (v : Nat) : bits .or .u8 (IntKind.u8.wrap (v : Int)) 128 = ((v % 128 + 128 : Nat) : Int) := by
  rw [wrap_u8, or128_lt _ (Nat.mod_lt _ (by omega)), Nat.mod_mod_of_dvd v (show 128 ∣ 256 by omega)]

theorem shr_nat (k : IntKind) (v s : Nat) (hs : s ≤ k.bits) : (v : Int).fdiv (2 ^ (min (s : Int).toNat k.bits)) = ((v / 2 ^ s : Nat) : Int) := by
  have h1 : min (s : Int).toNat k.bits = s := by simp; omega
  rw [h1, Int.fdiv_eq_ediv_of_nonneg _ (by exact Int.pow_nonneg (by omega))]
  simp

theorem vput_len (v : Nat) : (vput v).length ≤ v + 1 := by
  induction v using Nat.strongRecOn with
  | _ v ih =>
    rw [vput]
    split
    · simp
    · have := ih (v / 128) (by omega)
      simp
      omega

theorem vput_len10 (v : Nat) (h : v < 2 ^ 64) : (vput v).length ≤ 10 := by
  have key : ∀ (k v : Nat), v < 128 ^ k → (vput v).length ≤ max k 1 := by
    intro k
    induction k with
    | zero => intro v hv; simp [vput_low (show v < 128 by rw [Nat.pow_zero] at hv; omega)]
    | succ k ih =>
      intro v hv
      by_cases h1 : v < 128
      · rw [vput_low h1]; simp only [List.length_cons, List.length_nil]; omega
      · rw [vput_high h1]
        have hlt : v / 128 < 128 ^ k := by rw [Nat.div_lt_iff_lt_mul (by omega)]; rw [Nat.pow_succ] at hv; exact hv
        have := ih (v / 128) hlt
        cases k with
        | zero => rw [Nat.pow_zero] at hlt; omega
        | succ k => simp; omega
  have := key 10 v (by omega)
  omega

set_option maxRecDepth 10000 in
theorem put_spec (v : Nat) (hv : v < 2 ^ 64) (g : Heap) (j : Nat) : FnSpec Try.prog 16 [.int .u64 v] g { v := .slice (some ⟨j, 0, some (vput v).length⟩) (vput v).length 1, j := j, a := [⟨false, 5, bs (vput v)⟩] } := by
  refine spec_of_body [2] follows Try.func16 rfl (by kernel_rfl) (by simp [Try.f16]) (by kernel_rfl) rfl ?_
  intro g2 s2 n hg hfr hs hn hwf hsv
  refine s_run (by simp only [runL, List.drop_succ_cons, List.drop_zero, awant_some, Option.getD_some, List.getElem?_toArray, List.getElem?_cons_succ, List.getElem?_cons_zero, Option.bind_some, b_tt, b_tf, b_ft, b_ff, Bool.not_true, Bool.not_false, List.take_succ_cons, List.take_zero, awant_none, astep, evl, put, ap_none, ap_new, ap_wr, List.length_nil, List.length_cons, Nat.add_zero, Nat.zero_add, upd_app, stepBin, abin, stepUn, stepPick, stepExtract, stepCall, if_true, if_false, reduceCtorEq, ↓reduceIte, Nat.reduceEqDiff, Nat.reduceAdd, List.map_cons, List.map_nil, Option.map_some, Option.map_none, Bool.false_eq_true, Int.reduceLE, Int.reduceToNat, ne_eq, not_false_eq_true, and_self, and_true, true_and, decide_true, decide_false, Int.reduceEq, Int.reduceLT, Int.reduceBEq, Int.reduceBNe, not_true_eq_false, undef] <;> rfl) ?_
  refine s_run (by simp only [runL, List.drop_succ_cons, List.drop_zero, awant_some, Option.getD_some, List.getElem?_toArray, List.getElem?_cons_succ, List.getElem?_cons_zero, Option.bind_some, b_tt, b_tf, b_ft, b_ff, Bool.not_true, Bool.not_false, List.take_succ_cons, List.take_zero, awant_none, astep, evl, put, ap_none, ap_new, ap_wr, List.length_nil, List.length_cons, Nat.add_zero, Nat.zero_add, upd_app, stepBin, abin, stepUn, stepPick, stepExtract, stepCall, if_true, if_false, reduceCtorEq, ↓reduceIte, Nat.reduceEqDiff, Nat.reduceAdd, List.map_cons, List.map_nil, Option.map_some, Option.map_none, Bool.false_eq_true, Int.reduceLE, Int.reduceToNat, ne_eq, not_false_eq_true, and_self, and_true, true_and, decide_true, decide_false, Int.reduceEq, Int.reduceLT, Int.reduceBEq, Int.reduceBNe, not_true_eq_false, undef] <;> rfl) ?_
  refine s_block (fun t g n' => ∃ (u : Nat) (a : List Nat) (i : Option Nat), u < 128 ∧ a ++ vput u = vput v ∧ t 0 = .int .u64 u ∧ OwnI 5 1 g (t 3) a.length (bs a) i ∧ (∀ k, i = some k → n ≤ k ∧ k < n') ∧ (∀ k, k < n → g k = g2 k) ∧ n ≤ n') ?_ ?_
  · refine w_loop (fun t g n' => ∃ (u : Nat) (a : List Nat) (i : Option Nat), u < 2 ^ 64 ∧ a ++ vput u = vput v ∧ t 0 = .int .u64 u ∧ OwnI 5 1 g (t 3) a.length (bs a) i ∧ (∀ k, i = some k → n ≤ k ∧ k < n') ∧ (∀ k, k < n → g k = g2 k) ∧ n ≤ n')
      (fun t g n' => match t 0 with | .int _ u => u.toNat | _ => 0) ⟨v, [], none, hv, rfl, rfl, OwnI.nil 5 1 g2, by simp, fun k hk => rfl, Nat.le_refl _⟩ ?_
    rintro t g n' ⟨u, a, i, hu, ha, ht0, hO, hi, hk, hnn⟩
    refine w_assoc (s_run (by simp only [runL, List.drop_succ_cons, List.drop_zero, awant_some, Option.getD_some, List.getElem?_toArray, List.getElem?_cons_succ, List.getElem?_cons_zero, Option.bind_some, b_tt, b_tf, b_ft, b_ff, Bool.not_true, Bool.not_false, List.take_succ_cons, List.take_zero, awant_none, astep, evl, put, ap_none, ap_new, ap_wr, List.length_nil, List.length_cons, Nat.add_zero, Nat.zero_add, upd_app, stepBin, abin, stepUn, stepPick, stepExtract, stepCall, if_true, if_false, reduceCtorEq, ↓reduceIte, Nat.reduceEqDiff, Nat.reduceAdd, List.map_cons, List.map_nil, Option.map_some, Option.map_none, Bool.false_eq_true, Int.reduceLE, Int.reduceToNat, ne_eq, not_false_eq_true, and_self, and_true, true_and, decide_true, decide_false, Int.reduceEq, Int.reduceLT, Int.reduceBEq, Int.reduceBNe, not_true_eq_false, undef, ht0] <;> rfl) ?_)
    by_cases h128 : u < 128
    · refine s_false (by simp [evl, upd_app]; omega) ?_
      refine s_exit ?_
      exact ⟨u, a, i, h128, ha, by simpa [upd_app] using ht0, by simpa [upd_app] using hO, hi, hk, hnn⟩
    · refine s_true (by simp [evl, upd_app]; omega) ?_
      refine s_skip (w_block ?_)
      have hal : a.length + 1 ≤ 10 := by
        have h1 := congrArg List.length ha
        have h2 := vput_len10 v hv
        rw [vput_high h128] at h1
        simp at h1
        omega
      obtain ⟨f, i', hf, hO', hi', hk'⟩ := own_push (P := Try.prog) (n := n') (T := 23) (c := .int .u8 ((u % 128 + 128 : Nat) : Int)) hO (fun k hk => (hi k hk).2) Try.underlying23 tinf5 (by omega) (by omega)
      refine s_run (by simp only [runL, List.drop_succ_cons, List.drop_zero, awant_some, Option.getD_some, List.getElem?_toArray, List.getElem?_cons_succ, List.getElem?_cons_zero, Option.bind_some, b_tt, b_tf, b_ft, b_ff, Bool.not_true, Bool.not_false, List.take_succ_cons, List.take_zero, awant_none, astep, evl, put, ap_none, ap_new, ap_wr, List.length_nil, List.length_cons, Nat.add_zero, Nat.zero_add, upd_app, stepBin, abin, stepUn, stepPick, stepExtract, stepCall, if_true, if_false, reduceCtorEq, ↓reduceIte, Nat.reduceEqDiff, Nat.reduceAdd, List.map_cons, List.map_nil, Option.map_some, Option.map_none, Bool.false_eq_true, Int.reduceLE, Int.reduceToNat, ne_eq, not_false_eq_true, and_self, and_true, true_and, decide_true, decide_false, Int.reduceEq, Int.reduceLT, Int.reduceBEq, Int.reduceBNe, not_true_eq_false, undef, ht0, lit23, conv22_5, or128, hf] <;> rfl) ?_
      refine region_run (by simp only [runL, List.drop_succ_cons, List.drop_zero, awant_some, Option.getD_some, List.getElem?_toArray, List.getElem?_cons_succ, List.getElem?_cons_zero, Option.bind_some, b_tt, b_tf, b_ft, b_ff, Bool.not_true, Bool.not_false, List.take_succ_cons, List.take_zero, awant_none, astep, evl, put, ap_none, ap_new, ap_wr, List.length_nil, List.length_cons, Nat.add_zero, Nat.zero_add, upd_app, stepBin, abin, stepUn, stepPick, stepExtract, stepCall, if_true, if_false, reduceCtorEq, ↓reduceIte, Nat.reduceEqDiff, Nat.reduceAdd, List.map_cons, List.map_nil, Option.map_some, Option.map_none, Bool.false_eq_true, Int.reduceLE, Int.reduceToNat, ne_eq, not_false_eq_true, and_self, and_true, true_and, decide_true, decide_false, Int.reduceEq, Int.reduceLT, Int.reduceBEq, Int.reduceBNe, not_true_eq_false, undef, ht0] <;> rfl) ?_
      have hu' : (u : Int).fdiv (2 ^ (min 7 IntKind.u64.bits)) = ((u / 128 : Nat) : Int) := shr_nat .u64 u 7 (by decide)
      refine ⟨⟨u / 128, a ++ [u % 128 + 128], i', by omega, by rw [← ha, vput_high h128]; simp, by simp [upd_app, hu'], by simpa [upd_app] using hO', fun k hk1 => ?_, fun k hk1 => ?_, by omega⟩, ?_⟩
      · have := hi' k hk1
        rcases this.1 with h | h
        · have := hi k h; omega
        · omega
      · rw [hk' k (by omega) (fun e => by have := hi k e.symm; omega)]
        exact hk k hk1
      · simp [upd_app, hu', ht0]
        omega
  · rintro t g n' ⟨u, a, i, hu, ha, ht0, hO, hi, hk, hnn⟩
    have hal : a.length + 1 ≤ 10 := by
      have h1 := congrArg List.length ha
      have h2 := vput_len10 v hv
      rw [vput_low hu] at h1
      simp at h1
      omega
    obtain ⟨f, i', hf, hO', hi', hk'⟩ := own_push (P := Try.prog) (n := n') (T := 23) (c := .int .u8 (IntKind.u8.wrap (u : Int))) hO (fun k hk => (hi k hk).2) Try.underlying23 tinf5 (by omega) (by omega)
    refine s_run (by simp only [runL, List.drop_succ_cons, List.drop_zero, awant_some, Option.getD_some, List.getElem?_toArray, List.getElem?_cons_succ, List.getElem?_cons_zero, Option.bind_some, b_tt, b_tf, b_ft, b_ff, Bool.not_true, Bool.not_false, List.take_succ_cons, List.take_zero, awant_none, astep, evl, put, ap_none, ap_new, ap_wr, List.length_nil, List.length_cons, Nat.add_zero, Nat.zero_add, upd_app, stepBin, abin, stepUn, stepPick, stepExtract, stepCall, if_true, if_false, reduceCtorEq, ↓reduceIte, Nat.reduceEqDiff, Nat.reduceAdd, List.map_cons, List.map_nil, Option.map_some, Option.map_none, Bool.false_eq_true, Int.reduceLE, Int.reduceToNat, ne_eq, not_false_eq_true, and_self, and_true, true_and, decide_true, decide_false, Int.reduceEq, Int.reduceLT, Int.reduceBEq, Int.reduceBNe, not_true_eq_false, undef, ht0, lit23, conv22_5, hf] <;> rfl) ?_
    refine w_ret ?_
    rcases hO' with ⟨_, _, h0, _⟩ | ⟨k, rfl, hv', hg', hl⟩
    · omega
    · have hbv : bs a ++ [Value.int .u8 (IntKind.u8.wrap (u : Int))] = bs (vput v) := by
        rw [← ha, vput_low hu, wrap_u8, Nat.mod_eq_of_lt (by omega)]
        simp
      have hlen : a.length + 1 = (vput v).length := by rw [← ha, vput_low hu]; simp
      rw [hbv] at hv' hg'
      refine ⟨.inr rfl, by simp, [k], ?_⟩
      have hnk : n ≤ k := by
        rcases (hi' k rfl).1 with h | h
        · exact (hi k h).1
        · omega
      have := fin_slice (s2 := s2) (g2 := g2) (n := n) (j := j) (r := []) (v' := f.v) (m := (vput v).length) (esz := 1) (by rw [hv', hlen]) hnk hg' plain_ints (fun i' b hb => by
        have h1 := hs i' (hwf i' b hb).1
        rw [hk' i' (by omega) (fun e => by have := hi i' e.symm; omega), hk i' h1]
        exact hb)
      simpa [resVal, upd_app] using this
end Go.Proofs.Ytokmmcfnpobldaa

namespace Go.Proofs.Ytokmmcfnpobldaa
open Go Abs
set_option linter.unusedSimpArgs false
set_option linter.unusedVariables false

theorem tsize5 : tsize Try.prog 5 = some 1 := by kernel_rfl
theorem aggT5 : aggT Try.prog 5 = some false := by kernel_rfl
theorem conv5_3 (x : Int) (g : Heap) : stepConv Try.prog 5 3 (.int .u8 x) g = some { v := .int .i64 (IntKind.i64.wrap x) } := by simp [stepConv, Try.underlying5, Try.underlying3]
theorem conv5_22 (x : Int) (g : Heap) : stepConv Try.prog 5 22 (.int .u8 x) g = some { v := .int .u64 (IntKind.u64.wrap x) } := by simp [stepConv, Try.underlying5, Try.underlying22]

theorem wrap64_of {x : Int} (h1 : -9223372036854775808 ≤ x) (h2 : x ≤ 9223372036854775807) : IntKind.i64.wrap x = x := by rw [IntKind.wrap_i64]; omega
theorem wrapU64_of {x : Int} (h1 : 0 ≤ x) (h2 : x < 18446744073709551616) : IntKind.u64.wrap x = x := by rw [IntKind.wrap_u64]; omega

/-- 'c < 128'. -/
theorem low_spec (c : Int) (g : Heap) : FnSpec Try.prog 42 [.int .u8 c] g { v := .bool (decide (c < 128)) } := by
  refine spec_of_body [2] follows Try.func42 rfl (by kernel_rfl) (by simp [Try.f42]) (by kernel_rfl) rfl ?_
  intro g2 s2 n hg hfr hs hn hwf hsv
  refine s_run (by simp only [runL, List.drop_succ_cons, List.drop_zero, awant_some, Option.getD_some, List.getElem?_toArray, List.getElem?_cons_succ, List.getElem?_cons_zero, Option.bind_some, b_tt, b_tf, b_ft, b_ff, Bool.not_true, Bool.not_false, List.take_succ_cons, List.take_zero, awant_none, astep, evl, put, ap_none, ap_new, ap_wr, List.length_nil, List.length_cons, Nat.add_zero, Nat.zero_add, upd_app, stepBin, abin, stepUn, stepPick, stepExtract, stepCall, if_true, if_false, reduceCtorEq, ↓reduceIte, Nat.reduceEqDiff, Nat.reduceAdd, List.map_cons, List.map_nil, Option.map_some, Option.map_none, Bool.false_eq_true, Int.reduceLE, Int.reduceToNat, ne_eq, not_false_eq_true, and_self, and_true, true_and, decide_true, decide_false, Int.reduceEq, Int.reduceLT, Int.reduceBEq, Int.reduceBNe, not_true_eq_false, undef] <;> rfl) ?_
  refine s_run (by simp only [runL, List.drop_succ_cons, List.drop_zero, awant_some, Option.getD_some, List.getElem?_toArray, List.getElem?_cons_succ, List.getElem?_cons_zero, Option.bind_some, b_tt, b_tf, b_ft, b_ff, Bool.not_true, Bool.not_false, List.take_succ_cons, List.take_zero, awant_none, astep, evl, put, ap_none, ap_new, ap_wr, List.length_nil, List.length_cons, Nat.add_zero, Nat.zero_add, upd_app, stepBin, abin, stepUn, stepPick, stepExtract, stepCall, if_true, if_false, reduceCtorEq, ↓reduceIte, Nat.reduceEqDiff, Nat.reduceAdd, List.map_cons, List.map_nil, Option.map_some, Option.map_none, Bool.false_eq_true, Int.reduceLE, Int.reduceToNat, ne_eq, not_false_eq_true, and_self, and_true, true_and, decide_true, decide_false, Int.reduceEq, Int.reduceLT, Int.reduceBEq, Int.reduceBNe, not_true_eq_false, undef, List.getElem?_cons_zero, Option.getD_some] <;> rfl) ?_
  refine w_ret ⟨.inr rfl, by simp, [], fin_none ?_ trivial (fun _ _ h => h)⟩
  simp [resVal, upd_app]

/-- Where the first byte below 128 stands, from k on. -/
def findLow : List Nat → Nat → Int
  | [], _ => -1
  | c :: l, k => if c < 128 then (k : Int) else findLow l (k + 1)

theorem findLow_drop (l : List Nat) (i : Nat) : i < l.length → findLow (l.drop i) i = if l[i]?.getD 0 < 128 then (i : Int) else findLow (l.drop (i + 1)) (i + 1) := by
  intro h
  rw [List.drop_eq_getElem_cons h, findLow, List.getElem?_eq_getElem h]
  rfl

theorem bs_at {l : List Nat} {i : Nat} (h : i < l.length) : (bs l)[i]? = some (.int .u8 ((l[i]?.getD 0 : Nat) : Int)) := by
  simp [h]

set_option maxRecDepth 10000 in
theorem find_spec (v : Value) (l : List Nat) (g : Heap) (hl : l.length ≤ 2 ^ 40) (hv : Src g v 1 l.length (bs l)) : FnSpec Try.prog 41 [v, .func (.func 42) #[] #[]] g { v := .int .i64 (findLow l 0), r := srcBlk v } := by
  refine spec_of_body [4] follows Try.func41 rfl (by kernel_rfl) (by simp [Try.f41]) (by kernel_rfl) rfl ?_
  intro g2 s2 n hg hfr hs hn hwf hsv
  have hv2 : Src g2 v 1 l.length (bs l) := hv.congr fun i hi => hg i (by simp [Eff.fp, hi])
  have hlen := hv2.len Try.underlying23
  refine s_run (by simp only [runL, List.drop_succ_cons, List.drop_zero, awant_some, Option.getD_some, List.getElem?_toArray, List.getElem?_cons_succ, List.getElem?_cons_zero, Option.bind_some, b_tt, b_tf, b_ft, b_ff, Bool.not_true, Bool.not_false, List.take_succ_cons, List.take_zero, awant_none, astep, evl, put, ap_none, ap_new, ap_wr, List.length_nil, List.length_cons, Nat.add_zero, Nat.zero_add, upd_app, stepBin, abin, stepUn, stepPick, stepExtract, stepCall, if_true, if_false, reduceCtorEq, ↓reduceIte, Nat.reduceEqDiff, Nat.reduceAdd, List.map_cons, List.map_nil, Option.map_some, Option.map_none, Bool.false_eq_true, Int.reduceLE, Int.reduceToNat, ne_eq, not_false_eq_true, and_self, and_true, true_and, decide_true, decide_false, Int.reduceEq, Int.reduceLT, Int.reduceBEq, Int.reduceBNe, not_true_eq_false, undef] <;> rfl) ?_
  refine w_assoc (s_run (by simp only [runL, List.drop_succ_cons, List.drop_zero, awant_some, Option.getD_some, List.getElem?_toArray, List.getElem?_cons_succ, List.getElem?_cons_zero, Option.bind_some, b_tt, b_tf, b_ft, b_ff, Bool.not_true, Bool.not_false, List.take_succ_cons, List.take_zero, awant_none, astep, evl, put, ap_none, ap_new, ap_wr, List.length_nil, List.length_cons, Nat.add_zero, Nat.zero_add, upd_app, stepBin, abin, stepUn, stepPick, stepExtract, stepCall, if_true, if_false, reduceCtorEq, ↓reduceIte, Nat.reduceEqDiff, Nat.reduceAdd, List.map_cons, List.map_nil, Option.map_some, Option.map_none, Bool.false_eq_true, Int.reduceLE, Int.reduceToNat, ne_eq, not_false_eq_true, and_self, and_true, true_and, decide_true, decide_false, Int.reduceEq, Int.reduceLT, Int.reduceBEq, Int.reduceBNe, not_true_eq_false, undef, List.getElem?_cons_zero, Option.getD_some, hlen] <;> rfl) ?_)
  refine s_range l.length (fun i t g n' => findLow l 0 = findLow (l.drop i) i ∧ t 0 = v ∧ t 1 = .func (.func 42) #[] #[] ∧ g = g2) (by omega) rfl rfl ⟨rfl, rfl, rfl, rfl⟩ (by decide) ?_ ?_ ?_
  · rintro k t g n' x y hx ⟨h1, h2, h3, h4⟩
    refine ⟨h1, ?_, ?_, h4⟩ <;> rw [upd_ne _ _ (by rcases hx with rfl | rfl | rfl <;> decide)] <;> assumption
  · rintro k t g n' hk h8 h7 ⟨hf, h0, h1, rfl⟩
    obtain ⟨p, hp1, hp2, _⟩ := hv2.at1 (P := Try.prog) (bs_at hk) Try.underlying23 tsize5 aggT5
    refine s_run (by simp only [runL, List.drop_succ_cons, List.drop_zero, awant_some, Option.getD_some, List.getElem?_toArray, List.getElem?_cons_succ, List.getElem?_cons_zero, Option.bind_some, b_tt, b_tf, b_ft, b_ff, Bool.not_true, Bool.not_false, List.take_succ_cons, List.take_zero, awant_none, astep, evl, put, ap_none, ap_new, ap_wr, List.length_nil, List.length_cons, Nat.add_zero, Nat.zero_add, upd_app, stepBin, abin, stepUn, stepPick, stepExtract, stepCall, if_true, if_false, reduceCtorEq, ↓reduceIte, Nat.reduceEqDiff, Nat.reduceAdd, List.map_cons, List.map_nil, Option.map_some, Option.map_none, Bool.false_eq_true, Int.reduceLE, Int.reduceToNat, ne_eq, not_false_eq_true, and_self, and_true, true_and, decide_true, decide_false, Int.reduceEq, Int.reduceLT, Int.reduceBEq, Int.reduceBNe, not_true_eq_false, undef, h8] <;> rfl) ?_
    refine s_take 5 (by simp only [runL, List.drop_succ_cons, List.drop_zero, awant_some, Option.getD_some, List.getElem?_toArray, List.getElem?_cons_succ, List.getElem?_cons_zero, Option.bind_some, b_tt, b_tf, b_ft, b_ff, Bool.not_true, Bool.not_false, List.take_succ_cons, List.take_zero, awant_none, astep, evl, put, ap_none, ap_new, ap_wr, List.length_nil, List.length_cons, Nat.add_zero, Nat.zero_add, upd_app, stepBin, abin, stepUn, stepPick, stepExtract, stepCall, if_true, if_false, reduceCtorEq, ↓reduceIte, Nat.reduceEqDiff, Nat.reduceAdd, List.map_cons, List.map_nil, Option.map_some, Option.map_none, Bool.false_eq_true, Int.reduceLE, Int.reduceToNat, ne_eq, not_false_eq_true, and_self, and_true, true_and, decide_true, decide_false, Int.reduceEq, Int.reduceLT, Int.reduceBEq, Int.reduceBNe, not_true_eq_false, undef, h0, h1, hp1, hp2] <;> rfl) ?_
    refine ops_call 42 _ rfl (low_spec _ _) (by simp) ?_
    refine w_cond (b := decide (((l[k]?.getD 0 : Nat) : Int) < 128)) (by simp [evl, upd_app, put]) ?_ ?_
    · intro hq
      simp only [decide_eq_true_eq] at hq
      refine s_run (by simp only [runL, List.drop_succ_cons, List.drop_zero, awant_some, Option.getD_some, List.getElem?_toArray, List.getElem?_cons_succ, List.getElem?_cons_zero, Option.bind_some, b_tt, b_tf, b_ft, b_ff, Bool.not_true, Bool.not_false, List.take_succ_cons, List.take_zero, awant_none, astep, evl, put, ap_none, ap_new, ap_wr, List.length_nil, List.length_cons, Nat.add_zero, Nat.zero_add, upd_app, stepBin, abin, stepUn, stepPick, stepExtract, stepCall, if_true, if_false, reduceCtorEq, ↓reduceIte, Nat.reduceEqDiff, Nat.reduceAdd, List.map_cons, List.map_nil, Option.map_some, Option.map_none, Bool.false_eq_true, Int.reduceLE, Int.reduceToNat, ne_eq, not_false_eq_true, and_self, and_true, true_and, decide_true, decide_false, Int.reduceEq, Int.reduceLT, Int.reduceBEq, Int.reduceBNe, not_true_eq_false, undef] <;> rfl) ?_
      refine w_ret ⟨.inr rfl, by simp, [], fin_none ?_ trivial (fun _ _ h => h)⟩
      rw [hf, findLow_drop l k hk, if_pos (by omega)]
      simp [resVal, upd_app, put]
    · intro hq
      simp only [decide_eq_false_iff_not] at hq
      refine w_skip ⟨by simpa [upd_app, put] using h8, by simpa [upd_app, put] using h7, ?_, by simpa [upd_app, put] using h0, by simpa [upd_app, put] using h1, rfl⟩
      rw [hf, findLow_drop l k hk, if_neg (by omega)]
  · rintro t g n' ⟨hf, h0, h1, rfl⟩
    refine s_run (by simp only [runL, List.drop_succ_cons, List.drop_zero, awant_some, Option.getD_some, List.getElem?_toArray, List.getElem?_cons_succ, List.getElem?_cons_zero, Option.bind_some, b_tt, b_tf, b_ft, b_ff, Bool.not_true, Bool.not_false, List.take_succ_cons, List.take_zero, awant_none, astep, evl, put, ap_none, ap_new, ap_wr, List.length_nil, List.length_cons, Nat.add_zero, Nat.zero_add, upd_app, stepBin, abin, stepUn, stepPick, stepExtract, stepCall, if_true, if_false, reduceCtorEq, ↓reduceIte, Nat.reduceEqDiff, Nat.reduceAdd, List.map_cons, List.map_nil, Option.map_some, Option.map_none, Bool.false_eq_true, Int.reduceLE, Int.reduceToNat, ne_eq, not_false_eq_true, and_self, and_true, true_and, decide_true, decide_false, Int.reduceEq, Int.reduceLT, Int.reduceBEq, Int.reduceBNe, not_true_eq_false, undef] <;> rfl) ?_
    refine w_ret ⟨.inr rfl, by simp, [], fin_none ?_ trivial (fun _ _ h => h)⟩
    simp [resVal, upd_app, hf, findLow]

/-- How many binary digits. -/
def len8 (n : Nat) : Nat := if n = 0 then 0 else n.log2 + 1

theorem len8_idx (tab : ByteArray) (h : ((List.range 256).all fun c => (tab[c]?).map (·.toNat) == some (len8 c)) = true) (c : Nat) (hc : c < 256) : stepIdx Try.prog 9 (.string tab) (.int .u8 (c : Int)) = some { v := .int .u8 (len8 c) } := by
  have h1 := List.all_eq_true.1 h c (by simpa using hc)
  simp only [beq_iff_eq] at h1
  cases ht : tab[c]? with
  | none => rw [ht] at h1; simp at h1
  | some b =>
    rw [ht] at h1
    simp at h1
    simp [stepIdx, Try.underlying9, ht, h1]

theorem len8_le : ∀ c : Nat, c < 256 → len8 c ≤ 8 := by decide +kernel

set_option maxRecDepth 10000 in
theorem len8_spec (c : Nat) (hc : c < 256) (g : Heap) : FnSpec Try.prog 43 [.int .u8 c] g { v := .int .i64 (len8 c) } := by
  refine spec_of_body [2] follows Try.func43 rfl (by kernel_rfl) (by simp [Try.f43]) (by kernel_rfl) rfl ?_
  intro g2 s2 n hg hfr hs hn hwf hsv
  refine s_run (by simp only [runL, List.drop_succ_cons, List.drop_zero, awant_some, Option.getD_some, List.getElem?_toArray, List.getElem?_cons_succ, List.getElem?_cons_zero, Option.bind_some, b_tt, b_tf, b_ft, b_ff, Bool.not_true, Bool.not_false, List.take_succ_cons, List.take_zero, awant_none, astep, evl, put, ap_none, ap_new, ap_wr, List.length_nil, List.length_cons, Nat.add_zero, Nat.zero_add, upd_app, stepBin, abin, stepUn, stepPick, stepExtract, stepCall, if_true, if_false, reduceCtorEq, ↓reduceIte, Nat.reduceEqDiff, Nat.reduceAdd, List.map_cons, List.map_nil, Option.map_some, Option.map_none, Bool.false_eq_true, Int.reduceLE, Int.reduceToNat, ne_eq, not_false_eq_true, and_self, and_true, true_and, decide_true, decide_false, Int.reduceEq, Int.reduceLT, Int.reduceBEq, Int.reduceBNe, not_true_eq_false, undef] <;> rfl) ?_
  refine s_take 1 (by simp only [runL, List.drop_succ_cons, List.drop_zero, awant_some, Option.getD_some, List.getElem?_toArray, List.getElem?_cons_succ, List.getElem?_cons_zero, Option.bind_some, b_tt, b_tf, b_ft, b_ff, Bool.not_true, Bool.not_false, List.take_succ_cons, List.take_zero, awant_none, astep, evl, put, ap_none, ap_new, ap_wr, List.length_nil, List.length_cons, Nat.add_zero, Nat.zero_add, upd_app, stepBin, abin, stepUn, stepPick, stepExtract, stepCall, if_true, if_false, reduceCtorEq, ↓reduceIte, Nat.reduceEqDiff, Nat.reduceAdd, List.map_cons, List.map_nil, Option.map_some, Option.map_none, Bool.false_eq_true, Int.reduceLE, Int.reduceToNat, ne_eq, not_false_eq_true, and_self, and_true, true_and, decide_true, decide_false, Int.reduceEq, Int.reduceLT, Int.reduceBEq, Int.reduceBNe, not_true_eq_false, undef] <;> rfl) ?_
  refine ops_step _ (len8_idx _ ?_ c hc) rfl ?_
  · decide +kernel
  have hle := len8_le c hc
  have hw : IntKind.i64.wrap (len8 c : Int) = (len8 c : Int) := wrap64_of (by omega) (by omega)
  refine ops_run (by simp only [runL, List.drop_succ_cons, List.drop_zero, awant_some, Option.getD_some, List.getElem?_toArray, List.getElem?_cons_succ, List.getElem?_cons_zero, Option.bind_some, b_tt, b_tf, b_ft, b_ff, Bool.not_true, Bool.not_false, List.take_succ_cons, List.take_zero, awant_none, astep, evl, put, ap_none, ap_new, ap_wr, List.length_nil, List.length_cons, Nat.add_zero, Nat.zero_add, upd_app, stepBin, abin, stepUn, stepPick, stepExtract, stepCall, if_true, if_false, reduceCtorEq, ↓reduceIte, Nat.reduceEqDiff, Nat.reduceAdd, List.map_cons, List.map_nil, Option.map_some, Option.map_none, Bool.false_eq_true, Int.reduceLE, Int.reduceToNat, ne_eq, not_false_eq_true, and_self, and_true, true_and, decide_true, decide_false, Int.reduceEq, Int.reduceLT, Int.reduceBEq, Int.reduceBNe, not_true_eq_false, undef, conv5_3, hw] <;> rfl) ?_
  refine w_ret ⟨.inr rfl, by simp, [], fin_none ?_ trivial (fun _ _ h => h)⟩
  simp [resVal, upd_app]
end Go.Proofs.Ytokmmcfnpobldaa

namespace Go.Proofs.Ytokmmcfnpobldaa
open Go Abs
set_option linter.unusedSimpArgs false
set_option linter.unusedVariables false

def vval : List Nat → Nat
  | [] => 0
  | c :: l => c % 128 + 128 * vval l

theorem vval_snoc (p : List Nat) (c : Nat) : vval (p ++ [c]) = vval p + c % 128 * 128 ^ p.length := by
  induction p with
  | nil => simp [vval]
  | cons d p ih =>
    simp only [List.cons_append, vval, ih, List.length_cons, Nat.pow_succ, Nat.mul_add]
    rw [Nat.mul_comm (128 ^ p.length) 128, ← Nat.mul_assoc 128, ← Nat.mul_assoc, Nat.mul_comm (c % 128) 128]
    omega

theorem vval_lt (p : List Nat) : vval p < 128 ^ p.length := by
  induction p with
  | nil => simp [vval]
  | cons d p ih =>
    simp only [vval, List.length_cons, Nat.pow_succ]
    have := Nat.mod_lt d (show 128 > 0 by omega)
    omega

theorem vval_take (l : List Nat) (k : Nat) (hk : k < l.length) : vval (l.take (k + 1)) = vval (l.take k) + l[k]?.getD 0 % 128 * 128 ^ k := by
  rw [List.take_succ_eq_append_getElem hk, vval_snoc, List.length_take, Nat.min_eq_left (by omega), List.getElem?_eq_getElem hk]
  rfl

theorem vval_take_le (l : List Nat) (k m : Nat) (hkm : k ≤ m) : vval (l.take k) ≤ vval (l.take m) := by
  induction m with
  | zero => have : k = 0 := by omega
            subst this; exact Nat.le_refl _
  | succ m ih =>
    by_cases h : k = m + 1
    · subst h; exact Nat.le_refl _
    · have h1 := ih (by omega)
      by_cases h2 : m < l.length
      · have := vval_take l m h2; omega
      · rw [List.take_of_length_le (show l.length ≤ m + 1 by omega)]
        rw [List.take_of_length_le (show l.length ≤ m by omega)] at h1
        exact h1

theorem len8_pow : ∀ c : Nat, c < 256 → c + 1 ≤ 2 ^ len8 c := by decide +kernel

theorem vval_full (l : List Nat) (e : Nat) (he : e < l.length) (hc : l[e]?.getD 0 < 256) (h : 7 * e + len8 (l[e]?.getD 0) ≤ 64) : vval (l.take (e + 1)) < 2 ^ 64 := by
  rw [vval_take l e he]
  have h1 : vval (l.take e) < 128 ^ e := by
    have := vval_lt (l.take e)
    rwa [List.length_take, Nat.min_eq_left (by omega)] at this
  have h2 := len8_pow _ hc
  have h3 : l[e]?.getD 0 % 128 ≤ l[e]?.getD 0 := Nat.mod_le _ _
  have h4 : (l[e]?.getD 0 % 128 + 1) * 128 ^ e ≤ 2 ^ len8 (l[e]?.getD 0) * 128 ^ e := Nat.mul_le_mul_right _ (by omega)
  have h5 : 2 ^ len8 (l[e]?.getD 0) * 128 ^ e ≤ 2 ^ 64 := by
    rw [show (128 : Nat) = 2 ^ 7 from rfl, ← Nat.pow_mul, ← Nat.pow_add]
    exact Nat.pow_le_pow_right (by omega) (by omega)
  rw [Nat.add_mul, Nat.one_mul] at h4
  omega

/-- One byte more. -/
theorem vval_step (l : List Nat) (k : Nat) (hk : k < l.length) (hc : l[k]?.getD 0 < 256) (hk9 : k ≤ 9) (h : vval (l.take (k + 1)) < 2 ^ 64) :
    bits .or .u64 (vval (l.take k) : Int) (IntKind.u64.wrap (IntKind.u64.wrap (bits .andNot .u8 ((l[k]?.getD 0 : Nat) : Int) 128) * 2 ^ (min ((7 * k : Nat) : Int).toNat IntKind.u64.bits))) = (vval (l.take (k + 1)) : Int) := by
  have h1 := vval_take l k hk
  have h2 : vval (l.take k) < 128 ^ k := by
    have := vval_lt (l.take k)
    rwa [List.length_take, Nat.min_eq_left (by omega)] at this
  have h3 : bits .andNot .u8 ((l[k]?.getD 0 : Nat) : Int) 128 = ((l[k]?.getD 0 % 128 : Nat) : Int) := by
    have := u8_andNot_nat (l[k]?.getD 0) 128 hc (by omega)
    rw [show (255 - 128 : Nat) = 127 from rfl, nat_mask7] at this
    exact this
  have h4 : ((l[k]?.getD 0 % 128 : Nat) : Int) * 2 ^ (min ((7 * k : Nat) : Int).toNat IntKind.u64.bits) = ((l[k]?.getD 0 % 128 * 128 ^ k : Nat) : Int) := by
    have : min ((7 * k : Nat) : Int).toNat IntKind.u64.bits = 7 * k := by rw [Int.toNat_natCast]; exact Nat.min_eq_left (by show 7 * k ≤ 64; omega)
    rw [this, show (128 : Nat) = 2 ^ 7 from rfl, ← Nat.pow_mul]
    simp
  rw [h3, wrapU64_of (x := ((l[k]?.getD 0 % 128 : Nat) : Int)) (by omega) (by have := Nat.mod_lt (l[k]?.getD 0) (show 128 > 0 by omega); omega), h4, wrapU64_of (by omega) (by omega), u64_or_nat _ _ (by omega) (by omega), h1, Nat.or_comm, nat_join (7 * k)]
  · rw [Nat.add_comm]
  · rw [Nat.pow_mul]; exact Nat.mul_mod_left _ _
  · rw [Nat.pow_mul]; exact h2

/-- The number that bytes begin with, and how many they are. -/
def vget (l : List Nat) : Option (Nat × Nat) :=
  if 0 ≤ findLow l 0 ∧ findLow l 0 ≤ 9 ∧ ((findLow l 0).toNat = 0 ∨ l[(findLow l 0).toNat]?.getD 0 ≠ 0) ∧ 7 * (findLow l 0).toNat + len8 (l[(findLow l 0).toNat]?.getD 0) ≤ 64
  then some (vval (l.take ((findLow l 0).toNat + 1)), (findLow l 0).toNat + 1) else none

def gres : Option (Nat × Nat) → Value
  | some (v, n) => .tuple #[.int .u64 v, .int .i64 n, .bool true]
  | none => .tuple #[.int .u64 0, .int .i64 0, .bool false]

theorem findLow_lt (l : List Nat) (k : Nat) : findLow l k = -1 ∨ ∃ e : Nat, e < l.length ∧ findLow l k = ((k + e : Nat) : Int) ∧ l[e]?.getD 0 < 128 ∧ ∀ i, i < e → ¬ l[i]?.getD 0 < 128 := by
  induction l generalizing k with
  | nil => exact .inl rfl
  | cons c l ih =>
    by_cases h : c < 128
    · exact .inr ⟨0, by simp, by simp [findLow, h], by simpa using h, by omega⟩
    · rcases ih (k + 1) with h1 | ⟨e, h1, h2, h3, h4⟩
      · exact .inl (by simp [findLow, h, h1])
      · refine .inr ⟨e + 1, by simpa using h1, by simp [findLow, h, h2]; omega, by simpa using h3, fun i hi => ?_⟩
        cases i with
        | zero => simpa using h
        | succ i => simpa using h4 i (by omega)
end Go.Proofs.Ytokmmcfnpobldaa

namespace Go.Proofs.Ytokmmcfnpobldaa
open Go Abs
set_option linter.unusedSimpArgs false
set_option linter.unusedVariables false

set_option maxRecDepth 10000 in
theorem get_spec (v : Value) (l : List Nat) (g : Heap) (hl : l.length ≤ 2 ^ 40) (hb : ∀ i : Nat, l[i]?.getD 0 < 256) (hv : Src g v 1 l.length (bs l)) : FnSpec Try.prog 17 [v] g { v := gres (vget l), r := srcBlk v } := by
  refine spec_of_body [2, 3, 4] follows Try.func17 rfl (by kernel_rfl) (by simp [Try.f17]) (by kernel_rfl) rfl ?_
  intro g2 s2 n hg hfr hs hn hwf hsv
  have hv2 : Src g2 v 1 l.length (bs l) := hv.congr fun i hi => hg i (by simp [Eff.fp, hi])
  have hlen := hv2.len Try.underlying23
  have tupRes : ∀ {t : Nat → Value}, (∃ x, t 2 = .int .u64 x) → (∃ x, t 3 = .int .i64 x) → (∃ x, t 4 = .bool x) → ([2, 3, 4].length ≠ 1 → ∀ r ∈ [2, 3, 4], isTup (t r) = false) := by
    rintro t ⟨x, hx⟩ ⟨y, hy⟩ ⟨z, hz⟩ _ r hr
    simp only [List.mem_cons, List.not_mem_nil, or_false] at hr
    rcases hr with rfl | rfl | rfl <;> simp [hx, hy, hz, isTup]
  have svg : ∀ r, SVT s2 (gres r) := by
    rintro (_ | ⟨x, y⟩) c hc <;> simp [gres] at hc <;> rcases hc with rfl | rfl | rfl <;> trivial
  refine s_run (by simp only [runL, List.drop_succ_cons, List.drop_zero, awant_some, Option.getD_some, List.getElem?_toArray, List.getElem?_cons_succ, List.getElem?_cons_zero, Option.bind_some, b_tt, b_tf, b_ft, b_ff, Bool.not_true, Bool.not_false, List.take_succ_cons, List.take_zero, awant_none, astep, evl, put, ap_none, ap_new, ap_wr, List.length_nil, List.length_cons, Nat.add_zero, Nat.zero_add, upd_app, stepBin, abin, stepUn, stepPick, stepExtract, stepCall, if_true, if_false, reduceCtorEq, ↓reduceIte, Nat.reduceEqDiff, Nat.reduceAdd, List.map_cons, List.map_nil, Option.map_some, Option.map_none, Bool.false_eq_true, Int.reduceLE, Int.reduceToNat, ne_eq, not_false_eq_true, and_self, and_true, true_and, decide_true, decide_false, Int.reduceEq, Int.reduceLT, Int.reduceBEq, Int.reduceBNe, not_true_eq_false, undef] <;> rfl) ?_
  refine s_take 1 (by simp only [runL, List.drop_succ_cons, List.drop_zero, awant_some, Option.getD_some, List.getElem?_toArray, List.getElem?_cons_succ, List.getElem?_cons_zero, Option.bind_some, b_tt, b_tf, b_ft, b_ff, Bool.not_true, Bool.not_false, List.take_succ_cons, List.take_zero, awant_none, astep, evl, put, ap_none, ap_new, ap_wr, List.length_nil, List.length_cons, Nat.add_zero, Nat.zero_add, upd_app, stepBin, abin, stepUn, stepPick, stepExtract, stepCall, if_true, if_false, reduceCtorEq, ↓reduceIte, Nat.reduceEqDiff, Nat.reduceAdd, List.map_cons, List.map_nil, Option.map_some, Option.map_none, Bool.false_eq_true, Int.reduceLE, Int.reduceToNat, ne_eq, not_false_eq_true, and_self, and_true, true_and, decide_true, decide_false, Int.reduceEq, Int.reduceLT, Int.reduceBEq, Int.reduceBNe, not_true_eq_false, undef, List.getElem?_cons_zero, Option.getD_some] <;> rfl) ?_
  refine ops_call 41 _ rfl (find_spec v l g2 hl hv2) (by simp) ?_
  refine ops_run (by simp only [runL, List.drop_succ_cons, List.drop_zero, awant_some, Option.getD_some, List.getElem?_toArray, List.getElem?_cons_succ, List.getElem?_cons_zero, Option.bind_some, b_tt, b_tf, b_ft, b_ff, Bool.not_true, Bool.not_false, List.take_succ_cons, List.take_zero, awant_none, astep, evl, put, ap_none, ap_new, ap_wr, List.length_nil, List.length_cons, Nat.add_zero, Nat.zero_add, upd_app, stepBin, abin, stepUn, stepPick, stepExtract, stepCall, if_true, if_false, reduceCtorEq, ↓reduceIte, Nat.reduceEqDiff, Nat.reduceAdd, List.map_cons, List.map_nil, Option.map_some, Option.map_none, Bool.false_eq_true, Int.reduceLE, Int.reduceToNat, ne_eq, not_false_eq_true, and_self, and_true, true_and, decide_true, decide_false, Int.reduceEq, Int.reduceLT, Int.reduceBEq, Int.reduceBNe, not_true_eq_false, undef] <;> rfl) ?_
  rcases findLow_lt l 0 with hf | ⟨e, he, hf, hlow, hhigh⟩
  · have hv0 : vget l = none := by rw [vget, if_neg]; rw [hf]; omega
    have h1 : decide (findLow l 0 < 0) = true := by rw [hf]; rfl
    refine w_assoc (s_run (by simp only [runL, List.drop_succ_cons, List.drop_zero, awant_some, Option.getD_some, List.getElem?_toArray, List.getElem?_cons_succ, List.getElem?_cons_zero, Option.bind_some, b_tt, b_tf, b_ft, b_ff, Bool.not_true, Bool.not_false, List.take_succ_cons, List.take_zero, awant_none, astep, evl, put, ap_none, ap_new, ap_wr, List.length_nil, List.length_cons, Nat.add_zero, Nat.zero_add, upd_app, stepBin, abin, stepUn, stepPick, stepExtract, stepCall, if_true, if_false, reduceCtorEq, ↓reduceIte, Nat.reduceEqDiff, Nat.reduceAdd, List.map_cons, List.map_nil, Option.map_some, Option.map_none, Bool.false_eq_true, Int.reduceLE, Int.reduceToNat, ne_eq, not_false_eq_true, and_self, and_true, true_and, decide_true, decide_false, Int.reduceEq, Int.reduceLT, Int.reduceBEq, Int.reduceBNe, not_true_eq_false, undef, h1] <;> rfl) ?_)
    refine s_true (by simp [evl, upd_app]) ?_
    refine w_assoc (s_run (by simp only [runL, List.drop_succ_cons, List.drop_zero, awant_some, Option.getD_some, List.getElem?_toArray, List.getElem?_cons_succ, List.getElem?_cons_zero, Option.bind_some, b_tt, b_tf, b_ft, b_ff, Bool.not_true, Bool.not_false, List.take_succ_cons, List.take_zero, awant_none, astep, evl, put, ap_none, ap_new, ap_wr, List.length_nil, List.length_cons, Nat.add_zero, Nat.zero_add, upd_app, stepBin, abin, stepUn, stepPick, stepExtract, stepCall, if_true, if_false, reduceCtorEq, ↓reduceIte, Nat.reduceEqDiff, Nat.reduceAdd, List.map_cons, List.map_nil, Option.map_some, Option.map_none, Bool.false_eq_true, Int.reduceLE, Int.reduceToNat, ne_eq, not_false_eq_true, and_self, and_true, true_and, decide_true, decide_false, Int.reduceEq, Int.reduceLT, Int.reduceBEq, Int.reduceBNe, not_true_eq_false, undef] <;> rfl) ?_)
    refine s_ret ⟨.inr rfl, tupRes ⟨_, rfl⟩ ⟨_, rfl⟩ ⟨_, rfl⟩, [], fin_none ?_ (svg _) (fun _ _ h => h)⟩
    simp [resVal, upd_app, hv0, gres]
  · have hf' : findLow l 0 = (e : Int) := by rw [hf, Nat.zero_add]
    have h1 : decide (findLow l 0 < 0) = false := by rw [hf']; simp
    by_cases h9 : e ≤ 9
    · have h2 : decide (findLow l 0 > 9) = false := by rw [hf']; simp; omega
      refine s_cut (fun t g n' => t 0 = v ∧ t 2 = .int .u64 0 ∧ t 5 = .int .i64 e ∧ g2 = g) (w_seq (region_run (by simp only [runL, List.drop_succ_cons, List.drop_zero, awant_some, Option.getD_some, List.getElem?_toArray, List.getElem?_cons_succ, List.getElem?_cons_zero, Option.bind_some, b_tt, b_tf, b_ft, b_ff, Bool.not_true, Bool.not_false, List.take_succ_cons, List.take_zero, awant_none, astep, evl, put, ap_none, ap_new, ap_wr, List.length_nil, List.length_cons, Nat.add_zero, Nat.zero_add, upd_app, stepBin, abin, stepUn, stepPick, stepExtract, stepCall, if_true, if_false, reduceCtorEq, ↓reduceIte, Nat.reduceEqDiff, Nat.reduceAdd, List.map_cons, List.map_nil, Option.map_some, Option.map_none, Bool.false_eq_true, Int.reduceLE, Int.reduceToNat, ne_eq, not_false_eq_true, and_self, and_true, true_and, decide_true, decide_false, Int.reduceEq, Int.reduceLT, Int.reduceBEq, Int.reduceBNe, not_true_eq_false, undef, h1, h2] <;> rfl) (w_false (by simp [evl, upd_app]) (w_skip ⟨rfl, by simp [upd_app, hf']⟩)))) ?_
      rintro t g n' ⟨t0, t2, t5, rfl⟩
      have hce := hb e
      obtain ⟨p, hp1, hp2, hp3⟩ := hv2.at1 (P := Try.prog) (bs_at he) Try.underlying23 tsize5 aggT5
      have hl8 := len8_le _ hce
      have w1 : IntKind.i64.wrap (7 * (e : Int)) = ((7 * e : Nat) : Int) := by rw [wrap64_of (by omega) (by omega)]; simp
      have w2 : IntKind.i64.wrap (((7 * e : Nat) : Int) + (len8 (l[e]?.getD 0) : Int)) = ((7 * e + len8 (l[e]?.getD 0) : Nat) : Int) := by rw [wrap64_of (by omega) (by omega)]; simp
      refine w_assoc (s_cut (fun t g n' => t 0 = v ∧ t 2 = .int .u64 0 ∧ t 5 = .int .i64 e ∧ t 35 = .bool (decide ((0 < e ∧ l[e]?.getD 0 = 0) ∨ 7 * e + len8 (l[e]?.getD 0) > 64)) ∧ g2 = g) ?_ ?_)
      · by_cases c1 : 0 < e
        · have d1 : decide ((e : Int) > 0) = true := by simp; omega
          by_cases c2 : l[e]?.getD 0 = 0
          · have d2 : (((l[e]?.getD 0 : Nat) : Int) == 0) = true := by rw [c2]; rfl
            refine region_run (by simp only [runL, List.drop_succ_cons, List.drop_zero, awant_some, Option.getD_some, List.getElem?_toArray, List.getElem?_cons_succ, List.getElem?_cons_zero, Option.bind_some, b_tt, b_tf, b_ft, b_ff, Bool.not_true, Bool.not_false, List.take_succ_cons, List.take_zero, awant_none, astep, evl, put, ap_none, ap_new, ap_wr, List.length_nil, List.length_cons, Nat.add_zero, Nat.zero_add, upd_app, stepBin, abin, stepUn, stepPick, stepExtract, stepCall, if_true, if_false, reduceCtorEq, ↓reduceIte, Nat.reduceEqDiff, Nat.reduceAdd, List.map_cons, List.map_nil, Option.map_some, Option.map_none, Bool.false_eq_true, Int.reduceLE, Int.reduceToNat, ne_eq, not_false_eq_true, and_self, and_true, true_and, decide_true, decide_false, Int.reduceEq, Int.reduceLT, Int.reduceBEq, Int.reduceBNe, not_true_eq_false, undef, t0, t2, t5, d1, d2, hp1, hp2] <;> rfl) ⟨rfl, ?_⟩
            simp [upd_app, c1, c2, t0, t2, t5]
          · have d2 : (((l[e]?.getD 0 : Nat) : Int) == 0) = false := by simp; omega
            refine region_take 16 (by simp only [runL, List.drop_succ_cons, List.drop_zero, awant_some, Option.getD_some, List.getElem?_toArray, List.getElem?_cons_succ, List.getElem?_cons_zero, Option.bind_some, b_tt, b_tf, b_ft, b_ff, Bool.not_true, Bool.not_false, List.take_succ_cons, List.take_zero, awant_none, astep, evl, put, ap_none, ap_new, ap_wr, List.length_nil, List.length_cons, Nat.add_zero, Nat.zero_add, upd_app, stepBin, abin, stepUn, stepPick, stepExtract, stepCall, if_true, if_false, reduceCtorEq, ↓reduceIte, Nat.reduceEqDiff, Nat.reduceAdd, List.map_cons, List.map_nil, Option.map_some, Option.map_none, Bool.false_eq_true, Int.reduceLE, Int.reduceToNat, ne_eq, not_false_eq_true, and_self, and_true, true_and, decide_true, decide_false, Int.reduceEq, Int.reduceLT, Int.reduceBEq, Int.reduceBNe, not_true_eq_false, undef, t0, t2, t5, d1, d2, hp1, hp2, w1] <;> rfl) ?_
            refine g_call 43 _ (by simp only [runL, List.drop_succ_cons, List.drop_zero, awant_some, Option.getD_some, List.getElem?_toArray, List.getElem?_cons_succ, List.getElem?_cons_zero, Option.bind_some, b_tt, b_tf, b_ft, b_ff, Bool.not_true, Bool.not_false, List.take_succ_cons, List.take_zero, awant_none, astep, evl, put, ap_none, ap_new, ap_wr, List.length_nil, List.length_cons, Nat.add_zero, Nat.zero_add, upd_app, stepBin, abin, stepUn, stepPick, stepExtract, stepCall, if_true, if_false, reduceCtorEq, ↓reduceIte, Nat.reduceEqDiff, Nat.reduceAdd, List.map_cons, List.map_nil, Option.map_some, Option.map_none, Bool.false_eq_true, Int.reduceLE, Int.reduceToNat, ne_eq, not_false_eq_true, and_self, and_true, true_and, decide_true, decide_false, Int.reduceEq, Int.reduceLT, Int.reduceBEq, Int.reduceBNe, not_true_eq_false, undef, d1, d2] <;> rfl) rfl (len8_spec _ hce g2) (by simp) ?_
            refine ops_run (by simp only [runL, List.drop_succ_cons, List.drop_zero, awant_some, Option.getD_some, List.getElem?_toArray, List.getElem?_cons_succ, List.getElem?_cons_zero, Option.bind_some, b_tt, b_tf, b_ft, b_ff, Bool.not_true, Bool.not_false, List.take_succ_cons, List.take_zero, awant_none, astep, evl, put, ap_none, ap_new, ap_wr, List.length_nil, List.length_cons, Nat.add_zero, Nat.zero_add, upd_app, stepBin, abin, stepUn, stepPick, stepExtract, stepCall, if_true, if_false, reduceCtorEq, ↓reduceIte, Nat.reduceEqDiff, Nat.reduceAdd, List.map_cons, List.map_nil, Option.map_some, Option.map_none, Bool.false_eq_true, Int.reduceLE, Int.reduceToNat, ne_eq, not_false_eq_true, and_self, and_true, true_and, decide_true, decide_false, Int.reduceEq, Int.reduceLT, Int.reduceBEq, Int.reduceBNe, not_true_eq_false, undef, d1, d2, w2] <;> rfl) ⟨rfl, ?_⟩
            simp [upd_app, put, c1, c2, t0, t2, t5, ap_none]
            omega
        · have d1 : decide ((e : Int) > 0) = false := by simp; omega
          refine region_take 16 (by simp only [runL, List.drop_succ_cons, List.drop_zero, awant_some, Option.getD_some, List.getElem?_toArray, List.getElem?_cons_succ, List.getElem?_cons_zero, Option.bind_some, b_tt, b_tf, b_ft, b_ff, Bool.not_true, Bool.not_false, List.take_succ_cons, List.take_zero, awant_none, astep, evl, put, ap_none, ap_new, ap_wr, List.length_nil, List.length_cons, Nat.add_zero, Nat.zero_add, upd_app, stepBin, abin, stepUn, stepPick, stepExtract, stepCall, if_true, if_false, reduceCtorEq, ↓reduceIte, Nat.reduceEqDiff, Nat.reduceAdd, List.map_cons, List.map_nil, Option.map_some, Option.map_none, Bool.false_eq_true, Int.reduceLE, Int.reduceToNat, ne_eq, not_false_eq_true, and_self, and_true, true_and, decide_true, decide_false, Int.reduceEq, Int.reduceLT, Int.reduceBEq, Int.reduceBNe, not_true_eq_false, undef, t0, t2, t5, d1, hp1, hp2, w1] <;> rfl) ?_
          refine g_call 43 _ (by simp only [runL, List.drop_succ_cons, List.drop_zero, awant_some, Option.getD_some, List.getElem?_toArray, List.getElem?_cons_succ, List.getElem?_cons_zero, Option.bind_some, b_tt, b_tf, b_ft, b_ff, Bool.not_true, Bool.not_false, List.take_succ_cons, List.take_zero, awant_none, astep, evl, put, ap_none, ap_new, ap_wr, List.length_nil, List.length_cons, Nat.add_zero, Nat.zero_add, upd_app, stepBin, abin, stepUn, stepPick, stepExtract, stepCall, if_true, if_false, reduceCtorEq, ↓reduceIte, Nat.reduceEqDiff, Nat.reduceAdd, List.map_cons, List.map_nil, Option.map_some, Option.map_none, Bool.false_eq_true, Int.reduceLE, Int.reduceToNat, ne_eq, not_false_eq_true, and_self, and_true, true_and, decide_true, decide_false, Int.reduceEq, Int.reduceLT, Int.reduceBEq, Int.reduceBNe, not_true_eq_false, undef, d1] <;> rfl) rfl (len8_spec _ hce g2) (by simp) ?_
          refine ops_run (by simp only [runL, List.drop_succ_cons, List.drop_zero, awant_some, Option.getD_some, List.getElem?_toArray, List.getElem?_cons_succ, List.getElem?_cons_zero, Option.bind_some, b_tt, b_tf, b_ft, b_ff, Bool.not_true, Bool.not_false, List.take_succ_cons, List.take_zero, awant_none, astep, evl, put, ap_none, ap_new, ap_wr, List.length_nil, List.length_cons, Nat.add_zero, Nat.zero_add, upd_app, stepBin, abin, stepUn, stepPick, stepExtract, stepCall, if_true, if_false, reduceCtorEq, ↓reduceIte, Nat.reduceEqDiff, Nat.reduceAdd, List.map_cons, List.map_nil, Option.map_some, Option.map_none, Bool.false_eq_true, Int.reduceLE, Int.reduceToNat, ne_eq, not_false_eq_true, and_self, and_true, true_and, decide_true, decide_false, Int.reduceEq, Int.reduceLT, Int.reduceBEq, Int.reduceBNe, not_true_eq_false, undef, d1, w2] <;> rfl) ⟨rfl, ?_⟩
          simp [upd_app, put, c1, t0, t2, t5, ap_none]
          omega
      · rintro t g n' ⟨t0, t2, t5, t35, rfl⟩
        by_cases hbad : (0 < e ∧ l[e]?.getD 0 = 0) ∨ 7 * e + len8 (l[e]?.getD 0) > 64
        · have hv0 : vget l = none := by rw [vget, if_neg]; rw [hf', Int.toNat_natCast]; omega
          refine s_true (by simp only [evl, t35, decide_eq_true hbad]) ?_
          refine w_assoc (s_run (by simp only [runL, List.drop_succ_cons, List.drop_zero, awant_some, Option.getD_some, List.getElem?_toArray, List.getElem?_cons_succ, List.getElem?_cons_zero, Option.bind_some, b_tt, b_tf, b_ft, b_ff, Bool.not_true, Bool.not_false, List.take_succ_cons, List.take_zero, awant_none, astep, evl, put, ap_none, ap_new, ap_wr, List.length_nil, List.length_cons, Nat.add_zero, Nat.zero_add, upd_app, stepBin, abin, stepUn, stepPick, stepExtract, stepCall, if_true, if_false, reduceCtorEq, ↓reduceIte, Nat.reduceEqDiff, Nat.reduceAdd, List.map_cons, List.map_nil, Option.map_some, Option.map_none, Bool.false_eq_true, Int.reduceLE, Int.reduceToNat, ne_eq, not_false_eq_true, and_self, and_true, true_and, decide_true, decide_false, Int.reduceEq, Int.reduceLT, Int.reduceBEq, Int.reduceBNe, not_true_eq_false, undef] <;> rfl) ?_)
          refine s_ret ⟨.inr rfl, tupRes ⟨_, rfl⟩ ⟨_, rfl⟩ ⟨_, rfl⟩, [], fin_none ?_ (svg _) (fun _ _ h => h)⟩
          simp [resVal, upd_app, hv0, gres]
        · have hv1 : vget l = some (vval (l.take (e + 1)), e + 1) := by rw [vget, if_pos]; rw [hf', Int.toNat_natCast]; rw [hf', Int.toNat_natCast]; omega
          have hfull := vval_full l e he hce (by omega)
          refine s_false (by simp only [evl, t35, decide_eq_false hbad]) (s_skip ?_)
          have w3 : IntKind.i64.wrap ((e : Int) + 1) = ((e + 1 : Nat) : Int) := by rw [wrap64_of (by omega) (by omega)]; simp
          obtain ⟨v', hs1, hs2, hs3, hs4⟩ := hv2.slice Try.underlying23 tsize5 none (some (.int .i64 ((e + 1 : Nat) : Int))) 0 (e + 1) rfl rfl (by omega) (by omega)
          have hs5 : Src g2 v' 1 (e + 1) (bs (l.take (e + 1))) := by simpa using hs2
          have hlen' := hs5.len Try.underlying23
          have hle : (l.take (e + 1)).length = e + 1 := by simp; omega
          refine w_assoc (s_run (by simp only [runL, List.drop_succ_cons, List.drop_zero, awant_some, Option.getD_some, List.getElem?_toArray, List.getElem?_cons_succ, List.getElem?_cons_zero, Option.bind_some, b_tt, b_tf, b_ft, b_ff, Bool.not_true, Bool.not_false, List.take_succ_cons, List.take_zero, awant_none, astep, evl, put, ap_none, ap_new, ap_wr, List.length_nil, List.length_cons, Nat.add_zero, Nat.zero_add, upd_app, stepBin, abin, stepUn, stepPick, stepExtract, stepCall, if_true, if_false, reduceCtorEq, ↓reduceIte, Nat.reduceEqDiff, Nat.reduceAdd, List.map_cons, List.map_nil, Option.map_some, Option.map_none, Bool.false_eq_true, Int.reduceLE, Int.reduceToNat, ne_eq, not_false_eq_true, and_self, and_true, true_and, decide_true, decide_false, Int.reduceEq, Int.reduceLT, Int.reduceBEq, Int.reduceBNe, not_true_eq_false, undef, t0, t5, w3, hs1, hlen'] <;> rfl) ?_)
          refine s_range (e + 1) (fun k t g n' => t 2 = .int .u64 (vval (l.take k)) ∧ t 39 = v' ∧ t 5 = .int .i64 e ∧ g2 = g) (by omega) rfl rfl ⟨by simp [upd_app, t2, vval], by simp [upd_app], by simp [upd_app, t5], rfl⟩ (by decide) ?_ ?_ ?_
          · rintro k t g n' x y hx ⟨h1, h2, h3, h4⟩
            refine ⟨?_, ?_, ?_, h4⟩ <;> rw [upd_ne _ _ (by rcases hx with rfl | rfl | rfl <;> decide)] <;> assumption
          · rintro k t g n' hk t41 t40 ⟨h1, h2, h3, rfl⟩
            have hgk : (l.take (e + 1))[k]?.getD 0 = l[k]?.getD 0 := by rw [List.getElem?_take, if_pos (by omega)]
            obtain ⟨q, hq1, hq2, _⟩ := hs5.at1 (P := Try.prog) (i := k) (bs_at (by omega)) Try.underlying23 tsize5 aggT5
            rw [hgk] at hq2
            have w4 : IntKind.i64.wrap (7 * (k : Int)) = ((7 * k : Nat) : Int) := by rw [wrap64_of (by omega) (by omega)]; simp
            have hst := vval_step l k (by omega) (hb k) (by omega) (Nat.lt_of_le_of_lt (vval_take_le l (k + 1) (e + 1) (by omega)) hfull)
            refine s_run (by simp only [runL, List.drop_succ_cons, List.drop_zero, awant_some, Option.getD_some, List.getElem?_toArray, List.getElem?_cons_succ, List.getElem?_cons_zero, Option.bind_some, b_tt, b_tf, b_ft, b_ff, Bool.not_true, Bool.not_false, List.take_succ_cons, List.take_zero, awant_none, astep, evl, put, ap_none, ap_new, ap_wr, List.length_nil, List.length_cons, Nat.add_zero, Nat.zero_add, upd_app, stepBin, abin, stepUn, stepPick, stepExtract, stepCall, if_true, if_false, reduceCtorEq, ↓reduceIte, Nat.reduceEqDiff, Nat.reduceAdd, List.map_cons, List.map_nil, Option.map_some, Option.map_none, Bool.false_eq_true, Int.reduceLE, Int.reduceToNat, ne_eq, not_false_eq_true, and_self, and_true, true_and, decide_true, decide_false, Int.reduceEq, Int.reduceLT, Int.reduceBEq, Int.reduceBNe, not_true_eq_false, undef, t41, h2, hq1, hq2] <;> rfl) ?_
            refine region_run (by simp only [runL, List.drop_succ_cons, List.drop_zero, awant_some, Option.getD_some, List.getElem?_toArray, List.getElem?_cons_succ, List.getElem?_cons_zero, Option.bind_some, b_tt, b_tf, b_ft, b_ff, Bool.not_true, Bool.not_false, List.take_succ_cons, List.take_zero, awant_none, astep, evl, put, ap_none, ap_new, ap_wr, List.length_nil, List.length_cons, Nat.add_zero, Nat.zero_add, upd_app, stepBin, abin, stepUn, stepPick, stepExtract, stepCall, if_true, if_false, reduceCtorEq, ↓reduceIte, Nat.reduceEqDiff, Nat.reduceAdd, List.map_cons, List.map_nil, Option.map_some, Option.map_none, Bool.false_eq_true, Int.reduceLE, Int.reduceToNat, ne_eq, not_false_eq_true, and_self, and_true, true_and, decide_true, decide_false, Int.reduceEq, Int.reduceLT, Int.reduceBEq, Int.reduceBNe, not_true_eq_false, undef, h1, conv5_22, w4, hst, show (0 : Int) ≤ ((7 * k : Nat) : Int) from Int.natCast_nonneg _] <;> rfl) ?_
            refine ⟨by simp [upd_app, t41], by simp [upd_app, t40], by simp [upd_app], by simp [upd_app, h2], by simp [upd_app, h3], rfl⟩
          · rintro t g n' ⟨h1, h2, h3, rfl⟩
            refine s_run (by simp only [runL, List.drop_succ_cons, List.drop_zero, awant_some, Option.getD_some, List.getElem?_toArray, List.getElem?_cons_succ, List.getElem?_cons_zero, Option.bind_some, b_tt, b_tf, b_ft, b_ff, Bool.not_true, Bool.not_false, List.take_succ_cons, List.take_zero, awant_none, astep, evl, put, ap_none, ap_new, ap_wr, List.length_nil, List.length_cons, Nat.add_zero, Nat.zero_add, upd_app, stepBin, abin, stepUn, stepPick, stepExtract, stepCall, if_true, if_false, reduceCtorEq, ↓reduceIte, Nat.reduceEqDiff, Nat.reduceAdd, List.map_cons, List.map_nil, Option.map_some, Option.map_none, Bool.false_eq_true, Int.reduceLE, Int.reduceToNat, ne_eq, not_false_eq_true, and_self, and_true, true_and, decide_true, decide_false, Int.reduceEq, Int.reduceLT, Int.reduceBEq, Int.reduceBNe, not_true_eq_false, undef, h1, h3, w3] <;> rfl) ?_
            refine w_ret ⟨.inr rfl, tupRes ⟨_, rfl⟩ ⟨_, rfl⟩ ⟨_, rfl⟩, [], fin_none ?_ (svg _) (fun _ _ h => h)⟩
            simp [resVal, upd_app, hv1, gres]
    · have hv0 : vget l = none := by rw [vget, if_neg]; rw [hf']; omega
      have h2 : decide (findLow l 0 > 9) = true := by rw [hf']; simp; omega
      refine w_assoc (s_run (by simp only [runL, List.drop_succ_cons, List.drop_zero, awant_some, Option.getD_some, List.getElem?_toArray, List.getElem?_cons_succ, List.getElem?_cons_zero, Option.bind_some, b_tt, b_tf, b_ft, b_ff, Bool.not_true, Bool.not_false, List.take_succ_cons, List.take_zero, awant_none, astep, evl, put, ap_none, ap_new, ap_wr, List.length_nil, List.length_cons, Nat.add_zero, Nat.zero_add, upd_app, stepBin, abin, stepUn, stepPick, stepExtract, stepCall, if_true, if_false, reduceCtorEq, ↓reduceIte, Nat.reduceEqDiff, Nat.reduceAdd, List.map_cons, List.map_nil, Option.map_some, Option.map_none, Bool.false_eq_true, Int.reduceLE, Int.reduceToNat, ne_eq, not_false_eq_true, and_self, and_true, true_and, decide_true, decide_false, Int.reduceEq, Int.reduceLT, Int.reduceBEq, Int.reduceBNe, not_true_eq_false, undef, h1, h2] <;> rfl) ?_)
      refine s_true (by simp [evl, upd_app]) ?_
      refine w_assoc (s_run (by simp only [runL, List.drop_succ_cons, List.drop_zero, awant_some, Option.getD_some, List.getElem?_toArray, List.getElem?_cons_succ, List.getElem?_cons_zero, Option.bind_some, b_tt, b_tf, b_ft, b_ff, Bool.not_true, Bool.not_false, List.take_succ_cons, List.take_zero, awant_none, astep, evl, put, ap_none, ap_new, ap_wr, List.length_nil, List.length_cons, Nat.add_zero, Nat.zero_add, upd_app, stepBin, abin, stepUn, stepPick, stepExtract, stepCall, if_true, if_false, reduceCtorEq, ↓reduceIte, Nat.reduceEqDiff, Nat.reduceAdd, List.map_cons, List.map_nil, Option.map_some, Option.map_none, Bool.false_eq_true, Int.reduceLE, Int.reduceToNat, ne_eq, not_false_eq_true, and_self, and_true, true_and, decide_true, decide_false, Int.reduceEq, Int.reduceLT, Int.reduceBEq, Int.reduceBNe, not_true_eq_false, undef] <;> rfl) ?_)
      refine s_ret ⟨.inr rfl, tupRes ⟨_, rfl⟩ ⟨_, rfl⟩ ⟨_, rfl⟩, [], fin_none ?_ (svg _) (fun _ _ h => h)⟩
      simp [resVal, upd_app, hv0, gres]
end Go.Proofs.Ytokmmcfnpobldaa

namespace Go.Proofs.Ytokmmcfnpobldaa
open Go Abs
set_option linter.unusedSimpArgs false
set_option linter.unusedVariables false

/-- The string of bytes. -/
def nstr (l : List Nat) : ByteArray := bstr (l.map fun (b : Nat) => (b : Int))

theorem bs_ints (l : List Nat) : bs l = (l.map fun (b : Nat) => (b : Int)).map (Value.int .u8) := by simp

theorem foldl_push (l : List Int) (a : ByteArray) : (l.foldl (fun r n => r.push (UInt8.ofNat n.toNat)) a).data.toList = a.data.toList ++ l.map fun n => UInt8.ofNat n.toNat := by
  induction l generalizing a with
  | nil => simp
  | cons x l ih =>
    rw [List.foldl_cons, ih]
    simp [ByteArray.data_push]

theorem nstr_data (l : List Nat) : (nstr l).data.toList = l.map UInt8.ofNat := by
  rw [nstr, bstr, foldl_push, show (ByteArray.empty).data.toList = [] from rfl, List.nil_append, List.map_map]
  rfl

theorem nstr_inj {a b : List Nat} (ha : ∀ x ∈ a, x < 256) (hb : ∀ x ∈ b, x < 256) (h : nstr a = nstr b) : a = b := by
  have h1 := congrArg (fun s : ByteArray => s.data.toList.map UInt8.toNat) h
  simp only [nstr_data, List.map_map] at h1
  have key : ∀ l : List Nat, (∀ x ∈ l, x < 256) → l.map (UInt8.toNat ∘ UInt8.ofNat) = l := by
    intro l hl
    refine (List.map_congr_left (g := id) fun x hx => ?_).trans (by simp)
    simp [Nat.mod_eq_of_lt (hl x hx)]
  rwa [key a ha, key b hb] at h1

theorem toList_inj {a b : ByteArray} (h : a.toList = b.toList) : a = b := by
  rw [ByteArray.toList_eq, ByteArray.toList_eq] at h
  exact ByteArray.ext (Array.toList_inj.mp h)

theorem nstr_beq {a b : List Nat} (ha : ∀ x ∈ a, x < 256) (hb : ∀ x ∈ b, x < 256) : ((nstr a).toList == (nstr b).toList) = decide (a = b) := by
  by_cases h : a = b
  · subst h; simp
  · rw [decide_eq_false h, beq_eq_false_iff_ne]
    exact fun e => h (nstr_inj ha hb (toList_inj e))
end Go.Proofs.Ytokmmcfnpobldaa

namespace Go.Proofs.Ytokmmcfnpobldaa
open Go Abs
set_option linter.unusedSimpArgs false
set_option linter.unusedVariables false

theorem vput_256 (v : Nat) : ∀ x ∈ vput v, x < 256 := by
  induction v using Nat.strongRecOn with
  | _ v ih =>
    rw [vput]
    split
    · intro x hx; simp at hx; omega
    · intro x hx
      rcases List.mem_cons.1 hx with rfl | hx
      · omega
      · exact ih _ (by omega) x hx

theorem getD_256 {l : List Nat} (h : ∀ x ∈ l, x < 256) (i : Nat) : l[i]?.getD 0 < 256 := by
  by_cases hi : i < l.length
  · rw [List.getElem?_eq_getElem hi]
    exact h _ (List.getElem_mem hi)
  · rw [List.getElem?_eq_none (by omega)]; simp

/-- A slice over the whole of a block is read. -/
theorem src_own {g : Heap} {k e : Nat} {l : List Nat} (h : g k = some ⟨false, e, bs l⟩) : Src g (.slice (some ⟨k, 0, some l.length⟩) l.length 1) 1 l.length (bs l) :=
  OwnI.toSrc (e := e) (i := some k) (.inr ⟨k, rfl, by simp, h, by simp⟩)

theorem src_str {g : Heap} {v : Value} {l : List Nat} (h : Src g v 1 l.length (bs l)) : ∃ r, stepConv Try.prog 23 9 v g = some { v := .string (nstr l), r := r } ∧ ∀ i ∈ r, i ∈ srcBlk v :=
  Src.str (ns := l.map fun (b : Nat) => (b : Int)) (by rw [← bs_ints]; exact h) Try.underlying23 Try.underlying5 Try.underlying9

theorem lit3 (x y z : Int) (j : Nat) : stepBuildSlice Try.prog 23 3 [(0, .int .u8 x), (1, .int .u8 y), (2, .int .u8 z)] j = some { v := .slice (some ⟨j, 0, some 3⟩) 3 1, j := j, a := [⟨false, 5, [.int .u8 x, .int .u8 y, .int .u8 z]⟩] } := by
  simp [stepBuildSlice, Try.underlying23, tinf5, fillL, Value.cells, isTup, putAll, List.replicate]

theorem vget_known : vget [172, 2, 7] = some (300, 2) := by decide
theorem vput_known : vput 300 = [172, 2] := by rw [vput, if_neg (by omega), vput, if_pos (by omega)]

set_option maxRecDepth 10000 in
theorem known_spec (g : Heap) : FnSpec Try.prog 19 [] g { v := .bool true } := by
  refine spec_of_body [0] follows Try.func19 rfl (by kernel_rfl) (by simp [Try.f19]) (by kernel_rfl) rfl ?_
  intro g2 s2 n hg hfr hs hn hwf hsv
  refine s_run (by simp only [runL, List.drop_succ_cons, List.drop_zero, awant_some, Option.getD_some, List.getElem?_toArray, List.getElem?_cons_succ, List.getElem?_cons_zero, Option.bind_some, b_tt, b_tf, b_ft, b_ff, Bool.not_true, Bool.not_false, List.take_succ_cons, List.take_zero, awant_none, astep, evl, put, ap_none, ap_new, ap_wr, List.length_nil, List.length_cons, Nat.add_zero, Nat.zero_add, upd_app, stepBin, abin, stepUn, stepPick, stepExtract, stepCall, if_true, if_false, reduceCtorEq, ↓reduceIte, Nat.reduceEqDiff, Nat.reduceAdd, List.map_cons, List.map_nil, Option.map_some, Option.map_none, Bool.false_eq_true, Int.reduceLE, Int.reduceToNat, ne_eq, not_false_eq_true, and_self, and_true, true_and, decide_true, decide_false, Int.reduceEq, Int.reduceLT, Int.reduceBEq, Int.reduceBNe, not_true_eq_false, undef] <;> rfl) ?_
  refine s_take 1 (by simp only [runL, List.drop_succ_cons, List.drop_zero, awant_some, Option.getD_some, List.getElem?_toArray, List.getElem?_cons_succ, List.getElem?_cons_zero, Option.bind_some, b_tt, b_tf, b_ft, b_ff, Bool.not_true, Bool.not_false, List.take_succ_cons, List.take_zero, awant_none, astep, evl, put, ap_none, ap_new, ap_wr, List.length_nil, List.length_cons, Nat.add_zero, Nat.zero_add, upd_app, stepBin, abin, stepUn, stepPick, stepExtract, stepCall, if_true, if_false, reduceCtorEq, ↓reduceIte, Nat.reduceEqDiff, Nat.reduceAdd, List.map_cons, List.map_nil, Option.map_some, Option.map_none, Bool.false_eq_true, Int.reduceLE, Int.reduceToNat, ne_eq, not_false_eq_true, and_self, and_true, true_and, decide_true, decide_false, Int.reduceEq, Int.reduceLT, Int.reduceBEq, Int.reduceBNe, not_true_eq_false, undef, lit3] <;> rfl) ?_
  refine ops_call 17 _ rfl (get_spec _ [172, 2, 7] _ (by decide) (getD_256 (by decide)) (src_own (k := n) (e := 5) (l := [172, 2, 7]) ?_)) (by simp) ?_
  · simp [upd_app]
  rw [vget_known]
  refine ops_run (by simp only [runL, List.drop_succ_cons, List.drop_zero, awant_some, Option.getD_some, List.getElem?_toArray, List.getElem?_cons_succ, List.getElem?_cons_zero, Option.bind_some, b_tt, b_tf, b_ft, b_ff, Bool.not_true, Bool.not_false, List.take_succ_cons, List.take_zero, awant_none, astep, evl, put, ap_none, ap_new, ap_wr, List.length_nil, List.length_cons, Nat.add_zero, Nat.zero_add, upd_app, stepBin, abin, stepUn, stepPick, stepExtract, stepCall, if_true, if_false, reduceCtorEq, ↓reduceIte, Nat.reduceEqDiff, Nat.reduceAdd, List.map_cons, List.map_nil, Option.map_some, Option.map_none, Bool.false_eq_true, Int.reduceLE, Int.reduceToNat, ne_eq, not_false_eq_true, and_self, and_true, true_and, decide_true, decide_false, Int.reduceEq, Int.reduceLT, Int.reduceBEq, Int.reduceBNe, not_true_eq_false, undef, gres] <;> rfl) ?_
  refine s_take 0 rfl ?_
  refine ops_call 16 _ rfl (put_spec 300 (by decide) _ _) (by intro _; rfl) (ops_heap fun G hG => ?_)
  obtain ⟨r, hr, _⟩ := src_str (g := G) (src_own (k := n + 1) (e := 5) (l := vput 300) (by simp [hG, ap_new, upd_app]))
  have hs1 : ((nstr (vput 300)).toList == (ByteArray.mk #[172, 2]).toList) = true := by rw [vput_known]; decide +kernel
  refine ops_run (by simp only [runL, List.drop_succ_cons, List.drop_zero, awant_some, Option.getD_some, List.getElem?_toArray, List.getElem?_cons_succ, List.getElem?_cons_zero, Option.bind_some, b_tt, b_tf, b_ft, b_ff, Bool.not_true, Bool.not_false, List.take_succ_cons, List.take_zero, awant_none, astep, evl, put, ap_none, ap_new, ap_wr, List.length_nil, List.length_cons, Nat.add_zero, Nat.zero_add, upd_app, stepBin, abin, stepUn, stepPick, stepExtract, stepCall, if_true, if_false, reduceCtorEq, ↓reduceIte, Nat.reduceEqDiff, Nat.reduceAdd, List.map_cons, List.map_nil, Option.map_some, Option.map_none, Bool.false_eq_true, Int.reduceLE, Int.reduceToNat, ne_eq, not_false_eq_true, and_self, and_true, true_and, decide_true, decide_false, Int.reduceEq, Int.reduceLT, Int.reduceBEq, Int.reduceBNe, not_true_eq_false, undef, hr, hs1] <;> rfl) ?_
  refine w_ret ⟨.inr rfl, by simp, [], fin_none ?_ trivial ?_⟩
  · simp [resVal, upd_app]
  · intro i b hb
    have := hs i (hwf i b hb).1
    rw [hG]
    simp [ap_new, upd_app, show i ≠ n + 1 by omega, show i ≠ n by omega, hb]
end Go.Proofs.Ytokmmcfnpobldaa

namespace Go.Proofs.Ytokmmcfnpobldaa
open Go Abs
set_option linter.unusedSimpArgs false
set_option linter.unusedVariables false

theorem and127 (u : Nat) (h : u < 2 ^ 64) : bits .and .u64 (u : Int) 127 = ((u % 128 : Nat) : Int) := by
  have := u64_and_nat u 127 (by omega) (by omega)
  rw [nat_mask7] at this
  exact this
theorem or128' (u : Nat) : bits .or .u64 ((u % 128 : Nat) : Int) 128 = ((u % 128 + 128 : Nat) : Int) := by
  have := u64_or_nat (u % 128) 128 (by omega) (by omega)
  rw [Nat.or_comm, nat_join 7 _ _ (by decide) (by omega), Nat.add_comm] at this
  exact this
theorem w128 (u : Nat) : IntKind.u8.wrap ((u % 128 + 128 : Nat) : Int) = ((u % 128 + 128 : Nat) : Int) := by rw [wrap_u8, Nat.mod_eq_of_lt (by omega)]

set_option maxRecDepth 10000 in
theorem rput_spec (v : Nat) (hv : v < 2 ^ 64) (g : Heap) (j : Nat) : FnSpec Try.prog 18 [.int .u64 v] g { v := .slice (some ⟨j, 0, some (vput v).length⟩) (vput v).length 1, j := j, a := [⟨false, 5, bs (vput v)⟩] } := by
  refine spec_of_body [2] follows Try.func18 rfl (by kernel_rfl) (by simp [Try.f18]) (by kernel_rfl) rfl ?_
  intro g2 s2 n hg hfr hs hn hwf hsv
  refine s_run (by simp only [runL, List.drop_succ_cons, List.drop_zero, awant_some, Option.getD_some, List.getElem?_toArray, List.getElem?_cons_succ, List.getElem?_cons_zero, Option.bind_some, b_tt, b_tf, b_ft, b_ff, Bool.not_true, Bool.not_false, List.take_succ_cons, List.take_zero, awant_none, astep, evl, put, ap_none, ap_new, ap_wr, List.length_nil, List.length_cons, Nat.add_zero, Nat.zero_add, upd_app, stepBin, abin, stepUn, stepPick, stepExtract, stepCall, if_true, if_false, reduceCtorEq, ↓reduceIte, Nat.reduceEqDiff, Nat.reduceAdd, List.map_cons, List.map_nil, Option.map_some, Option.map_none, Bool.false_eq_true, Int.reduceLE, Int.reduceToNat, ne_eq, not_false_eq_true, and_self, and_true, true_and, decide_true, decide_false, Int.reduceEq, Int.reduceLT, Int.reduceBEq, Int.reduceBNe, not_true_eq_false, undef] <;> rfl) ?_
  refine s_run (by simp only [runL, List.drop_succ_cons, List.drop_zero, awant_some, Option.getD_some, List.getElem?_toArray, List.getElem?_cons_succ, List.getElem?_cons_zero, Option.bind_some, b_tt, b_tf, b_ft, b_ff, Bool.not_true, Bool.not_false, List.take_succ_cons, List.take_zero, awant_none, astep, evl, put, ap_none, ap_new, ap_wr, List.length_nil, List.length_cons, Nat.add_zero, Nat.zero_add, upd_app, stepBin, abin, stepUn, stepPick, stepExtract, stepCall, if_true, if_false, reduceCtorEq, ↓reduceIte, Nat.reduceEqDiff, Nat.reduceAdd, List.map_cons, List.map_nil, Option.map_some, Option.map_none, Bool.false_eq_true, Int.reduceLE, Int.reduceToNat, ne_eq, not_false_eq_true, and_self, and_true, true_and, decide_true, decide_false, Int.reduceEq, Int.reduceLT, Int.reduceBEq, Int.reduceBNe, not_true_eq_false, undef] <;> rfl) ?_
  refine s_block (fun t g n' => ∃ (u : Nat) (a : List Nat) (i : Option Nat), u < 128 ∧ a ++ vput u = vput v ∧ t 0 = .int .u64 u ∧ OwnI 5 1 g (t 3) a.length (bs a) i ∧ (∀ k, i = some k → n ≤ k ∧ k < n') ∧ (∀ k, k < n → g k = g2 k) ∧ n ≤ n') ?_ ?_
  · refine w_loop (fun t g n' => ∃ (u : Nat) (a : List Nat) (i : Option Nat), u < 2 ^ 64 ∧ a ++ vput u = vput v ∧ t 0 = .int .u64 u ∧ OwnI 5 1 g (t 3) a.length (bs a) i ∧ (∀ k, i = some k → n ≤ k ∧ k < n') ∧ (∀ k, k < n → g k = g2 k) ∧ n ≤ n')
      (fun t g n' => match t 0 with | .int _ u => u.toNat | _ => 0) ⟨v, [], none, hv, rfl, rfl, OwnI.nil 5 1 g2, by simp, fun k hk => rfl, Nat.le_refl _⟩ ?_
    rintro t g n' ⟨u, a, i, hu, ha, ht0, hO, hi, hk, hnn⟩
    refine w_assoc (s_run (by simp only [runL, List.drop_succ_cons, List.drop_zero, awant_some, Option.getD_some, List.getElem?_toArray, List.getElem?_cons_succ, List.getElem?_cons_zero, Option.bind_some, b_tt, b_tf, b_ft, b_ff, Bool.not_true, Bool.not_false, List.take_succ_cons, List.take_zero, awant_none, astep, evl, put, ap_none, ap_new, ap_wr, List.length_nil, List.length_cons, Nat.add_zero, Nat.zero_add, upd_app, stepBin, abin, stepUn, stepPick, stepExtract, stepCall, if_true, if_false, reduceCtorEq, ↓reduceIte, Nat.reduceEqDiff, Nat.reduceAdd, List.map_cons, List.map_nil, Option.map_some, Option.map_none, Bool.false_eq_true, Int.reduceLE, Int.reduceToNat, ne_eq, not_false_eq_true, and_self, and_true, true_and, decide_true, decide_false, Int.reduceEq, Int.reduceLT, Int.reduceBEq, Int.reduceBNe, not_true_eq_false, undef, ht0] <;> rfl) ?_)
    by_cases h128 : u < 128
    · refine s_false (by simp [evl, upd_app]; omega) ?_
      refine s_exit ?_
      exact ⟨u, a, i, h128, ha, by simpa [upd_app] using ht0, by simpa [upd_app] using hO, hi, hk, hnn⟩
    · refine s_true (by simp [evl, upd_app]; omega) ?_
      refine s_skip (w_block ?_)
      have hal : a.length + 1 ≤ 10 := by
        have h1 := congrArg List.length ha
        have h2 := vput_len10 v hv
        rw [vput_high h128] at h1
        simp at h1
        omega
      obtain ⟨f, i', hf, hO', hi', hk'⟩ := own_push (P := Try.prog) (n := n') (T := 23) (c := .int .u8 ((u % 128 + 128 : Nat) : Int)) hO (fun k hk => (hi k hk).2) Try.underlying23 tinf5 (by omega) (by omega)
      refine s_run (by simp only [runL, List.drop_succ_cons, List.drop_zero, awant_some, Option.getD_some, List.getElem?_toArray, List.getElem?_cons_succ, List.getElem?_cons_zero, Option.bind_some, b_tt, b_tf, b_ft, b_ff, Bool.not_true, Bool.not_false, List.take_succ_cons, List.take_zero, awant_none, astep, evl, put, ap_none, ap_new, ap_wr, List.length_nil, List.length_cons, Nat.add_zero, Nat.zero_add, upd_app, stepBin, abin, stepUn, stepPick, stepExtract, stepCall, if_true, if_false, reduceCtorEq, ↓reduceIte, Nat.reduceEqDiff, Nat.reduceAdd, List.map_cons, List.map_nil, Option.map_some, Option.map_none, Bool.false_eq_true, Int.reduceLE, Int.reduceToNat, ne_eq, not_false_eq_true, and_self, and_true, true_and, decide_true, decide_false, Int.reduceEq, Int.reduceLT, Int.reduceBEq, Int.reduceBNe, not_true_eq_false, undef, ht0, lit23, and127 u hu, or128' u, conv22_5, w128 u, hf] <;> rfl) ?_
      refine region_run (by simp only [runL, List.drop_succ_cons, List.drop_zero, awant_some, Option.getD_some, List.getElem?_toArray, List.getElem?_cons_succ, List.getElem?_cons_zero, Option.bind_some, b_tt, b_tf, b_ft, b_ff, Bool.not_true, Bool.not_false, List.take_succ_cons, List.take_zero, awant_none, astep, evl, put, ap_none, ap_new, ap_wr, List.length_nil, List.length_cons, Nat.add_zero, Nat.zero_add, upd_app, stepBin, abin, stepUn, stepPick, stepExtract, stepCall, if_true, if_false, reduceCtorEq, ↓reduceIte, Nat.reduceEqDiff, Nat.reduceAdd, List.map_cons, List.map_nil, Option.map_some, Option.map_none, Bool.false_eq_true, Int.reduceLE, Int.reduceToNat, ne_eq, not_false_eq_true, and_self, and_true, true_and, decide_true, decide_false, Int.reduceEq, Int.reduceLT, Int.reduceBEq, Int.reduceBNe, not_true_eq_false, undef, ht0] <;> rfl) ?_
      have hu' : (u : Int).fdiv (2 ^ (min 7 IntKind.u64.bits)) = ((u / 128 : Nat) : Int) := shr_nat .u64 u 7 (by decide)
      refine ⟨⟨u / 128, a ++ [u % 128 + 128], i', by omega, by rw [← ha, vput_high h128]; simp, by simp [upd_app, hu'], by simpa [upd_app] using hO', fun k hk1 => ?_, fun k hk1 => ?_, by omega⟩, ?_⟩
      · have := hi' k hk1
        rcases this.1 with h | h
        · have := hi k h; omega
        · omega
      · rw [hk' k (by omega) (fun e => by have := hi k e.symm; omega)]
        exact hk k hk1
      · simp [upd_app, hu', ht0]
        omega
  · rintro t g n' ⟨u, a, i, hu, ha, ht0, hO, hi, hk, hnn⟩
    have hal : a.length + 1 ≤ 10 := by
      have h1 := congrArg List.length ha
      have h2 := vput_len10 v hv
      rw [vput_low hu] at h1
      simp at h1
      omega
    obtain ⟨f, i', hf, hO', hi', hk'⟩ := own_push (P := Try.prog) (n := n') (T := 23) (c := .int .u8 (IntKind.u8.wrap (u : Int))) hO (fun k hk => (hi k hk).2) Try.underlying23 tinf5 (by omega) (by omega)
    refine s_run (by simp only [runL, List.drop_succ_cons, List.drop_zero, awant_some, Option.getD_some, List.getElem?_toArray, List.getElem?_cons_succ, List.getElem?_cons_zero, Option.bind_some, b_tt, b_tf, b_ft, b_ff, Bool.not_true, Bool.not_false, List.take_succ_cons, List.take_zero, awant_none, astep, evl, put, ap_none, ap_new, ap_wr, List.length_nil, List.length_cons, Nat.add_zero, Nat.zero_add, upd_app, stepBin, abin, stepUn, stepPick, stepExtract, stepCall, if_true, if_false, reduceCtorEq, ↓reduceIte, Nat.reduceEqDiff, Nat.reduceAdd, List.map_cons, List.map_nil, Option.map_some, Option.map_none, Bool.false_eq_true, Int.reduceLE, Int.reduceToNat, ne_eq, not_false_eq_true, and_self, and_true, true_and, decide_true, decide_false, Int.reduceEq, Int.reduceLT, Int.reduceBEq, Int.reduceBNe, not_true_eq_false, undef, ht0, lit23, conv22_5, hf] <;> rfl) ?_
    refine w_ret ?_
    rcases hO' with ⟨_, _, h0, _⟩ | ⟨k, rfl, hv', hg', hl⟩
    · omega
    · have hbv : bs a ++ [Value.int .u8 (IntKind.u8.wrap (u : Int))] = bs (vput v) := by
        rw [← ha, vput_low hu, wrap_u8, Nat.mod_eq_of_lt (by omega)]
        simp
      have hlen : a.length + 1 = (vput v).length := by rw [← ha, vput_low hu]; simp
      rw [hbv] at hv' hg'
      refine ⟨.inr rfl, by simp, [k], ?_⟩
      have hnk : n ≤ k := by
        rcases (hi' k rfl).1 with h | h
        · exact (hi k h).1
        · omega
      have := fin_slice (s2 := s2) (g2 := g2) (n := n) (j := j) (r := []) (v' := f.v) (m := (vput v).length) (esz := 1) (by rw [hv', hlen]) hnk hg' plain_ints (fun i' b hb => by
        have h1 := hs i' (hwf i' b hb).1
        rw [hk' i' (by omega) (fun e => by have := hi i' e.symm; omega), hk i' h1]
        exact hb)
      simpa [resVal, upd_app] using this
end Go.Proofs.Ytokmmcfnpobldaa

namespace Go.Proofs.Ytokmmcfnpobldaa
open Go Abs
set_option linter.unusedSimpArgs false
set_option linter.unusedVariables false

theorem vval_vput (v : Nat) : vval (vput v) = v := by
  induction v using Nat.strongRecOn with
  | _ v ih =>
    rw [vput]
    split
    · simp [vval]; omega
    · simp only [vval]
      rw [ih _ (by omega)]
      omega

/-- Bytes of 128 and more, and one below. -/
def isGrp : List Nat → Prop
  | [] => False
  | c :: p => (c < 128 ∧ p = []) ∨ (128 ≤ c ∧ c < 256 ∧ isGrp p)

theorem vput_grp (v : Nat) : isGrp (vput v) := by
  induction v using Nat.strongRecOn with
  | _ v ih =>
    rw [vput]
    split
    · exact .inl ⟨by omega, rfl⟩
    · exact .inr ⟨by omega, by omega, ih _ (by omega)⟩

/-- The last byte is no idle nought. -/
def tight : List Nat → Prop
  | [] => False
  | c :: p => p = [] ∨ (p ≠ [0] ∧ tight p)

theorem vput_ne_nil (v : Nat) : vput v ≠ [] := by rw [vput]; split <;> simp

theorem vval_pos {p : List Nat} (h : isGrp p) (ht : p ≠ [0]) (hp : tight p) : 0 < vval p := by
  induction p with
  | nil => exact h.elim
  | cons c p ih =>
    rcases h with ⟨h1, rfl⟩ | ⟨h1, h2, h3⟩
    · have : c ≠ 0 := fun e => ht (by rw [e])
      simp [vval]; omega
    · rcases hp with rfl | ⟨hp1, hp2⟩
      · exact h3.elim
      · have := ih h3 hp1 hp2
        simp only [vval]; omega

theorem vput_vval {p : List Nat} (h : isGrp p) (ht : tight p) : vput (vval p) = p := by
  induction p with
  | nil => exact h.elim
  | cons c p ih =>
    rcases h with ⟨h1, rfl⟩ | ⟨h1, h2, h3⟩
    · have : vval [c] = c := by simp [vval]; omega
      rw [this, vput_low h1]
    · rcases ht with rfl | ⟨ht1, ht2⟩
      · exact h3.elim
      · have h4 := vval_pos h3 ht1 ht2
        have h5 : vval (c :: p) = c % 128 + 128 * vval p := rfl
        rw [vput_high (by omega), show vval (c :: p) / 128 = vval p by omega, show vval (c :: p) % 128 + 128 = c by omega, ih h3 ht2]

theorem vput_tight (v : Nat) : tight (vput v) := by
  induction v using Nat.strongRecOn with
  | _ v ih =>
    rw [vput]
    split
    · exact .inl rfl
    · refine .inr ⟨fun e => ?_, ih _ (by omega)⟩
      have := congrArg vval e
      rw [vval_vput] at this
      simp [vval] at this
      omega

/-- Up to the first byte below 128. -/
theorem take_grp (l : List Nat) (e : Nat) (he : e < l.length) (hlow : l[e]?.getD 0 < 128) (hhigh : ∀ i, i < e → ¬ l[i]?.getD 0 < 128) (hb : ∀ i : Nat, l[i]?.getD 0 < 256) : isGrp (l.take (e + 1)) := by
  induction e generalizing l with
  | zero =>
    cases l with
    | nil => simp at he
    | cons c l => exact .inl ⟨by simpa using hlow, rfl⟩
  | succ e ih =>
    cases l with
    | nil => simp at he
    | cons c l =>
      refine .inr ⟨by have := hhigh 0 (by omega); simp at this; omega, by simpa using hb 0, ?_⟩
      exact ih l (by simpa using he) (by simpa using hlow) (fun i hi => by simpa using hhigh (i + 1) (by omega)) (fun i => by simpa using hb (i + 1))

theorem take_tight (l : List Nat) (e : Nat) (he : e < l.length) : tight (l.take (e + 1)) ↔ e = 0 ∨ l[e]?.getD 0 ≠ 0 := by
  induction e generalizing l with
  | zero =>
    cases l with
    | nil => simp at he
    | cons c l => simp [tight]
  | succ e ih =>
    cases l with
    | nil => simp at he
    | cons c l =>
      have hl : e < l.length := by simpa using he
      have h1 := ih l hl
      have hne : l.take (e + 1) ≠ [] := by simp; intro h; subst h; simp at hl
      simp only [List.take_succ_cons, tight, hne, false_or, h1, List.getElem?_cons_succ, Nat.add_eq_zero_iff, Nat.one_ne_zero, and_false]
      cases l with
      | nil => simp at hl
      | cons d l =>
        cases e with
        | zero => simp
        | succ e =>
          simp only [List.take_succ_cons, Nat.add_eq_zero_iff, Nat.one_ne_zero, and_false, false_or]
          refine and_iff_right ?_
          intro h
          have := congrArg List.length h
          simp only [List.length_cons, List.length_take, List.length_nil] at this
          simp only [List.length_cons] at hl
          omega

theorem len8_one : ∀ c : Nat, c < 2 → len8 c ≤ 1 := by decide
theorem len8_seven : ∀ c : Nat, c < 128 → len8 c ≤ 7 := by decide +kernel

/-- The number that bytes begin with, as the document says it. -/
theorem vget_eq (l : List Nat) (e : Nat) (he : e < l.length) (hf : findLow l 0 = (e : Int)) (h9 : e ≤ 9) (hlow : l[e]?.getD 0 < 128) (hhigh : ∀ i, i < e → ¬ l[i]?.getD 0 < 128) (hb : ∀ i : Nat, l[i]?.getD 0 < 256) :
    vget l = if vput (vval (l.take (e + 1)) % 2 ^ 64) = l.take (e + 1) then some (vval (l.take (e + 1)) % 2 ^ 64, e + 1) else none := by
  have hg := take_grp l e he hlow hhigh hb
  have ht := take_tight l e he
  unfold vget
  rw [hf, Int.toNat_natCast]
  by_cases h1 : (e = 0 ∨ l[e]?.getD 0 ≠ 0) ∧ 7 * e + len8 (l[e]?.getD 0) ≤ 64
  · have h2 := vval_full l e he (by omega) h1.2
    rw [if_pos ⟨by omega, by omega, h1.1, h1.2⟩, Nat.mod_eq_of_lt h2, if_pos (vput_vval hg (ht.2 h1.1))]
  · rw [if_neg (by omega), if_neg]
    intro h3
    apply h1
    have h4 := congrArg vval h3
    rw [vval_vput] at h4
    have h5 : vval (l.take (e + 1)) < 2 ^ 64 := by rw [← h4]; exact Nat.mod_lt _ (by omega)
    have h6 : tight (l.take (e + 1)) := by rw [← h3]; exact vput_tight _
    refine ⟨ht.1 h6, ?_⟩
    by_cases h7 : e ≤ 8
    · have := len8_seven _ hlow; omega
    · have h8 : e = 9 := by omega
      subst h8
      rw [vval_take l 9 he, Nat.mod_eq_of_lt hlow] at h5
      have : l[9]?.getD 0 < 2 := by omega
      have := len8_one _ this
      omega

theorem vget_none (l : List Nat) (h : findLow l 0 = -1 ∨ findLow l 0 > 9) : vget l = none := by
  rw [vget, if_neg]; omega
end Go.Proofs.Ytokmmcfnpobldaa

namespace Go.Proofs.Ytokmmcfnpobldaa
open Go Abs
set_option linter.unusedSimpArgs false
set_option linter.unusedVariables false

theorem conv3_31 (x : Int) (g : Heap) : stepConv Try.prog 3 31 (.int .i64 x) g = some { v := .int .u64 (IntKind.u64.wrap x) } := by simp [stepConv, Try.underlying3, Try.underlying31]

/-- One byte more, the number kept within 64 digits. -/
theorem vval_step' (l : List Nat) (k : Nat) (hk : k < l.length) (hc : l[k]?.getD 0 < 256) (hk9 : k ≤ 9) :
    bits .or .u64 ((vval (l.take k) : Nat) : Int) (IntKind.u64.wrap (IntKind.u64.wrap (bits .and .u8 ((l[k]?.getD 0 : Nat) : Int) 127) * 2 ^ (min ((7 * k : Nat) : Int).toNat IntKind.u64.bits))) = ((vval (l.take (k + 1)) % 2 ^ 64 : Nat) : Int) := by
  have h1 := vval_take l k hk
  have h2 : vval (l.take k) < 128 ^ k := by
    have := vval_lt (l.take k)
    rwa [List.length_take, Nat.min_eq_left (by omega)] at this
  have h3 : bits .and .u8 ((l[k]?.getD 0 : Nat) : Int) 127 = ((l[k]?.getD 0 % 128 : Nat) : Int) := by
    have := u8_and_nat (l[k]?.getD 0) 127 hc (by omega)
    rw [nat_mask7] at this
    exact this
  have h4 : ((l[k]?.getD 0 % 128 : Nat) : Int) * 2 ^ (min ((7 * k : Nat) : Int).toNat IntKind.u64.bits) = ((l[k]?.getD 0 % 128 * 128 ^ k : Nat) : Int) := by
    have : min ((7 * k : Nat) : Int).toNat IntKind.u64.bits = 7 * k := by rw [Int.toNat_natCast]; exact Nat.min_eq_left (by show 7 * k ≤ 64; omega)
    rw [this, show (128 : Nat) = 2 ^ 7 from rfl, ← Nat.pow_mul]
    simp
  have hp : 128 ^ k ≤ 2 ^ 63 := by
    rw [show (128 : Nat) = 2 ^ 7 from rfl, ← Nat.pow_mul]
    exact Nat.pow_le_pow_right (by omega) (by omega)
  have h5 : IntKind.u64.wrap ((l[k]?.getD 0 % 128 * 128 ^ k : Nat) : Int) = ((l[k]?.getD 0 % 128 * 128 ^ k % 2 ^ 64 : Nat) : Int) := by rw [IntKind.wrap_u64]; simp
  have hmod : l[k]?.getD 0 % 128 * 128 ^ k % 2 ^ 64 % 2 ^ (7 * k) = 0 := by
    rw [Nat.mod_mod_of_dvd _ (Nat.pow_dvd_pow 2 (show 7 * k ≤ 64 by omega)), Nat.pow_mul]
    exact Nat.mul_mod_left _ _
  rw [h3, wrapU64_of (x := ((l[k]?.getD 0 % 128 : Nat) : Int)) (by omega) (by have := Nat.mod_lt (l[k]?.getD 0) (show 128 > 0 by omega); omega), h4, h5, u64_or_nat _ _ (by omega) (Nat.mod_lt _ (by omega)), Nat.or_comm, nat_join (7 * k) _ _ hmod (by rw [Nat.pow_mul]; exact h2), h1]
  congr 1
  have h6 : l[k]?.getD 0 % 128 * 128 ^ k % 2 ^ 64 + vval (l.take k) < 2 ^ 64 := by
    have hd : 2 ^ (7 * k) ∣ 2 ^ 64 := Nat.pow_dvd_pow 2 (by omega)
    obtain ⟨q, hq⟩ := hd
    obtain ⟨r, hr⟩ := Nat.dvd_of_mod_eq_zero hmod
    have h7 : l[k]?.getD 0 % 128 * 128 ^ k % 2 ^ 64 < 2 ^ 64 := Nat.mod_lt _ (by omega)
    have h8 : vval (l.take k) < 2 ^ (7 * k) := by rw [Nat.pow_mul]; exact h2
    rw [hr, hq] at h7
    have h9 : r < q := Nat.lt_of_mul_lt_mul_left h7
    rw [hr, hq]
    have h10 : 2 ^ (7 * k) * (r + 1) ≤ 2 ^ (7 * k) * q := Nat.mul_le_mul_left _ h9
    rw [Nat.mul_add, Nat.mul_one] at h10
    omega
  omega

set_option maxRecDepth 10000 in
theorem rget_spec (v : Value) (l : List Nat) (g : Heap) (hl : l.length ≤ 2 ^ 40) (hb : ∀ i : Nat, l[i]?.getD 0 < 256) (hv : Src g v 1 l.length (bs l)) : FnSpec Try.prog 20 [v] g { v := gres (vget l), r := srcBlk v } := by
  refine spec_of_body [2, 3, 4] follows Try.func20 rfl (by kernel_rfl) (by simp [Try.f20]) (by kernel_rfl) rfl ?_
  intro g2 s2 n hg hfr hs hn hwf hsv
  have hv2 : Src g2 v 1 l.length (bs l) := hv.congr fun i hi => hg i (by simp [Eff.fp, hi])
  have hlen := hv2.len Try.underlying23
  have hdom : ∀ i ∈ srcBlk v, i < n := fun i hi => by
    obtain ⟨b, hb⟩ := Option.isSome_iff_exists.1 (hv2.dom i hi)
    exact hs i (hwf i b hb).1
  have tupRes : ∀ {t : Nat → Value}, (∃ x, t 2 = .int .u64 x) → (∃ x, t 3 = .int .i64 x) → (∃ x, t 4 = .bool x) → ([2, 3, 4].length ≠ 1 → ∀ r ∈ [2, 3, 4], isTup (t r) = false) := by
    rintro t ⟨x, hx⟩ ⟨y, hy⟩ ⟨z, hz⟩ _ r hr
    simp only [List.mem_cons, List.not_mem_nil, or_false] at hr
    rcases hr with rfl | rfl | rfl <;> simp [hx, hy, hz, isTup]
  have svg : ∀ r, SVT s2 (gres r) := by
    rintro (_ | ⟨x, y⟩) c hc <;> simp [gres] at hc <;> rcases hc with rfl | rfl | rfl <;> trivial
  refine s_run (by simp only [runL, List.drop_succ_cons, List.drop_zero, awant_some, Option.getD_some, List.getElem?_toArray, List.getElem?_cons_succ, List.getElem?_cons_zero, Option.bind_some, b_tt, b_tf, b_ft, b_ff, Bool.not_true, Bool.not_false, List.take_succ_cons, List.take_zero, awant_none, astep, evl, put, ap_none, ap_new, ap_wr, List.length_nil, List.length_cons, Nat.add_zero, Nat.zero_add, upd_app, stepBin, abin, stepUn, stepPick, stepExtract, stepCall, if_true, if_false, reduceCtorEq, ↓reduceIte, Nat.reduceEqDiff, Nat.reduceAdd, List.map_cons, List.map_nil, Option.map_some, Option.map_none, Bool.false_eq_true, Int.reduceLE, Int.reduceToNat, ne_eq, not_false_eq_true, and_self, and_true, true_and, decide_true, decide_false, Int.reduceEq, Int.reduceLT, Int.reduceBEq, Int.reduceBNe, not_true_eq_false, undef] <;> rfl) ?_
  refine s_run (by simp only [runL, List.drop_succ_cons, List.drop_zero, awant_some, Option.getD_some, List.getElem?_toArray, List.getElem?_cons_succ, List.getElem?_cons_zero, Option.bind_some, b_tt, b_tf, b_ft, b_ff, Bool.not_true, Bool.not_false, List.take_succ_cons, List.take_zero, awant_none, astep, evl, put, ap_none, ap_new, ap_wr, List.length_nil, List.length_cons, Nat.add_zero, Nat.zero_add, upd_app, stepBin, abin, stepUn, stepPick, stepExtract, stepCall, if_true, if_false, reduceCtorEq, ↓reduceIte, Nat.reduceEqDiff, Nat.reduceAdd, List.map_cons, List.map_nil, Option.map_some, Option.map_none, Bool.false_eq_true, Int.reduceLE, Int.reduceToNat, ne_eq, not_false_eq_true, and_self, and_true, true_and, decide_true, decide_false, Int.reduceEq, Int.reduceLT, Int.reduceBEq, Int.reduceBNe, not_true_eq_false, undef] <;> rfl) ?_
  refine w_assoc (s_run (by simp only [runL, List.drop_succ_cons, List.drop_zero, awant_some, Option.getD_some, List.getElem?_toArray, List.getElem?_cons_succ, List.getElem?_cons_zero, Option.bind_some, b_tt, b_tf, b_ft, b_ff, Bool.not_true, Bool.not_false, List.take_succ_cons, List.take_zero, awant_none, astep, evl, put, ap_none, ap_new, ap_wr, List.length_nil, List.length_cons, Nat.add_zero, Nat.zero_add, upd_app, stepBin, abin, stepUn, stepPick, stepExtract, stepCall, if_true, if_false, reduceCtorEq, ↓reduceIte, Nat.reduceEqDiff, Nat.reduceAdd, List.map_cons, List.map_nil, Option.map_some, Option.map_none, Bool.false_eq_true, Int.reduceLE, Int.reduceToNat, ne_eq, not_false_eq_true, and_self, and_true, true_and, decide_true, decide_false, Int.reduceEq, Int.reduceLT, Int.reduceBEq, Int.reduceBNe, not_true_eq_false, undef] <;> rfl) ?_)
  refine s_block (fun t g n' => vget l = none ∧ g2 = g) ?_ ?_
  · refine w_loop (fun t g n' => ∃ i : Nat, i ≤ l.length ∧ i ≤ 10 ∧ t 0 = v ∧ t 5 = .int .u64 ((vval (l.take i) % 2 ^ 64 : Nat) : Int) ∧ t 6 = .int .i64 i ∧ (∀ j : Nat, j < i → ¬ l[j]?.getD 0 < 128) ∧ g2 = g ∧ n = n')
      (fun t _ _ => match t 6 with | .int _ i => 10 - i.toNat | _ => 0) ⟨0, by omega, by omega, by simp [upd_app], by simp [upd_app, vval], by simp [upd_app], by omega, rfl, rfl⟩ ?_
    rintro t g n' ⟨i, hi, hi10, t0, t5, t6, hhigh, rfl, rfl⟩
    have hnf : ¬ (i < l.length ∧ i < 10) → vget l = none := fun h => by
      apply vget_none
      rcases findLow_lt l 0 with hf | ⟨e, he, hf, hlow, hh⟩
      · exact .inl hf
      · right
        rw [hf]
        have : ¬ e < i := fun h' => hhigh e h' hlow
        omega
    by_cases c1 : i < l.length
    · have d1 : decide ((i : Int) < (l.length : Int)) = true := by simp; exact c1
      by_cases c2 : i < 10
      · have d2 : decide ((i : Int) < 10) = true := by simp; omega
        refine w_assoc (s_run (by simp only [runL, List.drop_succ_cons, List.drop_zero, awant_some, Option.getD_some, List.getElem?_toArray, List.getElem?_cons_succ, List.getElem?_cons_zero, Option.bind_some, b_tt, b_tf, b_ft, b_ff, Bool.not_true, Bool.not_false, List.take_succ_cons, List.take_zero, awant_none, astep, evl, put, ap_none, ap_new, ap_wr, List.length_nil, List.length_cons, Nat.add_zero, Nat.zero_add, upd_app, stepBin, abin, stepUn, stepPick, stepExtract, stepCall, if_true, if_false, reduceCtorEq, ↓reduceIte, Nat.reduceEqDiff, Nat.reduceAdd, List.map_cons, List.map_nil, Option.map_some, Option.map_none, Bool.false_eq_true, Int.reduceLE, Int.reduceToNat, ne_eq, not_false_eq_true, and_self, and_true, true_and, decide_true, decide_false, Int.reduceEq, Int.reduceLT, Int.reduceBEq, Int.reduceBNe, not_true_eq_false, undef, t0, t6, hlen, d1, d2] <;> rfl) ?_)
        refine s_true (by simp [evl, upd_app]) (s_skip ?_)
        obtain ⟨p, hp1, hp2, _⟩ := hv2.at1 (P := Try.prog) (bs_at c1) Try.underlying23 tsize5 aggT5
        have hsmall : vval (l.take i) < 2 ^ 64 := by
          have h1 := vval_lt (l.take i)
          have h2 : 128 ^ (l.take i).length ≤ 2 ^ 63 := by
            rw [show (128 : Nat) = 2 ^ 7 from rfl, ← Nat.pow_mul]
            exact Nat.pow_le_pow_right (by omega) (by rw [List.length_take]; omega)
          omega
        rw [Nat.mod_eq_of_lt hsmall] at t5
        have w4 : IntKind.i64.wrap (7 * (i : Int)) = ((7 * i : Nat) : Int) := by rw [wrap64_of (by omega) (by omega)]; simp
        have w5 : IntKind.u64.wrap ((7 * i : Nat) : Int) = ((7 * i : Nat) : Int) := wrapU64_of (by omega) (by omega)
        have w6 : IntKind.i64.wrap ((i : Int) + 1) = ((i + 1 : Nat) : Int) := by rw [wrap64_of (by omega) (by omega)]; simp
        have hst := vval_step' l i c1 (hb i) (by omega)
        refine w_seq (w_block ?_)
        refine s_run (by simp only [runL, List.drop_succ_cons, List.drop_zero, awant_some, Option.getD_some, List.getElem?_toArray, List.getElem?_cons_succ, List.getElem?_cons_zero, Option.bind_some, b_tt, b_tf, b_ft, b_ff, Bool.not_true, Bool.not_false, List.take_succ_cons, List.take_zero, awant_none, astep, evl, put, ap_none, ap_new, ap_wr, List.length_nil, List.length_cons, Nat.add_zero, Nat.zero_add, upd_app, stepBin, abin, stepUn, stepPick, stepExtract, stepCall, if_true, if_false, reduceCtorEq, ↓reduceIte, Nat.reduceEqDiff, Nat.reduceAdd, List.map_cons, List.map_nil, Option.map_some, Option.map_none, Bool.false_eq_true, Int.reduceLE, Int.reduceToNat, ne_eq, not_false_eq_true, and_self, and_true, true_and, decide_true, decide_false, Int.reduceEq, Int.reduceLT, Int.reduceBEq, Int.reduceBNe, not_true_eq_false, undef, t0, t5, t6, hp1, hp2, conv5_22, conv3_31, w4, w5, hst, show (0 : Int) ≤ ((7 * i : Nat) : Int) from Int.natCast_nonneg _] <;> rfl) ?_
        refine s_run (by simp only [runL, List.drop_succ_cons, List.drop_zero, awant_some, Option.getD_some, List.getElem?_toArray, List.getElem?_cons_succ, List.getElem?_cons_zero, Option.bind_some, b_tt, b_tf, b_ft, b_ff, Bool.not_true, Bool.not_false, List.take_succ_cons, List.take_zero, awant_none, astep, evl, put, ap_none, ap_new, ap_wr, List.length_nil, List.length_cons, Nat.add_zero, Nat.zero_add, upd_app, stepBin, abin, stepUn, stepPick, stepExtract, stepCall, if_true, if_false, reduceCtorEq, ↓reduceIte, Nat.reduceEqDiff, Nat.reduceAdd, List.map_cons, List.map_nil, Option.map_some, Option.map_none, Bool.false_eq_true, Int.reduceLE, Int.reduceToNat, ne_eq, not_false_eq_true, and_self, and_true, true_and, decide_true, decide_false, Int.reduceEq, Int.reduceLT, Int.reduceBEq, Int.reduceBNe, not_true_eq_false, undef, t0, t5, t6, hp1, hp2] <;> rfl) ?_
        by_cases hlow : l[i]?.getD 0 < 128
        · refine w_true (by simp [evl, upd_app]; omega) ?_
          have hfi : findLow l 0 = (i : Int) := by
            rcases findLow_lt l 0 with hf | ⟨e, he, hf, hlow', hh⟩
            · exfalso
              have key : ∀ (l : List Nat) (k i : Nat), i < l.length → l[i]?.getD 0 < 128 → findLow l k ≠ -1 := by
                intro l
                induction l with
                | nil => intro k i hi; simp at hi
                | cons c l ih =>
                  intro k i hi hl
                  rw [findLow]
                  split
                  · omega
                  · cases i with
                    | zero => simp at hl; omega
                    | succ i => exact ih (k + 1) i (by simpa using hi) (by simpa using hl)
              exact key l 0 i c1 hlow hf
            · rw [hf, Nat.zero_add]
              have h1 : ¬ i < e := fun h => hh i h hlow
              have h2 : ¬ e < i := fun h => hhigh e h hlow'
              congr 1; omega
          have hve := vget_eq l i c1 hfi (by omega) hlow hhigh hb
          have hx : vval (l.take (i + 1)) % 2 ^ 64 < 2 ^ 64 := Nat.mod_lt _ (by omega)
          obtain ⟨v', hs1, hs2, hs3, hs4⟩ := hv2.slice Try.underlying23 tsize5 none (some (.int .i64 ((i + 1 : Nat) : Int))) 0 (i + 1) rfl rfl (by omega) (by omega)
          have hs5 : Src g2 v' 1 (l.take (i + 1)).length (bs (l.take (i + 1))) := by
            have h1 : (l.take (i + 1)).length = i + 1 := by simp; omega
            rw [h1]; simpa using hs2
          have hgrp := take_grp l i c1 hlow hhigh hb
          have hb' : ∀ x ∈ l.take (i + 1), x < 256 := fun x hx => by
            obtain ⟨j, hj, e⟩ := List.mem_iff_getElem.1 (List.mem_of_mem_take hx)
            have := hb j
            rw [List.getElem?_eq_getElem hj, e] at this
            exact this
          refine w_gen (fun t => t 0 = v ∧ t 5 = .int .u64 ((vval (l.take (i + 1)) % 2 ^ 64 : Nat) : Int) ∧ t 6 = .int .i64 i) (by simp [upd_app, t0, t6]) ?_
          clear t0 t5 t6 hst
          generalize vval (l.take (i + 1)) % 2 ^ 64 = x at hve hx
          rintro t ⟨t0, t5, t6⟩
          refine w_assoc (s_drawn #[0, 1, 3, 0, 0, 16, 56, 120, 255] (by decide +kernel) ?_)
          refine d_pure 1 (by simp only [runP, List.drop_succ_cons, List.drop_zero, awant_some, Option.getD_some, List.getElem?_toArray, List.getElem?_cons_succ, List.getElem?_cons_zero, Option.bind_some, b_tt, b_tf, b_ft, b_ff, Bool.not_true, Bool.not_false, List.take_succ_cons, List.take_zero, awant_none, astep, evl, put, ap_none, ap_new, ap_wr, List.length_nil, List.length_cons, Nat.add_zero, Nat.zero_add, upd_app, stepBin, abin, stepUn, stepPick, stepExtract, stepCall, if_true, if_false, reduceCtorEq, ↓reduceIte, Nat.reduceEqDiff, Nat.reduceAdd, List.map_cons, List.map_nil, Option.map_some, Option.map_none, Bool.false_eq_true, Int.reduceLE, Int.reduceToNat, ne_eq, not_false_eq_true, and_self, and_true, true_and, decide_true, decide_false, Int.reduceEq, Int.reduceLT, Int.reduceBEq, Int.reduceBNe, not_true_eq_false, undef, List.isEmpty_nil, Bool.and_self, Bool.and_true, t5] <;> rfl) ?_
          refine d_call 18 _ rfl rfl rfl rfl (rput_spec x hx _ _) (by intro _; rfl) (by simp) (d_heap fun G hG => ?_)
          obtain ⟨r, hr, hr2⟩ := src_str (g := G) (src_own (k := n) (e := 5) (l := vput x) (by simp [hG, ap_new, upd_app]))
          refine d_step { v := .string (nstr (vput x)), r := r } (by simp only [runL, List.drop_succ_cons, List.drop_zero, awant_some, Option.getD_some, List.getElem?_toArray, List.getElem?_cons_succ, List.getElem?_cons_zero, Option.bind_some, b_tt, b_tf, b_ft, b_ff, Bool.not_true, Bool.not_false, List.take_succ_cons, List.take_zero, awant_none, astep, evl, put, ap_none, ap_new, ap_wr, List.length_nil, List.length_cons, Nat.add_zero, Nat.zero_add, upd_app, stepBin, abin, stepUn, stepPick, stepExtract, stepCall, if_true, if_false, reduceCtorEq, ↓reduceIte, Nat.reduceEqDiff, Nat.reduceAdd, List.map_cons, List.map_nil, Option.map_some, Option.map_none, Bool.false_eq_true, Int.reduceLE, Int.reduceToNat, ne_eq, not_false_eq_true, and_self, and_true, true_and, decide_true, decide_false, Int.reduceEq, Int.reduceLT, Int.reduceBEq, Int.reduceBNe, not_true_eq_false, undef, hr]) rfl (by intro p hp; simp only [List.mem_singleton] at hp; subst hp; exact .inl (bit_of 2 1 rfl rfl (by decide +kernel))) ?_
          refine d_pure 4 (by simp only [runP, List.drop_succ_cons, List.drop_zero, awant_some, Option.getD_some, List.getElem?_toArray, List.getElem?_cons_succ, List.getElem?_cons_zero, Option.bind_some, b_tt, b_tf, b_ft, b_ff, Bool.not_true, Bool.not_false, List.take_succ_cons, List.take_zero, awant_none, astep, evl, put, ap_none, ap_new, ap_wr, List.length_nil, List.length_cons, Nat.add_zero, Nat.zero_add, upd_app, stepBin, abin, stepUn, stepPick, stepExtract, stepCall, if_true, if_false, reduceCtorEq, ↓reduceIte, Nat.reduceEqDiff, Nat.reduceAdd, List.map_cons, List.map_nil, Option.map_some, Option.map_none, Bool.false_eq_true, Int.reduceLE, Int.reduceToNat, ne_eq, not_false_eq_true, and_self, and_true, true_and, decide_true, decide_false, Int.reduceEq, Int.reduceLT, Int.reduceBEq, Int.reduceBNe, not_true_eq_false, undef, List.isEmpty_nil, Bool.and_self, Bool.and_true, t0, t6, w6, hs1] <;> rfl) ?_
          have hs6 : Src G v' 1 (l.take (i + 1)).length (bs (l.take (i + 1))) := hs5.congr fun k hk => by
            have := hdom k (hs3 k hk)
            rw [hG]
            simp [ap_new, upd_app]
            omega
          obtain ⟨r', hr', hr2'⟩ := src_str hs6
          refine d_step { v := .string (nstr (l.take (i + 1))), r := r' } (by simp only [runL, List.drop_succ_cons, List.drop_zero, awant_some, Option.getD_some, List.getElem?_toArray, List.getElem?_cons_succ, List.getElem?_cons_zero, Option.bind_some, b_tt, b_tf, b_ft, b_ff, Bool.not_true, Bool.not_false, List.take_succ_cons, List.take_zero, awant_none, astep, evl, put, ap_none, ap_new, ap_wr, List.length_nil, List.length_cons, Nat.add_zero, Nat.zero_add, upd_app, stepBin, abin, stepUn, stepPick, stepExtract, stepCall, if_true, if_false, reduceCtorEq, ↓reduceIte, Nat.reduceEqDiff, Nat.reduceAdd, List.map_cons, List.map_nil, Option.map_some, Option.map_none, Bool.false_eq_true, Int.reduceLE, Int.reduceToNat, ne_eq, not_false_eq_true, and_self, and_true, true_and, decide_true, decide_false, Int.reduceEq, Int.reduceLT, Int.reduceBEq, Int.reduceBNe, not_true_eq_false, undef, hr']) rfl ?_ ?_
          · intro p hp
            simp only [List.mem_cons, List.not_mem_nil, or_false] at hp
            rcases hp with rfl | rfl
            · right; simp [Eff.wr]
            · right
              simp only [Eff.wr, List.map_nil, List.length_nil, List.range'_zero, List.append_nil, List.not_mem_nil, not_false_eq_true, and_true, implies_true]
              intro k hk hk'
              simp at hk
              have := hdom k (hs3 k (hr2' k hk'))
              omega
          refine d_pure 1 (by simp only [runP, List.drop_succ_cons, List.drop_zero, awant_some, Option.getD_some, List.getElem?_toArray, List.getElem?_cons_succ, List.getElem?_cons_zero, Option.bind_some, b_tt, b_tf, b_ft, b_ff, Bool.not_true, Bool.not_false, List.take_succ_cons, List.take_zero, awant_none, astep, evl, put, ap_none, ap_new, ap_wr, List.length_nil, List.length_cons, Nat.add_zero, Nat.zero_add, upd_app, stepBin, abin, stepUn, stepPick, stepExtract, stepCall, if_true, if_false, reduceCtorEq, ↓reduceIte, Nat.reduceEqDiff, Nat.reduceAdd, List.map_cons, List.map_nil, Option.map_some, Option.map_none, Bool.false_eq_true, Int.reduceLE, Int.reduceToNat, ne_eq, not_false_eq_true, and_self, and_true, true_and, decide_true, decide_false, Int.reduceEq, Int.reduceLT, Int.reduceBEq, Int.reduceBNe, not_true_eq_false, undef, List.isEmpty_nil, Bool.and_self, Bool.and_true, nstr_beq (vput_256 x) hb'] <;> rfl) ?_
          have hold : ∀ i b, g2 i = some b → G i = some b := fun k b hk => by
            have := hs k (hwf k b hk).1
            rw [hG]
            simp [ap_new, upd_app, show k ≠ n by omega, hk]
          by_cases heq : vput x = l.take (i + 1)
          · rw [if_pos heq] at hve
            refine s_false (by simp [evl, put, upd_app, heq]) (s_skip ?_)
            refine s_run (by simp only [runL, List.drop_succ_cons, List.drop_zero, awant_some, Option.getD_some, List.getElem?_toArray, List.getElem?_cons_succ, List.getElem?_cons_zero, Option.bind_some, b_tt, b_tf, b_ft, b_ff, Bool.not_true, Bool.not_false, List.take_succ_cons, List.take_zero, awant_none, astep, evl, put, ap_none, ap_new, ap_wr, List.length_nil, List.length_cons, Nat.add_zero, Nat.zero_add, upd_app, stepBin, abin, stepUn, stepPick, stepExtract, stepCall, if_true, if_false, reduceCtorEq, ↓reduceIte, Nat.reduceEqDiff, Nat.reduceAdd, List.map_cons, List.map_nil, Option.map_some, Option.map_none, Bool.false_eq_true, Int.reduceLE, Int.reduceToNat, ne_eq, not_false_eq_true, and_self, and_true, true_and, decide_true, decide_false, Int.reduceEq, Int.reduceLT, Int.reduceBEq, Int.reduceBNe, not_true_eq_false, undef, t5, t6, w6] <;> rfl) ?_
            refine w_ret ⟨.inr rfl, tupRes ⟨_, rfl⟩ ⟨_, rfl⟩ ⟨_, rfl⟩, [], fin_none ?_ (svg _) hold⟩
            simp [resVal, upd_app, hve, gres]
          · rw [if_neg heq] at hve
            refine s_true (by simp [evl, put, upd_app, heq]) ?_
            refine w_assoc (s_run (by simp only [runL, List.drop_succ_cons, List.drop_zero, awant_some, Option.getD_some, List.getElem?_toArray, List.getElem?_cons_succ, List.getElem?_cons_zero, Option.bind_some, b_tt, b_tf, b_ft, b_ff, Bool.not_true, Bool.not_false, List.take_succ_cons, List.take_zero, awant_none, astep, evl, put, ap_none, ap_new, ap_wr, List.length_nil, List.length_cons, Nat.add_zero, Nat.zero_add, upd_app, stepBin, abin, stepUn, stepPick, stepExtract, stepCall, if_true, if_false, reduceCtorEq, ↓reduceIte, Nat.reduceEqDiff, Nat.reduceAdd, List.map_cons, List.map_nil, Option.map_some, Option.map_none, Bool.false_eq_true, Int.reduceLE, Int.reduceToNat, ne_eq, not_false_eq_true, and_self, and_true, true_and, decide_true, decide_false, Int.reduceEq, Int.reduceLT, Int.reduceBEq, Int.reduceBNe, not_true_eq_false, undef, t5, t6, w6] <;> rfl) ?_)
            refine s_ret ⟨.inr rfl, tupRes ⟨_, rfl⟩ ⟨_, rfl⟩ ⟨_, rfl⟩, [], fin_none ?_ (svg _) hold⟩
            simp [resVal, upd_app, hve, gres]
        · refine w_false (by simp [evl, upd_app]; omega) (w_skip ?_)
          refine region_run (id := 4) (by simp only [runL, List.drop_succ_cons, List.drop_zero, awant_some, Option.getD_some, List.getElem?_toArray, List.getElem?_cons_succ, List.getElem?_cons_zero, Option.bind_some, b_tt, b_tf, b_ft, b_ff, Bool.not_true, Bool.not_false, List.take_succ_cons, List.take_zero, awant_none, astep, evl, put, ap_none, ap_new, ap_wr, List.length_nil, List.length_cons, Nat.add_zero, Nat.zero_add, upd_app, stepBin, abin, stepUn, stepPick, stepExtract, stepCall, if_true, if_false, reduceCtorEq, ↓reduceIte, Nat.reduceEqDiff, Nat.reduceAdd, List.map_cons, List.map_nil, Option.map_some, Option.map_none, Bool.false_eq_true, Int.reduceLE, Int.reduceToNat, ne_eq, not_false_eq_true, and_self, and_true, true_and, decide_true, decide_false, Int.reduceEq, Int.reduceLT, Int.reduceBEq, Int.reduceBNe, not_true_eq_false, undef, t6, w6] <;> rfl) ?_
          refine ⟨⟨i + 1, by omega, by omega, by simp [upd_app, t0], by simp [upd_app], by simp [upd_app], fun j hj => ?_, rfl, rfl⟩, ?_⟩
          · by_cases e : j = i
            · rw [e]; exact hlow
            · exact hhigh j (by omega)
          · rw [t6]
            simp only [upd_app, if_true, Int.toNat_natCast]
            omega
      · have d2 : decide ((i : Int) < 10) = false := by simp; omega
        refine w_assoc (s_run (by simp only [runL, List.drop_succ_cons, List.drop_zero, awant_some, Option.getD_some, List.getElem?_toArray, List.getElem?_cons_succ, List.getElem?_cons_zero, Option.bind_some, b_tt, b_tf, b_ft, b_ff, Bool.not_true, Bool.not_false, List.take_succ_cons, List.take_zero, awant_none, astep, evl, put, ap_none, ap_new, ap_wr, List.length_nil, List.length_cons, Nat.add_zero, Nat.zero_add, upd_app, stepBin, abin, stepUn, stepPick, stepExtract, stepCall, if_true, if_false, reduceCtorEq, ↓reduceIte, Nat.reduceEqDiff, Nat.reduceAdd, List.map_cons, List.map_nil, Option.map_some, Option.map_none, Bool.false_eq_true, Int.reduceLE, Int.reduceToNat, ne_eq, not_false_eq_true, and_self, and_true, true_and, decide_true, decide_false, Int.reduceEq, Int.reduceLT, Int.reduceBEq, Int.reduceBNe, not_true_eq_false, undef, t0, t6, hlen, d1, d2] <;> rfl) ?_)
        refine s_false (by simp [evl, upd_app]) (s_exit ?_)
        exact ⟨hnf (by omega), rfl⟩
    · have d1 : decide ((i : Int) < (l.length : Int)) = false := by simp; omega
      refine w_assoc (s_run (by simp only [runL, List.drop_succ_cons, List.drop_zero, awant_some, Option.getD_some, List.getElem?_toArray, List.getElem?_cons_succ, List.getElem?_cons_zero, Option.bind_some, b_tt, b_tf, b_ft, b_ff, Bool.not_true, Bool.not_false, List.take_succ_cons, List.take_zero, awant_none, astep, evl, put, ap_none, ap_new, ap_wr, List.length_nil, List.length_cons, Nat.add_zero, Nat.zero_add, upd_app, stepBin, abin, stepUn, stepPick, stepExtract, stepCall, if_true, if_false, reduceCtorEq, ↓reduceIte, Nat.reduceEqDiff, Nat.reduceAdd, List.map_cons, List.map_nil, Option.map_some, Option.map_none, Bool.false_eq_true, Int.reduceLE, Int.reduceToNat, ne_eq, not_false_eq_true, and_self, and_true, true_and, decide_true, decide_false, Int.reduceEq, Int.reduceLT, Int.reduceBEq, Int.reduceBNe, not_true_eq_false, undef, t0, t6, hlen, d1] <;> rfl) ?_)
      refine s_false (by simp [evl, upd_app]) (s_exit ?_)
      exact ⟨hnf (by omega), rfl⟩
  · rintro t g n' ⟨h1, rfl⟩
    refine s_run (by simp only [runL, List.drop_succ_cons, List.drop_zero, awant_some, Option.getD_some, List.getElem?_toArray, List.getElem?_cons_succ, List.getElem?_cons_zero, Option.bind_some, b_tt, b_tf, b_ft, b_ff, Bool.not_true, Bool.not_false, List.take_succ_cons, List.take_zero, awant_none, astep, evl, put, ap_none, ap_new, ap_wr, List.length_nil, List.length_cons, Nat.add_zero, Nat.zero_add, upd_app, stepBin, abin, stepUn, stepPick, stepExtract, stepCall, if_true, if_false, reduceCtorEq, ↓reduceIte, Nat.reduceEqDiff, Nat.reduceAdd, List.map_cons, List.map_nil, Option.map_some, Option.map_none, Bool.false_eq_true, Int.reduceLE, Int.reduceToNat, ne_eq, not_false_eq_true, and_self, and_true, true_and, decide_true, decide_false, Int.reduceEq, Int.reduceLT, Int.reduceBEq, Int.reduceBNe, not_true_eq_false, undef] <;> rfl) ?_
    refine w_ret ⟨.inr rfl, tupRes ⟨_, rfl⟩ ⟨_, rfl⟩ ⟨_, rfl⟩, [], fin_none ?_ (svg _) (fun _ _ h => h)⟩
    simp [resVal, upd_app, h1, gres]
end Go.Proofs.Ytokmmcfnpobldaa

namespace Go.Proofs.Ytokmmcfnpobldaa
open Go Abs
set_option linter.unusedSimpArgs false
set_option linter.unusedVariables false

theorem findLow_grp (p m : List Nat) (h : isGrp p) (k : Nat) : findLow (p ++ m) k = ((k + (p.length - 1) : Nat) : Int) := by
  induction p generalizing k with
  | nil => exact h.elim
  | cons c p ih =>
    rcases h with ⟨h1, rfl⟩ | ⟨h1, h2, h3⟩
    · simp [findLow, h1]
    · have hp : 0 < p.length := by cases p with
        | nil => exact h3.elim
        | cons => simp
      simp only [List.cons_append, findLow, if_neg (show ¬ c < 128 by omega), ih h3, List.length_cons]
      congr 1; omega

theorem vput_pos (v : Nat) : 0 < (vput v).length := List.length_pos_iff.2 (vput_ne_nil v)

theorem vget_vput (v : Nat) (hv : v < 2 ^ 64) (m : List Nat) (hm : ∀ x ∈ m, x < 256) : vget (vput v ++ m) = some (v, (vput v).length) := by
  have hf := findLow_grp (vput v) m (vput_grp v) 0
  have hpos := vput_pos v
  have h10 := vput_len10 v hv
  rw [Nat.zero_add] at hf
  rcases findLow_lt (vput v ++ m) 0 with h | ⟨e, he, h1, hlow, hhigh⟩
  · rw [hf] at h; omega
  · rw [h1, Nat.zero_add] at hf
    have he' : e = (vput v).length - 1 := by omega
    have ht : (vput v ++ m).take (e + 1) = vput v := by rw [show e + 1 = (vput v).length by omega]; simp
    have hb : ∀ x ∈ vput v ++ m, x < 256 := fun x hx => by
      rcases List.mem_append.1 hx with h | h
      · exact vput_256 v x h
      · exact hm x h
    rw [vget_eq _ e he (by rw [h1, Nat.zero_add]) (by omega) hlow hhigh (getD_256 hb), ht, vval_vput, Nat.mod_eq_of_lt hv, if_pos rfl, show e + 1 = (vput v).length by omega]

theorem lit0 (j : Nat) : stepBuildSlice Try.prog 23 0 [] j = some { v := .slice (some ⟨j, 0, some 0⟩) 0 1, j := j, a := [⟨false, 5, []⟩] } := build_nil Try.underlying23 tinf5 _

set_option maxRecDepth 10000 in
theorem lawPuts_spec (a : Nat) (ha : a < 2 ^ 64) (v : Value) (l : List Nat) (g : Heap) (hb : ∀ x ∈ l, x < 256) (hv : Src g v 1 l.length (bs l)) : FnSpec Try.prog 3 [.int .u64 a, v] g { v := .bool true, r := srcBlk v } := by
  refine spec_of_body [4] follows Try.func3 rfl (by kernel_rfl) (by simp [Try.f3]) (by kernel_rfl) rfl ?_
  intro g2 s2 n hg hfr hs hn hwf hsv
  have hv2 : Src g2 v 1 l.length (bs l) := hv.congr fun i hi => hg i (by simp [Eff.fp, hi])
  have hlen := hv2.len Try.underlying23
  have hdom : ∀ i ∈ srcBlk v, i < n := fun i hi => by
    obtain ⟨b, hb⟩ := Option.isSome_iff_exists.1 (hv2.dom i hi)
    exact hs i (hwf i b hb).1
  refine s_run (by simp only [runL, List.drop_succ_cons, List.drop_zero, awant_some, Option.getD_some, List.getElem?_toArray, List.getElem?_cons_succ, List.getElem?_cons_zero, Option.bind_some, b_tt, b_tf, b_ft, b_ff, Bool.not_true, Bool.not_false, List.take_succ_cons, List.take_zero, awant_none, astep, evl, put, ap_none, ap_new, ap_wr, List.length_nil, List.length_cons, Nat.add_zero, Nat.zero_add, upd_app, stepBin, abin, stepUn, stepPick, stepExtract, stepCall, if_true, if_false, reduceCtorEq, ↓reduceIte, Nat.reduceEqDiff, Nat.reduceAdd, List.map_cons, List.map_nil, Option.map_some, Option.map_none, Bool.false_eq_true, Int.reduceLE, Int.reduceToNat, ne_eq, not_false_eq_true, and_self, and_true, true_and, decide_true, decide_false, Int.reduceEq, Int.reduceLT, Int.reduceBEq, Int.reduceBNe, not_true_eq_false, undef] <;> rfl) ?_
  refine w_assoc (s_run (by simp only [runL, List.drop_succ_cons, List.drop_zero, awant_some, Option.getD_some, List.getElem?_toArray, List.getElem?_cons_succ, List.getElem?_cons_zero, Option.bind_some, b_tt, b_tf, b_ft, b_ff, Bool.not_true, Bool.not_false, List.take_succ_cons, List.take_zero, awant_none, astep, evl, put, ap_none, ap_new, ap_wr, List.length_nil, List.length_cons, Nat.add_zero, Nat.zero_add, upd_app, stepBin, abin, stepUn, stepPick, stepExtract, stepCall, if_true, if_false, reduceCtorEq, ↓reduceIte, Nat.reduceEqDiff, Nat.reduceAdd, List.map_cons, List.map_nil, Option.map_some, Option.map_none, Bool.false_eq_true, Int.reduceLE, Int.reduceToNat, ne_eq, not_false_eq_true, and_self, and_true, true_and, decide_true, decide_false, Int.reduceEq, Int.reduceLT, Int.reduceBEq, Int.reduceBNe, not_true_eq_false, undef, List.getElem?_cons_zero, Option.getD_some, hlen] <;> rfl) ?_)
  by_cases h50 : l.length ≤ 50
  · refine s_false (by simp [evl, upd_app]; omega) (s_skip ?_)
    refine s_take 1 (by simp only [runL, List.drop_succ_cons, List.drop_zero, awant_some, Option.getD_some, List.getElem?_toArray, List.getElem?_cons_succ, List.getElem?_cons_zero, Option.bind_some, b_tt, b_tf, b_ft, b_ff, Bool.not_true, Bool.not_false, List.take_succ_cons, List.take_zero, awant_none, astep, evl, put, ap_none, ap_new, ap_wr, List.length_nil, List.length_cons, Nat.add_zero, Nat.zero_add, upd_app, stepBin, abin, stepUn, stepPick, stepExtract, stepCall, if_true, if_false, reduceCtorEq, ↓reduceIte, Nat.reduceEqDiff, Nat.reduceAdd, List.map_cons, List.map_nil, Option.map_some, Option.map_none, Bool.false_eq_true, Int.reduceLE, Int.reduceToNat, ne_eq, not_false_eq_true, and_self, and_true, true_and, decide_true, decide_false, Int.reduceEq, Int.reduceLT, Int.reduceBEq, Int.reduceBNe, not_true_eq_false, undef] <;> rfl) ?_
    refine ops_call 16 _ rfl (put_spec a ha _ _) (by intro _; rfl) (ops_heap fun G1 hG1 => ?_)
    refine ops_run (by simp only [runL, List.drop_succ_cons, List.drop_zero, awant_some, Option.getD_some, List.getElem?_toArray, List.getElem?_cons_succ, List.getElem?_cons_zero, Option.bind_some, b_tt, b_tf, b_ft, b_ff, Bool.not_true, Bool.not_false, List.take_succ_cons, List.take_zero, awant_none, astep, evl, put, ap_none, ap_new, ap_wr, List.length_nil, List.length_cons, Nat.add_zero, Nat.zero_add, upd_app, stepBin, abin, stepUn, stepPick, stepExtract, stepCall, if_true, if_false, reduceCtorEq, ↓reduceIte, Nat.reduceEqDiff, Nat.reduceAdd, List.map_cons, List.map_nil, Option.map_some, Option.map_none, Bool.false_eq_true, Int.reduceLE, Int.reduceToNat, ne_eq, not_false_eq_true, and_self, and_true, true_and, decide_true, decide_false, Int.reduceEq, Int.reduceLT, Int.reduceBEq, Int.reduceBNe, not_true_eq_false, undef] <;> rfl) ?_
    refine w_gen (fun t => t 0 = .int .u64 a ∧ t 1 = v ∧ t 5 = .slice (some ⟨n, 0, some (vput a).length⟩) (vput a).length 1) (by simp [upd_app]) ?_
    rintro t ⟨t0, t1, t5⟩
    refine s_take 2 (by simp only [runL, List.drop_succ_cons, List.drop_zero, awant_some, Option.getD_some, List.getElem?_toArray, List.getElem?_cons_succ, List.getElem?_cons_zero, Option.bind_some, b_tt, b_tf, b_ft, b_ff, Bool.not_true, Bool.not_false, List.take_succ_cons, List.take_zero, awant_none, astep, evl, put, ap_none, ap_new, ap_wr, List.length_nil, List.length_cons, Nat.add_zero, Nat.zero_add, upd_app, stepBin, abin, stepUn, stepPick, stepExtract, stepCall, if_true, if_false, reduceCtorEq, ↓reduceIte, Nat.reduceEqDiff, Nat.reduceAdd, List.map_cons, List.map_nil, Option.map_some, Option.map_none, Bool.false_eq_true, Int.reduceLE, Int.reduceToNat, ne_eq, not_false_eq_true, and_self, and_true, true_and, decide_true, decide_false, Int.reduceEq, Int.reduceLT, Int.reduceBEq, Int.reduceBNe, not_true_eq_false, undef, t5, lit0] <;> rfl) ?_
    refine ops_heap fun G2 hG2 => ?_
    have e2 : ∀ k, k < n → G2 k = g2 k := fun k hk => by rw [hG2]; simp [upd_app, hG1, ap_new]; rw [if_neg (by omega), if_neg (by omega)]
    have e2n : G2 n = some ⟨false, 5, bs (vput a)⟩ := by rw [hG2]; simp [upd_app, hG1, ap_new]
    have o2 : OwnI 5 1 G2 (.slice (some ⟨n + 1, 0, some 0⟩) 0 1) 0 [] (some (n + 1)) := .inr ⟨n + 1, rfl, rfl, by rw [hG2]; simp [upd_app], rfl⟩
    have h10 := vput_len10 a ha
    obtain ⟨f3, i3, hf3, o3, hi3, hk3⟩ := own_append (P := Try.prog) (n := n + 1 + 1) (T := 23) o2 (src_own (l := vput a) e2n).cells (by simp) Try.underlying23 tinf5 (by omega) (by omega) (by omega)
    rcases hi3 with ⟨rfl, ha3⟩ | ⟨h, _⟩
    case inr => cases h
    refine ops_step f3 (by simp only [runL, List.drop_succ_cons, List.drop_zero, awant_some, Option.getD_some, List.getElem?_toArray, List.getElem?_cons_succ, List.getElem?_cons_zero, Option.bind_some, b_tt, b_tf, b_ft, b_ff, Bool.not_true, Bool.not_false, List.take_succ_cons, List.take_zero, awant_none, astep, evl, put, ap_none, ap_new, ap_wr, List.length_nil, List.length_cons, Nat.add_zero, Nat.zero_add, upd_app, stepBin, abin, stepUn, stepPick, stepExtract, stepCall, if_true, if_false, reduceCtorEq, ↓reduceIte, Nat.reduceEqDiff, Nat.reduceAdd, List.map_cons, List.map_nil, Option.map_some, Option.map_none, Bool.false_eq_true, Int.reduceLE, Int.reduceToNat, ne_eq, not_false_eq_true, and_self, and_true, true_and, decide_true, decide_false, Int.reduceEq, Int.reduceLT, Int.reduceBEq, Int.reduceBNe, not_true_eq_false, undef, t5, hf3]) rfl (ops_heap fun G3 hG3 => ?_)
    rw [← hG3] at o3 hk3
    refine ops_take 1 (by simp only [runL, List.drop_succ_cons, List.drop_zero, awant_some, Option.getD_some, List.getElem?_toArray, List.getElem?_cons_succ, List.getElem?_cons_zero, Option.bind_some, b_tt, b_tf, b_ft, b_ff, Bool.not_true, Bool.not_false, List.take_succ_cons, List.take_zero, awant_none, astep, evl, put, ap_none, ap_new, ap_wr, List.length_nil, List.length_cons, Nat.add_zero, Nat.zero_add, upd_app, stepBin, abin, stepUn, stepPick, stepExtract, stepCall, if_true, if_false, reduceCtorEq, ↓reduceIte, Nat.reduceEqDiff, Nat.reduceAdd, List.map_cons, List.map_nil, Option.map_some, Option.map_none, Bool.false_eq_true, Int.reduceLE, Int.reduceToNat, ne_eq, not_false_eq_true, and_self, and_true, true_and, decide_true, decide_false, Int.reduceEq, Int.reduceLT, Int.reduceBEq, Int.reduceBNe, not_true_eq_false, undef, t1] <;> rfl) ?_
    have hv3 : Src G3 v 1 l.length (bs l) := hv2.congr fun k hk => by
      have := hdom k hk
      rw [hk3 k (by omega) (by simp; omega), e2 k this]
    obtain ⟨f4, i4, hf4, o4, hi4, hk4⟩ := own_append (P := Try.prog) (n := n + 1 + 1) (T := 23) o3 hv3.cells (by simp) Try.underlying23 tinf5 (by omega) (by omega) (by omega)
    rcases hi4 with ⟨rfl, ha4⟩ | ⟨h, _⟩
    case inr => cases h
    refine ops_step f4 (by simp only [runL, List.drop_succ_cons, List.drop_zero, awant_some, Option.getD_some, List.getElem?_toArray, List.getElem?_cons_succ, List.getElem?_cons_zero, Option.bind_some, b_tt, b_tf, b_ft, b_ff, Bool.not_true, Bool.not_false, List.take_succ_cons, List.take_zero, awant_none, astep, evl, put, ap_none, ap_new, ap_wr, List.length_nil, List.length_cons, Nat.add_zero, Nat.zero_add, upd_app, stepBin, abin, stepUn, stepPick, stepExtract, stepCall, if_true, if_false, reduceCtorEq, ↓reduceIte, Nat.reduceEqDiff, Nat.reduceAdd, List.map_cons, List.map_nil, Option.map_some, Option.map_none, Bool.false_eq_true, Int.reduceLE, Int.reduceToNat, ne_eq, not_false_eq_true, and_self, and_true, true_and, decide_true, decide_false, Int.reduceEq, Int.reduceLT, Int.reduceBEq, Int.reduceBNe, not_true_eq_false, undef, hf4, ha3]) rfl (ops_heap fun G4 hG4 => ?_)
    rw [← hG4] at o4 hk4
    have hcells : [] ++ bs (vput a) ++ bs l = bs (vput a ++ l) := by simp
    have hm : 0 + (vput a).length + l.length = (vput a ++ l).length := by simp
    rw [hcells, hm] at o4
    have hb4 : ∀ x ∈ vput a ++ l, x < 256 := fun x hx => by
      rcases List.mem_append.1 hx with h | h
      · exact vput_256 a x h
      · exact hb x h
    refine ops_call 17 _ rfl (get_spec f4.v (vput a ++ l) G4 (by rw [← hm]; omega) (getD_256 hb4) o4.toSrc) (by simp) ?_
    rw [vget_vput a ha l hb]
    refine ops_run (by simp only [runL, List.drop_succ_cons, List.drop_zero, awant_some, Option.getD_some, List.getElem?_toArray, List.getElem?_cons_succ, List.getElem?_cons_zero, Option.bind_some, b_tt, b_tf, b_ft, b_ff, Bool.not_true, Bool.not_false, List.take_succ_cons, List.take_zero, awant_none, astep, evl, put, ap_none, ap_new, ap_wr, List.length_nil, List.length_cons, Nat.add_zero, Nat.zero_add, upd_app, stepBin, abin, stepUn, stepPick, stepExtract, stepCall, if_true, if_false, reduceCtorEq, ↓reduceIte, Nat.reduceEqDiff, Nat.reduceAdd, List.map_cons, List.map_nil, Option.map_some, Option.map_none, Bool.false_eq_true, Int.reduceLE, Int.reduceToNat, ne_eq, not_false_eq_true, and_self, and_true, true_and, decide_true, decide_false, Int.reduceEq, Int.reduceLT, Int.reduceBEq, Int.reduceBNe, not_true_eq_false, undef, gres] <;> rfl) ?_
    have e4n : G4 n = some ⟨false, 5, bs (vput a)⟩ := by
      rw [hk4 n (by omega) (by simp), hk3 n (by omega) (by simp), e2n]
    have e4 : ∀ k, k < n → G4 k = g2 k := fun k hk => by
      rw [hk4 k (by omega) (by simp; omega), hk3 k (by omega) (by simp; omega), e2 k hk]
    refine w_gen (fun t => t 0 = .int .u64 a ∧ t 5 = .slice (some ⟨n, 0, some (vput a).length⟩) (vput a).length 1 ∧ t 6 = .int .u64 a ∧ t 7 = .int .i64 (vput a).length ∧ t 8 = .bool true) (by simp [upd_app, put, t0, t5]) ?_
    clear t0 t1 t5
    rintro t ⟨t0, t5, t6, t7, t8⟩
    simp only [ha4, ha3, List.length_nil, Nat.add_zero]
    refine s_drawn #[0, 1, 0, 4, 12, 31, 63, 127, 255, 511, 1023, 1023, 4095, 8191, 16383, 32767, 32767, 98303, 262143, 524287, 1048575, 2097151, 4194303, 8388607] (by decide +kernel) ?_
    obtain ⟨r1, hr1, hr1'⟩ := src_str (src_own e4n)
    refine d_pure 1 (by simp only [runP, List.drop_succ_cons, List.drop_zero, awant_some, Option.getD_some, List.getElem?_toArray, List.getElem?_cons_succ, List.getElem?_cons_zero, Option.bind_some, b_tt, b_tf, b_ft, b_ff, Bool.not_true, Bool.not_false, List.take_succ_cons, List.take_zero, awant_none, astep, evl, put, ap_none, ap_new, ap_wr, List.length_nil, List.length_cons, Nat.add_zero, Nat.zero_add, upd_app, stepBin, abin, stepUn, stepPick, stepExtract, stepCall, if_true, if_false, reduceCtorEq, ↓reduceIte, Nat.reduceEqDiff, Nat.reduceAdd, List.map_cons, List.map_nil, Option.map_some, Option.map_none, Bool.false_eq_true, Int.reduceLE, Int.reduceToNat, ne_eq, not_false_eq_true, and_self, and_true, true_and, decide_true, decide_false, Int.reduceEq, Int.reduceLT, Int.reduceBEq, Int.reduceBNe, not_true_eq_false, undef, List.isEmpty_nil, Bool.and_self, Bool.and_true, t5] <;> rfl) ?_
    refine d_step { v := .string (nstr (vput a)), r := r1 } (by simp only [runL, List.drop_succ_cons, List.drop_zero, awant_some, Option.getD_some, List.getElem?_toArray, List.getElem?_cons_succ, List.getElem?_cons_zero, Option.bind_some, b_tt, b_tf, b_ft, b_ff, Bool.not_true, Bool.not_false, List.take_succ_cons, List.take_zero, awant_none, astep, evl, put, ap_none, ap_new, ap_wr, List.length_nil, List.length_cons, Nat.add_zero, Nat.zero_add, upd_app, stepBin, abin, stepUn, stepPick, stepExtract, stepCall, if_true, if_false, reduceCtorEq, ↓reduceIte, Nat.reduceEqDiff, Nat.reduceAdd, List.map_cons, List.map_nil, Option.map_some, Option.map_none, Bool.false_eq_true, Int.reduceLE, Int.reduceToNat, ne_eq, not_false_eq_true, and_self, and_true, true_and, decide_true, decide_false, Int.reduceEq, Int.reduceLT, Int.reduceBEq, Int.reduceBNe, not_true_eq_false, undef, hr1]) rfl (by simp) ?_
    refine d_pure 1 (by simp only [runP, List.drop_succ_cons, List.drop_zero, awant_some, Option.getD_some, List.getElem?_toArray, List.getElem?_cons_succ, List.getElem?_cons_zero, Option.bind_some, b_tt, b_tf, b_ft, b_ff, Bool.not_true, Bool.not_false, List.take_succ_cons, List.take_zero, awant_none, astep, evl, put, ap_none, ap_new, ap_wr, List.length_nil, List.length_cons, Nat.add_zero, Nat.zero_add, upd_app, stepBin, abin, stepUn, stepPick, stepExtract, stepCall, if_true, if_false, reduceCtorEq, ↓reduceIte, Nat.reduceEqDiff, Nat.reduceAdd, List.map_cons, List.map_nil, Option.map_some, Option.map_none, Bool.false_eq_true, Int.reduceLE, Int.reduceToNat, ne_eq, not_false_eq_true, and_self, and_true, true_and, decide_true, decide_false, Int.reduceEq, Int.reduceLT, Int.reduceBEq, Int.reduceBNe, not_true_eq_false, undef, List.isEmpty_nil, Bool.and_self, Bool.and_true, t0] <;> rfl) ?_
    refine d_call 18 _ rfl rfl rfl rfl (rput_spec a ha _ _) (by intro _; rfl) ?_ (d_heap fun G5 hG5 => ?_)
    · intro p hp
      simp only [List.mem_singleton] at hp
      subst hp
      right
      refine ⟨by simp [Eff.wr], fun x hx => ?_⟩
      have h1 := hr1' x hx
      simp [srcBlk] at h1
      simp [Eff.wr]
      omega
    obtain ⟨r2, hr2, hr2'⟩ := src_str (g := G5) (src_own (k := n + 2) (e := 5) (l := vput a) (by simp [hG5, ap_new, upd_app]))
    refine d_step { v := .string (nstr (vput a)), r := r2 } (by simp only [runL, List.drop_succ_cons, List.drop_zero, awant_some, Option.getD_some, List.getElem?_toArray, List.getElem?_cons_succ, List.getElem?_cons_zero, Option.bind_some, b_tt, b_tf, b_ft, b_ff, Bool.not_true, Bool.not_false, List.take_succ_cons, List.take_zero, awant_none, astep, evl, put, ap_none, ap_new, ap_wr, List.length_nil, List.length_cons, Nat.add_zero, Nat.zero_add, upd_app, stepBin, abin, stepUn, stepPick, stepExtract, stepCall, if_true, if_false, reduceCtorEq, ↓reduceIte, Nat.reduceEqDiff, Nat.reduceAdd, List.map_cons, List.map_nil, Option.map_some, Option.map_none, Bool.false_eq_true, Int.reduceLE, Int.reduceToNat, ne_eq, not_false_eq_true, and_self, and_true, true_and, decide_true, decide_false, Int.reduceEq, Int.reduceLT, Int.reduceBEq, Int.reduceBNe, not_true_eq_false, undef, hr2]) rfl ?_ ?_
    · intro p hp
      simp only [List.mem_cons, List.not_mem_nil, or_false] at hp
      rcases hp with rfl | rfl
      · exact .inl (bit_of 4 3 rfl rfl (by decide +kernel))
      · right; simp [Eff.wr]
    have hlen5 := (src_own e4n).len Try.underlying23
    refine d_pure 16 (by simp only [runP, List.drop_succ_cons, List.drop_zero, awant_some, Option.getD_some, List.getElem?_toArray, List.getElem?_cons_succ, List.getElem?_cons_zero, Option.bind_some, b_tt, b_tf, b_ft, b_ff, Bool.not_true, Bool.not_false, List.take_succ_cons, List.take_zero, awant_none, astep, evl, put, ap_none, ap_new, ap_wr, List.length_nil, List.length_cons, Nat.add_zero, Nat.zero_add, upd_app, stepBin, abin, stepUn, stepPick, stepExtract, stepCall, if_true, if_false, reduceCtorEq, ↓reduceIte, Nat.reduceEqDiff, Nat.reduceAdd, List.map_cons, List.map_nil, Option.map_some, Option.map_none, Bool.false_eq_true, Int.reduceLE, Int.reduceToNat, ne_eq, not_false_eq_true, and_self, and_true, true_and, decide_true, decide_false, Int.reduceEq, Int.reduceLT, Int.reduceBEq, Int.reduceBNe, not_true_eq_false, undef, List.isEmpty_nil, Bool.and_self, Bool.and_true, t5, t6, t7, t8, t0, hlen5, beq_self_eq_true] <;> rfl) ?_
    refine d_call 19 _ rfl rfl rfl rfl (known_spec _) (by simp) ?_ ?_
    · intro p hp; right; simp [Eff.wr]
    refine d_pure 2 (by simp only [runP, List.drop_succ_cons, List.drop_zero, awant_some, Option.getD_some, List.getElem?_toArray, List.getElem?_cons_succ, List.getElem?_cons_zero, Option.bind_some, b_tt, b_tf, b_ft, b_ff, Bool.not_true, Bool.not_false, List.take_succ_cons, List.take_zero, awant_none, astep, evl, put, ap_none, ap_new, ap_wr, List.length_nil, List.length_cons, Nat.add_zero, Nat.zero_add, upd_app, stepBin, abin, stepUn, stepPick, stepExtract, stepCall, if_true, if_false, reduceCtorEq, ↓reduceIte, Nat.reduceEqDiff, Nat.reduceAdd, List.map_cons, List.map_nil, Option.map_some, Option.map_none, Bool.false_eq_true, Int.reduceLE, Int.reduceToNat, ne_eq, not_false_eq_true, and_self, and_true, true_and, decide_true, decide_false, Int.reduceEq, Int.reduceLT, Int.reduceBEq, Int.reduceBNe, not_true_eq_false, undef, List.isEmpty_nil, Bool.and_self, Bool.and_true] <;> rfl) ?_
    refine w_ret ⟨.inr rfl, by simp, [], fin_none ?_ trivial ?_⟩
    · simp [resVal, upd_app]
    · intro i b hb
      have := hs i (hwf i b hb).1
      show G5 i = some b
      rw [hG5]
      simp [ap_new, upd_app, show i ≠ n + 2 by omega, e4 i this, hb]
  · refine s_true (by simp [evl, upd_app]; omega) ?_
    refine w_assoc (s_run (by simp only [runL, List.drop_succ_cons, List.drop_zero, awant_some, Option.getD_some, List.getElem?_toArray, List.getElem?_cons_succ, List.getElem?_cons_zero, Option.bind_some, b_tt, b_tf, b_ft, b_ff, Bool.not_true, Bool.not_false, List.take_succ_cons, List.take_zero, awant_none, astep, evl, put, ap_none, ap_new, ap_wr, List.length_nil, List.length_cons, Nat.add_zero, Nat.zero_add, upd_app, stepBin, abin, stepUn, stepPick, stepExtract, stepCall, if_true, if_false, reduceCtorEq, ↓reduceIte, Nat.reduceEqDiff, Nat.reduceAdd, List.map_cons, List.map_nil, Option.map_some, Option.map_none, Bool.false_eq_true, Int.reduceLE, Int.reduceToNat, ne_eq, not_false_eq_true, and_self, and_true, true_and, decide_true, decide_false, Int.reduceEq, Int.reduceLT, Int.reduceBEq, Int.reduceBNe, not_true_eq_false, undef] <;> rfl) ?_)
    refine s_ret ⟨.inr rfl, by simp, [], fin_none ?_ trivial (fun _ _ h => h)⟩
    simp [resVal, upd_app]
end Go.Proofs.Ytokmmcfnpobldaa
