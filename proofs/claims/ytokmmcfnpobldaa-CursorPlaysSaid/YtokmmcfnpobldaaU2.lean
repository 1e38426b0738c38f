import Derived.Test.YtokmmcfnpobldaaU1
import Derived.Test.YtokmmcfnpobldaaAbsC
namespace Go.Proofs.Ytokmmcfnpobldaa
open Go Abs
set_option linter.unusedSimpArgs false
set_option linter.unusedVariables false

theorem wf_u64 {a : Int} (h : (Lit.int .u64 a).wf = true) : ∃ n : Nat, a = n ∧ n < 2 ^ 64 := by
  have h1 : 0 ≤ a ∧ a < 2 ^ 64 := by
    simp [Lit.wf, IntKind.min, IntKind.max, IntKind.signed, IntKind.bits] at h
    omega
  exact ⟨a.toNat, by omega, by omega⟩

theorem wf_u8 {a : Int} (h : (Lit.int .u8 a).wf = true) : ∃ n : Nat, a = n ∧ n < 256 := by
  have h1 : 0 ≤ a ∧ a < 256 := by
    simp [Lit.wf, IntKind.min, IntKind.max, IntKind.signed, IntKind.bits] at h
    omega
  exact ⟨a.toNat, by omega, by omega⟩

theorem row_bytes {w : World} {a : Option Addr} {len cap : Nat} {zs : List Int} (h : Row .u8 w a len cap zs) : ∃ l : List Nat, l.length = len ∧ (∀ x ∈ l, x < 256) ∧ (zs.take len).map (Value.int .u8) = bs l := by
  have hl := (row_in h 0).2.2.2.2
  have hz : ∀ n ∈ zs.take len, ∃ m : Nat, n = m ∧ m < 256 := by
    intro n hn
    rcases h with ⟨_, _, _, rfl⟩ | ⟨x, _, _, _, _, _, h5⟩
    · simp at hn
    · exact wf_u8 (h5 n (List.mem_of_mem_take hn))
  refine ⟨(zs.take len).map Int.toNat, by simpa using hl, ?_, ?_⟩
  · intro x hx
    obtain ⟨n, hn, rfl⟩ := List.mem_map.1 hx
    obtain ⟨m, rfl, hm⟩ := hz n hn
    simpa using hm
  · unfold bs
    rw [List.map_map]
    refine List.map_congr_left fun n hn => ?_
    obtain ⟨m, rfl, hm⟩ := hz n hn
    simp

/-- A row of bytes that came in: what a walk is handed. -/
theorem row_arg {w : World} {a : Option Addr} {len cap : Nat} {zs : List Int} (h : Row .u8 w a len cap zs) : ∃ l : List Nat, (∀ x ∈ l, x < 256) ∧ EntIn w (argE a len 5 (bs l)) ∧ l.length = len ∧
    (∀ (L : List Ent) (i : Nat), L[i]? = some (argE a len 5 (bs l)) → Src (gOf L) (argV i a len 1) 1 l.length (bs l) ∧ ∀ s : Nat → Prop, s i → VV (rOf L) (gOf L) s (argV i a len 1) (.slice a len cap)) := by
  obtain ⟨hE, h1, h2, hn, hl⟩ := row_in h 5
  obtain ⟨l, hl1, hl2, hl3⟩ := row_bytes h
  rw [hl3] at hE hl
  refine ⟨l, hl2, hE, hl1, fun L i hL => ⟨?_, fun s hs => argV_VV hL hs (by simpa using hl) h1 h2 hn hE⟩⟩
  rw [hl1]
  exact argV_src hL (by simpa using hl) (fun e => (hn e).1)
end Go.Proofs.Ytokmmcfnpobldaa

namespace Go.Proofs.Ytokmmcfnpobldaa
open Go Abs
set_option linter.unusedSimpArgs false
set_option linter.unusedVariables false

def gv (r : Option (Nat × Nat)) : Nat := (r.getD (0, 0)).1
def gn (r : Option (Nat × Nat)) : Nat := (r.getD (0, 0)).2
theorem gres_eq (r : Option (Nat × Nat)) : gres r = .tuple #[.int .u64 (gv r), .int .i64 (gn r), .bool r.isSome] := by
  rcases r with _ | ⟨a, b⟩ <;> rfl

set_option maxRecDepth 10000 in
theorem lawGets_spec (v : Value) (l : List Nat) (g : Heap) (hb : ∀ x ∈ l, x < 256) (hv : Src g v 1 l.length (bs l)) : FnSpec Try.prog 4 [v] g { v := .bool true, r := srcBlk v } := by
  refine spec_of_body [2] follows Try.func4 rfl (by kernel_rfl) (by simp [Try.f4]) (by kernel_rfl) rfl ?_
  intro g2 s2 n hg hfr hs hn hwf hsv
  have hv2 : Src g2 v 1 l.length (bs l) := hv.congr fun i hi => hg i (by simp [Eff.fp, hi])
  have hlen := hv2.len Try.underlying23
  refine s_run (by simp only [runL, List.drop_succ_cons, List.drop_zero, awant_some, Option.getD_some, List.getElem?_toArray, List.getElem?_cons_succ, List.getElem?_cons_zero, Option.bind_some, b_tt, b_tf, b_ft, b_ff, Bool.not_true, Bool.not_false, List.take_succ_cons, List.take_zero, awant_none, astep, evl, put, ap_none, ap_new, ap_wr, List.length_nil, List.length_cons, Nat.add_zero, Nat.zero_add, upd_app, stepBin, abin, stepUn, stepPick, stepExtract, stepCall, if_true, if_false, reduceCtorEq, ↓reduceIte, Nat.reduceEqDiff, Nat.reduceAdd, List.map_cons, List.map_nil, Option.map_some, Option.map_none, Bool.false_eq_true, Int.reduceLE, Int.reduceToNat, ne_eq, not_false_eq_true, and_self, and_true, true_and, decide_true, decide_false, Int.reduceEq, Int.reduceLT, Int.reduceBEq, Int.reduceBNe, not_true_eq_false, undef] <;> rfl) ?_
  refine w_assoc (s_run (by simp only [runL, List.drop_succ_cons, List.drop_zero, awant_some, Option.getD_some, List.getElem?_toArray, List.getElem?_cons_succ, List.getElem?_cons_zero, Option.bind_some, b_tt, b_tf, b_ft, b_ff, Bool.not_true, Bool.not_false, List.take_succ_cons, List.take_zero, awant_none, astep, evl, put, ap_none, ap_new, ap_wr, List.length_nil, List.length_cons, Nat.add_zero, Nat.zero_add, upd_app, stepBin, abin, stepUn, stepPick, stepExtract, stepCall, if_true, if_false, reduceCtorEq, ↓reduceIte, Nat.reduceEqDiff, Nat.reduceAdd, List.map_cons, List.map_nil, Option.map_some, Option.map_none, Bool.false_eq_true, Int.reduceLE, Int.reduceToNat, ne_eq, not_false_eq_true, and_self, and_true, true_and, decide_true, decide_false, Int.reduceEq, Int.reduceLT, Int.reduceBEq, Int.reduceBNe, not_true_eq_false, undef, List.getElem?_cons_zero, Option.getD_some, hlen] <;> rfl) ?_)
  by_cases h50 : l.length ≤ 50
  · refine s_false (by simp [evl, upd_app]; omega) (s_skip ?_)
    refine w_gen (fun t => t 0 = v) (by simp [upd_app]) ?_
    intro t t0
    refine s_take 1 (by simp only [runL, List.drop_succ_cons, List.drop_zero, awant_some, Option.getD_some, List.getElem?_toArray, List.getElem?_cons_succ, List.getElem?_cons_zero, Option.bind_some, b_tt, b_tf, b_ft, b_ff, Bool.not_true, Bool.not_false, List.take_succ_cons, List.take_zero, awant_none, astep, evl, put, ap_none, ap_new, ap_wr, List.length_nil, List.length_cons, Nat.add_zero, Nat.zero_add, upd_app, stepBin, abin, stepUn, stepPick, stepExtract, stepCall, if_true, if_false, reduceCtorEq, ↓reduceIte, Nat.reduceEqDiff, Nat.reduceAdd, List.map_cons, List.map_nil, Option.map_some, Option.map_none, Bool.false_eq_true, Int.reduceLE, Int.reduceToNat, ne_eq, not_false_eq_true, and_self, and_true, true_and, decide_true, decide_false, Int.reduceEq, Int.reduceLT, Int.reduceBEq, Int.reduceBNe, not_true_eq_false, undef, t0] <;> rfl) ?_
    refine ops_call 17 _ rfl (get_spec v l g2 (by omega) (getD_256 hb) hv2) (by simp) ?_
    refine ops_run (by simp only [runL, List.drop_succ_cons, List.drop_zero, awant_some, Option.getD_some, List.getElem?_toArray, List.getElem?_cons_succ, List.getElem?_cons_zero, Option.bind_some, b_tt, b_tf, b_ft, b_ff, Bool.not_true, Bool.not_false, List.take_succ_cons, List.take_zero, awant_none, astep, evl, put, ap_none, ap_new, ap_wr, List.length_nil, List.length_cons, Nat.add_zero, Nat.zero_add, upd_app, stepBin, abin, stepUn, stepPick, stepExtract, stepCall, if_true, if_false, reduceCtorEq, ↓reduceIte, Nat.reduceEqDiff, Nat.reduceAdd, List.map_cons, List.map_nil, Option.map_some, Option.map_none, Bool.false_eq_true, Int.reduceLE, Int.reduceToNat, ne_eq, not_false_eq_true, and_self, and_true, true_and, decide_true, decide_false, Int.reduceEq, Int.reduceLT, Int.reduceBEq, Int.reduceBNe, not_true_eq_false, undef, gres_eq] <;> rfl) ?_
    refine s_take 1 (by simp only [runL, List.drop_succ_cons, List.drop_zero, awant_some, Option.getD_some, List.getElem?_toArray, List.getElem?_cons_succ, List.getElem?_cons_zero, Option.bind_some, b_tt, b_tf, b_ft, b_ff, Bool.not_true, Bool.not_false, List.take_succ_cons, List.take_zero, awant_none, astep, evl, put, ap_none, ap_new, ap_wr, List.length_nil, List.length_cons, Nat.add_zero, Nat.zero_add, upd_app, stepBin, abin, stepUn, stepPick, stepExtract, stepCall, if_true, if_false, reduceCtorEq, ↓reduceIte, Nat.reduceEqDiff, Nat.reduceAdd, List.map_cons, List.map_nil, Option.map_some, Option.map_none, Bool.false_eq_true, Int.reduceLE, Int.reduceToNat, ne_eq, not_false_eq_true, and_self, and_true, true_and, decide_true, decide_false, Int.reduceEq, Int.reduceLT, Int.reduceBEq, Int.reduceBNe, not_true_eq_false, undef, t0] <;> rfl) ?_
    refine ops_call 20 _ rfl (rget_spec v l g2 (by omega) (getD_256 hb) hv2) (by simp) ?_
    refine ops_run (by simp only [runL, List.drop_succ_cons, List.drop_zero, awant_some, Option.getD_some, List.getElem?_toArray, List.getElem?_cons_succ, List.getElem?_cons_zero, Option.bind_some, b_tt, b_tf, b_ft, b_ff, Bool.not_true, Bool.not_false, List.take_succ_cons, List.take_zero, awant_none, astep, evl, put, ap_none, ap_new, ap_wr, List.length_nil, List.length_cons, Nat.add_zero, Nat.zero_add, upd_app, stepBin, abin, stepUn, stepPick, stepExtract, stepCall, if_true, if_false, reduceCtorEq, ↓reduceIte, Nat.reduceEqDiff, Nat.reduceAdd, List.map_cons, List.map_nil, Option.map_some, Option.map_none, Bool.false_eq_true, Int.reduceLE, Int.reduceToNat, ne_eq, not_false_eq_true, and_self, and_true, true_and, decide_true, decide_false, Int.reduceEq, Int.reduceLT, Int.reduceBEq, Int.reduceBNe, not_true_eq_false, undef, gres_eq] <;> rfl) ?_
    refine w_gen (fun t => t 3 = .int .u64 (gv (vget l)) ∧ t 6 = .int .u64 (gv (vget l)) ∧ t 4 = .int .i64 (gn (vget l)) ∧ t 7 = .int .i64 (gn (vget l)) ∧ t 5 = .bool (vget l).isSome ∧ t 8 = .bool (vget l).isSome) (by simp [upd_app, put]) ?_
    rintro t ⟨t3, t6, t4, t7, t5, t8⟩
    refine s_take 14 (by simp only [runL, List.drop_succ_cons, List.drop_zero, awant_some, Option.getD_some, List.getElem?_toArray, List.getElem?_cons_succ, List.getElem?_cons_zero, Option.bind_some, b_tt, b_tf, b_ft, b_ff, Bool.not_true, Bool.not_false, List.take_succ_cons, List.take_zero, awant_none, astep, evl, put, ap_none, ap_new, ap_wr, List.length_nil, List.length_cons, Nat.add_zero, Nat.zero_add, upd_app, stepBin, abin, stepUn, stepPick, stepExtract, stepCall, if_true, if_false, reduceCtorEq, ↓reduceIte, Nat.reduceEqDiff, Nat.reduceAdd, List.map_cons, List.map_nil, Option.map_some, Option.map_none, Bool.false_eq_true, Int.reduceLE, Int.reduceToNat, ne_eq, not_false_eq_true, and_self, and_true, true_and, decide_true, decide_false, Int.reduceEq, Int.reduceLT, Int.reduceBEq, Int.reduceBNe, not_true_eq_false, undef, t3, t4, t5, t6, t7, t8, beq_self_eq_true, Try.underlying4] <;> rfl) ?_
    refine g_call 19 _ (by simp only [runL, List.drop_succ_cons, List.drop_zero, awant_some, Option.getD_some, List.getElem?_toArray, List.getElem?_cons_succ, List.getElem?_cons_zero, Option.bind_some, b_tt, b_tf, b_ft, b_ff, Bool.not_true, Bool.not_false, List.take_succ_cons, List.take_zero, awant_none, astep, evl, put, ap_none, ap_new, ap_wr, List.length_nil, List.length_cons, Nat.add_zero, Nat.zero_add, upd_app, stepBin, abin, stepUn, stepPick, stepExtract, stepCall, if_true, if_false, reduceCtorEq, ↓reduceIte, Nat.reduceEqDiff, Nat.reduceAdd, List.map_cons, List.map_nil, Option.map_some, Option.map_none, Bool.false_eq_true, Int.reduceLE, Int.reduceToNat, ne_eq, not_false_eq_true, and_self, and_true, true_and, decide_true, decide_false, Int.reduceEq, Int.reduceLT, Int.reduceBEq, Int.reduceBNe, not_true_eq_false, undef] <;> rfl) rfl (known_spec _) (by simp) ?_
    refine ops_run (by simp only [runL, List.drop_succ_cons, List.drop_zero, awant_some, Option.getD_some, List.getElem?_toArray, List.getElem?_cons_succ, List.getElem?_cons_zero, Option.bind_some, b_tt, b_tf, b_ft, b_ff, Bool.not_true, Bool.not_false, List.take_succ_cons, List.take_zero, awant_none, astep, evl, put, ap_none, ap_new, ap_wr, List.length_nil, List.length_cons, Nat.add_zero, Nat.zero_add, upd_app, stepBin, abin, stepUn, stepPick, stepExtract, stepCall, if_true, if_false, reduceCtorEq, ↓reduceIte, Nat.reduceEqDiff, Nat.reduceAdd, List.map_cons, List.map_nil, Option.map_some, Option.map_none, Bool.false_eq_true, Int.reduceLE, Int.reduceToNat, ne_eq, not_false_eq_true, and_self, and_true, true_and, decide_true, decide_false, Int.reduceEq, Int.reduceLT, Int.reduceBEq, Int.reduceBNe, not_true_eq_false, undef] <;> rfl) ?_
    refine w_ret ⟨.inr rfl, by simp, [], fin_none ?_ trivial (fun _ _ h => h)⟩
    simp [resVal, upd_app]
  · refine s_true (by simp [evl, upd_app]; omega) ?_
    refine w_assoc (s_run (by simp only [runL, List.drop_succ_cons, List.drop_zero, awant_some, Option.getD_some, List.getElem?_toArray, List.getElem?_cons_succ, List.getElem?_cons_zero, Option.bind_some, b_tt, b_tf, b_ft, b_ff, Bool.not_true, Bool.not_false, List.take_succ_cons, List.take_zero, awant_none, astep, evl, put, ap_none, ap_new, ap_wr, List.length_nil, List.length_cons, Nat.add_zero, Nat.zero_add, upd_app, stepBin, abin, stepUn, stepPick, stepExtract, stepCall, if_true, if_false, reduceCtorEq, ↓reduceIte, Nat.reduceEqDiff, Nat.reduceAdd, List.map_cons, List.map_nil, Option.map_some, Option.map_none, Bool.false_eq_true, Int.reduceLE, Int.reduceToNat, ne_eq, not_false_eq_true, and_self, and_true, true_and, decide_true, decide_false, Int.reduceEq, Int.reduceLT, Int.reduceBEq, Int.reduceBNe, not_true_eq_false, undef] <;> rfl) ?_)
    refine s_ret ⟨.inr rfl, by simp, [], fin_none ?_ trivial (fun _ _ h => h)⟩
    simp [resVal, upd_app]
end Go.Proofs.Ytokmmcfnpobldaa

namespace Go.Proofs.Ytokmmcfnpobldaa
open Go Abs
set_option linter.unusedSimpArgs false
set_option linter.unusedVariables false

theorem vput_len_pow (k : Nat) : (vput (2 ^ k)).length = k / 7 + 1 := by
  induction k using Nat.strongRecOn with
  | _ k ih =>
    by_cases h : k < 7
    · rw [vput_low (by have := Nat.pow_lt_pow_right (a := 2) (by omega) h; omega)]
      simp; omega
    · have h1 : 2 ^ k = 2 ^ 7 * 2 ^ (k - 7) := by rw [← Nat.pow_add]; congr 1; omega
      have h2 : 0 < 2 ^ (k - 7) := Nat.pow_pos (by omega)
      rw [vput_high (by omega), h1, Nat.mul_div_cancel_left _ (by omega), List.length_cons, ih (k - 7) (by omega)]
      omega

theorem wrapU64_nat {p : Nat} (h : p < 2 ^ 64) : IntKind.u64.wrap (p : Int) = (p : Int) := wrapU64_of (by omega) (by omega)

theorem wf_i64 {a : Int} (h : (Lit.int .i64 a).wf = true) : -9223372036854775808 ≤ a ∧ a ≤ 9223372036854775807 := by
  simp [Lit.wf, IntKind.min, IntKind.max, IntKind.signed, IntKind.bits] at h
  omega

set_option maxRecDepth 10000 in
theorem lawLong_spec (a : Int) (g : Heap) : FnSpec Try.prog 6 [.int .i64 a] g { v := .bool true } := by
  refine spec_of_body [2] follows Try.func6 rfl (by kernel_rfl) (by simp [Try.f6]) (by kernel_rfl) rfl ?_
  intro g2 s2 n hg hfr hs hn hwf hsv
  refine s_run (by simp only [runL, List.drop_succ_cons, List.drop_zero, awant_some, Option.getD_some, List.getElem?_toArray, List.getElem?_cons_succ, List.getElem?_cons_zero, Option.bind_some, b_tt, b_tf, b_ft, b_ff, Bool.not_true, Bool.not_false, List.take_succ_cons, List.take_zero, awant_none, astep, evl, put, ap_none, ap_new, ap_wr, List.length_nil, List.length_cons, Nat.add_zero, Nat.zero_add, upd_app, stepBin, abin, stepUn, stepPick, stepExtract, stepCall, if_true, if_false, reduceCtorEq, ↓reduceIte, Nat.reduceEqDiff, Nat.reduceAdd, List.map_cons, List.map_nil, Option.map_some, Option.map_none, Bool.false_eq_true, Int.reduceLE, Int.reduceToNat, ne_eq, not_false_eq_true, and_self, and_true, true_and, decide_true, decide_false, Int.reduceEq, Int.reduceLT, Int.reduceBEq, Int.reduceBNe, not_true_eq_false, undef] <;> rfl) ?_
  by_cases h0 : a < 0
  · have d1 : decide (a < 0) = true := by simp [h0]
    refine w_assoc (s_run (by simp only [runL, List.drop_succ_cons, List.drop_zero, awant_some, Option.getD_some, List.getElem?_toArray, List.getElem?_cons_succ, List.getElem?_cons_zero, Option.bind_some, b_tt, b_tf, b_ft, b_ff, Bool.not_true, Bool.not_false, List.take_succ_cons, List.take_zero, awant_none, astep, evl, put, ap_none, ap_new, ap_wr, List.length_nil, List.length_cons, Nat.add_zero, Nat.zero_add, upd_app, stepBin, abin, stepUn, stepPick, stepExtract, stepCall, if_true, if_false, reduceCtorEq, ↓reduceIte, Nat.reduceEqDiff, Nat.reduceAdd, List.map_cons, List.map_nil, Option.map_some, Option.map_none, Bool.false_eq_true, Int.reduceLE, Int.reduceToNat, ne_eq, not_false_eq_true, and_self, and_true, true_and, decide_true, decide_false, Int.reduceEq, Int.reduceLT, Int.reduceBEq, Int.reduceBNe, not_true_eq_false, undef, List.getElem?_cons_zero, Option.getD_some, d1] <;> rfl) ?_)
    refine s_true (by simp [evl, upd_app]) (w_assoc (s_run (by simp only [runL, List.drop_succ_cons, List.drop_zero, awant_some, Option.getD_some, List.getElem?_toArray, List.getElem?_cons_succ, List.getElem?_cons_zero, Option.bind_some, b_tt, b_tf, b_ft, b_ff, Bool.not_true, Bool.not_false, List.take_succ_cons, List.take_zero, awant_none, astep, evl, put, ap_none, ap_new, ap_wr, List.length_nil, List.length_cons, Nat.add_zero, Nat.zero_add, upd_app, stepBin, abin, stepUn, stepPick, stepExtract, stepCall, if_true, if_false, reduceCtorEq, ↓reduceIte, Nat.reduceEqDiff, Nat.reduceAdd, List.map_cons, List.map_nil, Option.map_some, Option.map_none, Bool.false_eq_true, Int.reduceLE, Int.reduceToNat, ne_eq, not_false_eq_true, and_self, and_true, true_and, decide_true, decide_false, Int.reduceEq, Int.reduceLT, Int.reduceBEq, Int.reduceBNe, not_true_eq_false, undef] <;> rfl) ?_))
    refine s_ret ⟨.inr rfl, by simp, [], fin_none ?_ trivial (fun _ _ h => h)⟩
    simp [resVal, upd_app]
  · have d1 : decide (a < 0) = false := by simp; omega
    by_cases h63 : a > 63
    · have d2 : decide (a > 63) = true := by simp; omega
      refine w_assoc (s_run (by simp only [runL, List.drop_succ_cons, List.drop_zero, awant_some, Option.getD_some, List.getElem?_toArray, List.getElem?_cons_succ, List.getElem?_cons_zero, Option.bind_some, b_tt, b_tf, b_ft, b_ff, Bool.not_true, Bool.not_false, List.take_succ_cons, List.take_zero, awant_none, astep, evl, put, ap_none, ap_new, ap_wr, List.length_nil, List.length_cons, Nat.add_zero, Nat.zero_add, upd_app, stepBin, abin, stepUn, stepPick, stepExtract, stepCall, if_true, if_false, reduceCtorEq, ↓reduceIte, Nat.reduceEqDiff, Nat.reduceAdd, List.map_cons, List.map_nil, Option.map_some, Option.map_none, Bool.false_eq_true, Int.reduceLE, Int.reduceToNat, ne_eq, not_false_eq_true, and_self, and_true, true_and, decide_true, decide_false, Int.reduceEq, Int.reduceLT, Int.reduceBEq, Int.reduceBNe, not_true_eq_false, undef, List.getElem?_cons_zero, Option.getD_some, d1, d2] <;> rfl) ?_)
      refine s_true (by simp [evl, upd_app]) (w_assoc (s_run (by simp only [runL, List.drop_succ_cons, List.drop_zero, awant_some, Option.getD_some, List.getElem?_toArray, List.getElem?_cons_succ, List.getElem?_cons_zero, Option.bind_some, b_tt, b_tf, b_ft, b_ff, Bool.not_true, Bool.not_false, List.take_succ_cons, List.take_zero, awant_none, astep, evl, put, ap_none, ap_new, ap_wr, List.length_nil, List.length_cons, Nat.add_zero, Nat.zero_add, upd_app, stepBin, abin, stepUn, stepPick, stepExtract, stepCall, if_true, if_false, reduceCtorEq, ↓reduceIte, Nat.reduceEqDiff, Nat.reduceAdd, List.map_cons, List.map_nil, Option.map_some, Option.map_none, Bool.false_eq_true, Int.reduceLE, Int.reduceToNat, ne_eq, not_false_eq_true, and_self, and_true, true_and, decide_true, decide_false, Int.reduceEq, Int.reduceLT, Int.reduceBEq, Int.reduceBNe, not_true_eq_false, undef] <;> rfl) ?_))
      refine s_ret ⟨.inr rfl, by simp, [], fin_none ?_ trivial (fun _ _ h => h)⟩
      simp [resVal, upd_app]
    · have d2 : decide (a > 63) = false := by simp; omega
      obtain ⟨k, rfl⟩ : ∃ k : Nat, a = k := ⟨a.toNat, by omega⟩
      refine w_assoc (s_run (by simp only [runL, List.drop_succ_cons, List.drop_zero, awant_some, Option.getD_some, List.getElem?_toArray, List.getElem?_cons_succ, List.getElem?_cons_zero, Option.bind_some, b_tt, b_tf, b_ft, b_ff, Bool.not_true, Bool.not_false, List.take_succ_cons, List.take_zero, awant_none, astep, evl, put, ap_none, ap_new, ap_wr, List.length_nil, List.length_cons, Nat.add_zero, Nat.zero_add, upd_app, stepBin, abin, stepUn, stepPick, stepExtract, stepCall, if_true, if_false, reduceCtorEq, ↓reduceIte, Nat.reduceEqDiff, Nat.reduceAdd, List.map_cons, List.map_nil, Option.map_some, Option.map_none, Bool.false_eq_true, Int.reduceLE, Int.reduceToNat, ne_eq, not_false_eq_true, and_self, and_true, true_and, decide_true, decide_false, Int.reduceEq, Int.reduceLT, Int.reduceBEq, Int.reduceBNe, not_true_eq_false, undef, List.getElem?_cons_zero, Option.getD_some, d1, d2] <;> rfl) ?_)
      refine s_false (by simp [evl, upd_app]) (s_skip ?_)
      have hk : k ≤ 63 := by omega
      have hp : 2 ^ k < 2 ^ 64 := Nat.pow_lt_pow_right (by omega) (by omega)
      have w1 : IntKind.u64.wrap (k : Int) = (k : Int) := wrapU64_of (by omega) (by omega)
      have w2 : IntKind.u64.wrap (1 * 2 ^ (min (k : Int).toNat IntKind.u64.bits)) = ((2 ^ k : Nat) : Int) := by
        have : min (k : Int).toNat IntKind.u64.bits = k := by rw [Int.toNat_natCast]; exact Nat.min_eq_left (by show k ≤ 64; omega)
        have e : (2 : Int) ^ k = ((2 ^ k : Nat) : Int) := by simp
        rw [this, Int.one_mul, e, wrapU64_nat hp]
      have w3 : IntKind.i64.wrap ((k : Int).tdiv 7) = ((k / 7 : Nat) : Int) := by
        rw [Int.tdiv_eq_ediv_of_nonneg (by omega), wrap64_of (by omega) (by omega)]; simp
      have w4 : IntKind.i64.wrap (((k / 7 : Nat) : Int) + 1) = ((k / 7 + 1 : Nat) : Int) := by
        rw [wrap64_of (by omega) (by omega)]; simp
      refine s_take 3 (by simp only [runL, List.drop_succ_cons, List.drop_zero, awant_some, Option.getD_some, List.getElem?_toArray, List.getElem?_cons_succ, List.getElem?_cons_zero, Option.bind_some, b_tt, b_tf, b_ft, b_ff, Bool.not_true, Bool.not_false, List.take_succ_cons, List.take_zero, awant_none, astep, evl, put, ap_none, ap_new, ap_wr, List.length_nil, List.length_cons, Nat.add_zero, Nat.zero_add, upd_app, stepBin, abin, stepUn, stepPick, stepExtract, stepCall, if_true, if_false, reduceCtorEq, ↓reduceIte, Nat.reduceEqDiff, Nat.reduceAdd, List.map_cons, List.map_nil, Option.map_some, Option.map_none, Bool.false_eq_true, Int.reduceLE, Int.reduceToNat, ne_eq, not_false_eq_true, and_self, and_true, true_and, decide_true, decide_false, Int.reduceEq, Int.reduceLT, Int.reduceBEq, Int.reduceBNe, not_true_eq_false, undef, List.getElem?_cons_zero, Option.getD_some, conv3_31, w1, w2, show (0 : Int) ≤ (k : Int) from Int.natCast_nonneg _] <;> rfl) ?_
      refine ops_call 16 _ rfl (put_spec (2 ^ k) hp _ _) (by intro _; rfl) (ops_heap fun G hG => ?_)
      have hlen := (src_own (g := G) (k := n) (e := 5) (l := vput (2 ^ k)) (by simp [hG, ap_new, upd_app])).len Try.underlying23
      have hq : (((vput (2 ^ k)).length : Int) == ((k / 7 + 1 : Nat) : Int)) = true := by rw [vput_len_pow]; simp
      refine ops_take 6 (by simp only [runL, List.drop_succ_cons, List.drop_zero, awant_some, Option.getD_some, List.getElem?_toArray, List.getElem?_cons_succ, List.getElem?_cons_zero, Option.bind_some, b_tt, b_tf, b_ft, b_ff, Bool.not_true, Bool.not_false, List.take_succ_cons, List.take_zero, awant_none, astep, evl, put, ap_none, ap_new, ap_wr, List.length_nil, List.length_cons, Nat.add_zero, Nat.zero_add, upd_app, stepBin, abin, stepUn, stepPick, stepExtract, stepCall, if_true, if_false, reduceCtorEq, ↓reduceIte, Nat.reduceEqDiff, Nat.reduceAdd, List.map_cons, List.map_nil, Option.map_some, Option.map_none, Bool.false_eq_true, Int.reduceLE, Int.reduceToNat, ne_eq, not_false_eq_true, and_self, and_true, true_and, decide_true, decide_false, Int.reduceEq, Int.reduceLT, Int.reduceBEq, Int.reduceBNe, not_true_eq_false, undef, hlen, w3, w4, hq, show ((7 : Int) = 0) = False from by simp] <;> rfl) ?_
      refine g_call 19 _ (by simp only [runL, List.drop_succ_cons, List.drop_zero, awant_some, Option.getD_some, List.getElem?_toArray, List.getElem?_cons_succ, List.getElem?_cons_zero, Option.bind_some, b_tt, b_tf, b_ft, b_ff, Bool.not_true, Bool.not_false, List.take_succ_cons, List.take_zero, awant_none, astep, evl, put, ap_none, ap_new, ap_wr, List.length_nil, List.length_cons, Nat.add_zero, Nat.zero_add, upd_app, stepBin, abin, stepUn, stepPick, stepExtract, stepCall, if_true, if_false, reduceCtorEq, ↓reduceIte, Nat.reduceEqDiff, Nat.reduceAdd, List.map_cons, List.map_nil, Option.map_some, Option.map_none, Bool.false_eq_true, Int.reduceLE, Int.reduceToNat, ne_eq, not_false_eq_true, and_self, and_true, true_and, decide_true, decide_false, Int.reduceEq, Int.reduceLT, Int.reduceBEq, Int.reduceBNe, not_true_eq_false, undef] <;> rfl) rfl (known_spec _) (by simp) ?_
      refine ops_run (by simp only [runL, List.drop_succ_cons, List.drop_zero, awant_some, Option.getD_some, List.getElem?_toArray, List.getElem?_cons_succ, List.getElem?_cons_zero, Option.bind_some, b_tt, b_tf, b_ft, b_ff, Bool.not_true, Bool.not_false, List.take_succ_cons, List.take_zero, awant_none, astep, evl, put, ap_none, ap_new, ap_wr, List.length_nil, List.length_cons, Nat.add_zero, Nat.zero_add, upd_app, stepBin, abin, stepUn, stepPick, stepExtract, stepCall, if_true, if_false, reduceCtorEq, ↓reduceIte, Nat.reduceEqDiff, Nat.reduceAdd, List.map_cons, List.map_nil, Option.map_some, Option.map_none, Bool.false_eq_true, Int.reduceLE, Int.reduceToNat, ne_eq, not_false_eq_true, and_self, and_true, true_and, decide_true, decide_false, Int.reduceEq, Int.reduceLT, Int.reduceBEq, Int.reduceBNe, not_true_eq_false, undef] <;> rfl) ?_
      refine w_ret ⟨.inr rfl, by simp, [], fin_none ?_ trivial ?_⟩
      · simp [resVal, upd_app]
      · intro i b hb
        have := hs i (hwf i b hb).1
        rw [hG]
        simp [ap_new, upd_app, show i ≠ n by omega, hb]
end Go.Proofs.Ytokmmcfnpobldaa

namespace Go.Proofs.Ytokmmcfnpobldaa
open Go Abs
set_option linter.unusedSimpArgs false
set_option linter.unusedVariables false

theorem findLow_high (l : List Nat) (k : Nat) (h : ∀ x ∈ l, ¬ x < 128) : findLow l k = -1 := by
  induction l generalizing k with
  | nil => rfl
  | cons c l ih => rw [findLow, if_neg (h c (by simp)), ih _ (fun x hx => h x (by simp [hx]))]

theorem findLow_end (l : List Nat) (k c : Nat) (h : ∀ x ∈ l, ¬ x < 128) (hc : c < 128) : findLow (l ++ [c]) k = ((k + l.length : Nat) : Int) := by
  induction l generalizing k with
  | nil => simp [findLow, hc]
  | cons d l ih =>
    rw [List.cons_append, findLow, if_neg (h d (by simp)), ih _ (fun x hx => h x (by simp [hx]))]
    simp; omega

/-- A number's bytes: of 128 and more, and one below. -/
theorem grp_split {p : List Nat} (h : isGrp p) : ∃ q c, p = q ++ [c] ∧ c < 128 ∧ ∀ x ∈ q, 128 ≤ x ∧ x < 256 := by
  induction p with
  | nil => exact h.elim
  | cons d p ih =>
    rcases h with ⟨h1, rfl⟩ | ⟨h1, h2, h3⟩
    · exact ⟨[], d, rfl, h1, by simp⟩
    · obtain ⟨q, c, rfl, hc, hq⟩ := ih h3
      refine ⟨d :: q, c, rfl, hc, fun x hx => ?_⟩
      rcases List.mem_cons.1 hx with rfl | hx
      · exact ⟨h1, h2⟩
      · exact hq x hx

theorem vget_short (q : List Nat) (h : ∀ x ∈ q, 128 ≤ x) : vget q = none :=
  vget_none q (.inl (findLow_high q 0 fun x hx => by have := h x hx; omega))

theorem vget_idle (q : List Nat) (h : ∀ x ∈ q, 128 ≤ x) (hq : q ≠ []) : vget (q ++ [0]) = none := by
  have hl : 0 < q.length := List.length_pos_iff.2 hq
  rw [vget, if_neg]
  rw [findLow_end q 0 0 (fun x hx => by have := h x hx; omega) (by omega)]
  simp only [Nat.zero_add, Int.toNat_natCast, List.getElem?_append_right (Nat.le_refl _), Nat.sub_self, List.getElem?_cons_zero, Option.getD_some]
  omega

theorem or128_u8 (c : Nat) (hc : c < 128) : bits .or .u8 (c : Int) 128 = ((c + 128 : Nat) : Int) := by
  have := u8_or_nat c 128 (by omega) (by omega)
  rw [Nat.or_comm, nat_join 7 _ _ (by decide) (by omega), Nat.add_comm] at this
  exact this
end Go.Proofs.Ytokmmcfnpobldaa

namespace Go.Proofs.Ytokmmcfnpobldaa
open Go Abs
set_option linter.unusedSimpArgs false
set_option linter.unusedVariables false

set_option maxRecDepth 10000 in
theorem lawLeast_spec (a : Nat) (ha : a < 2 ^ 64) (b : Int) (g : Heap) : FnSpec Try.prog 5 [.int .u64 a, .int .i64 b] g { v := .bool true } := by
  refine spec_of_body [4] follows Try.func5 rfl (by kernel_rfl) (by simp [Try.f5]) (by kernel_rfl) rfl ?_
  intro g2 s2 n hg hfr hs hn hwf hsv
  refine s_run (by simp only [runL, List.drop_succ_cons, List.drop_zero, awant_some, Option.getD_some, List.getElem?_toArray, List.getElem?_cons_succ, List.getElem?_cons_zero, Option.bind_some, b_tt, b_tf, b_ft, b_ff, Bool.not_true, Bool.not_false, List.take_succ_cons, List.take_zero, awant_none, astep, evl, put, ap_none, ap_new, ap_wr, List.length_nil, List.length_cons, Nat.add_zero, Nat.zero_add, upd_app, stepBin, abin, stepUn, stepPick, stepExtract, stepCall, if_true, if_false, reduceCtorEq, ↓reduceIte, Nat.reduceEqDiff, Nat.reduceAdd, List.map_cons, List.map_nil, Option.map_some, Option.map_none, Bool.false_eq_true, Int.reduceLE, Int.reduceToNat, ne_eq, not_false_eq_true, and_self, and_true, true_and, decide_true, decide_false, Int.reduceEq, Int.reduceLT, Int.reduceBEq, Int.reduceBNe, not_true_eq_false, undef] <;> rfl) ?_
  refine s_take 1 (by simp only [runL, List.drop_succ_cons, List.drop_zero, awant_some, Option.getD_some, List.getElem?_toArray, List.getElem?_cons_succ, List.getElem?_cons_zero, Option.bind_some, b_tt, b_tf, b_ft, b_ff, Bool.not_true, Bool.not_false, List.take_succ_cons, List.take_zero, awant_none, astep, evl, put, ap_none, ap_new, ap_wr, List.length_nil, List.length_cons, Nat.add_zero, Nat.zero_add, upd_app, stepBin, abin, stepUn, stepPick, stepExtract, stepCall, if_true, if_false, reduceCtorEq, ↓reduceIte, Nat.reduceEqDiff, Nat.reduceAdd, List.map_cons, List.map_nil, Option.map_some, Option.map_none, Bool.false_eq_true, Int.reduceLE, Int.reduceToNat, ne_eq, not_false_eq_true, and_self, and_true, true_and, decide_true, decide_false, Int.reduceEq, Int.reduceLT, Int.reduceBEq, Int.reduceBNe, not_true_eq_false, undef] <;> rfl) ?_
  refine ops_call 18 _ rfl (rput_spec a ha _ _) (by intro _; rfl) (ops_heap fun G1 hG1 => ?_)
  refine ops_run (by simp only [runL, List.drop_succ_cons, List.drop_zero, awant_some, Option.getD_some, List.getElem?_toArray, List.getElem?_cons_succ, List.getElem?_cons_zero, Option.bind_some, b_tt, b_tf, b_ft, b_ff, Bool.not_true, Bool.not_false, List.take_succ_cons, List.take_zero, awant_none, astep, evl, put, ap_none, ap_new, ap_wr, List.length_nil, List.length_cons, Nat.add_zero, Nat.zero_add, upd_app, stepBin, abin, stepUn, stepPick, stepExtract, stepCall, if_true, if_false, reduceCtorEq, ↓reduceIte, Nat.reduceEqDiff, Nat.reduceAdd, List.map_cons, List.map_nil, Option.map_some, Option.map_none, Bool.false_eq_true, Int.reduceLE, Int.reduceToNat, ne_eq, not_false_eq_true, and_self, and_true, true_and, decide_true, decide_false, Int.reduceEq, Int.reduceLT, Int.reduceBEq, Int.reduceBNe, not_true_eq_false, undef] <;> rfl) ?_
  refine w_gen (fun t => t 1 = .int .i64 b ∧ t 5 = .slice (some ⟨n, 0, some (vput a).length⟩) (vput a).length 1) (by simp [upd_app]) ?_
  rintro t ⟨t1, t5⟩
  have e1n : G1 n = some ⟨false, 5, bs (vput a)⟩ := by simp [hG1, ap_new, upd_app]
  have e1 : ∀ k, k < n → G1 k = g2 k := fun k hk => by simp [hG1, ap_new, upd_app]; omega
  have hlen := (src_own e1n).len Try.underlying23
  have h10 := vput_len10 a ha
  have hpos := vput_pos a
  have hold : ∀ i b, g2 i = some b → G1 i = some b := fun i b hb => by rw [e1 i (hs i (hwf i b hb).1), hb]
  by_cases c1 : b < 1
  · have d1 : decide (b < 1) = true := by simp [c1]
    refine w_assoc (s_run (by simp only [runL, List.drop_succ_cons, List.drop_zero, awant_some, Option.getD_some, List.getElem?_toArray, List.getElem?_cons_succ, List.getElem?_cons_zero, Option.bind_some, b_tt, b_tf, b_ft, b_ff, Bool.not_true, Bool.not_false, List.take_succ_cons, List.take_zero, awant_none, astep, evl, put, ap_none, ap_new, ap_wr, List.length_nil, List.length_cons, Nat.add_zero, Nat.zero_add, upd_app, stepBin, abin, stepUn, stepPick, stepExtract, stepCall, if_true, if_false, reduceCtorEq, ↓reduceIte, Nat.reduceEqDiff, Nat.reduceAdd, List.map_cons, List.map_nil, Option.map_some, Option.map_none, Bool.false_eq_true, Int.reduceLE, Int.reduceToNat, ne_eq, not_false_eq_true, and_self, and_true, true_and, decide_true, decide_false, Int.reduceEq, Int.reduceLT, Int.reduceBEq, Int.reduceBNe, not_true_eq_false, undef, t1, t5, d1] <;> rfl) ?_)
    refine s_true (by simp [evl, upd_app]) (w_assoc (s_run (by simp only [runL, List.drop_succ_cons, List.drop_zero, awant_some, Option.getD_some, List.getElem?_toArray, List.getElem?_cons_succ, List.getElem?_cons_zero, Option.bind_some, b_tt, b_tf, b_ft, b_ff, Bool.not_true, Bool.not_false, List.take_succ_cons, List.take_zero, awant_none, astep, evl, put, ap_none, ap_new, ap_wr, List.length_nil, List.length_cons, Nat.add_zero, Nat.zero_add, upd_app, stepBin, abin, stepUn, stepPick, stepExtract, stepCall, if_true, if_false, reduceCtorEq, ↓reduceIte, Nat.reduceEqDiff, Nat.reduceAdd, List.map_cons, List.map_nil, Option.map_some, Option.map_none, Bool.false_eq_true, Int.reduceLE, Int.reduceToNat, ne_eq, not_false_eq_true, and_self, and_true, true_and, decide_true, decide_false, Int.reduceEq, Int.reduceLT, Int.reduceBEq, Int.reduceBNe, not_true_eq_false, undef] <;> rfl) ?_))
    refine s_ret ⟨.inr rfl, by simp, [], fin_none ?_ trivial hold⟩
    simp [resVal, upd_app]
  have d1 : decide (b < 1) = false := by simp; omega
  by_cases c2 : b > 5
  · have d2 : decide (b > 5) = true := by simp; omega
    refine w_assoc (s_run (by simp only [runL, List.drop_succ_cons, List.drop_zero, awant_some, Option.getD_some, List.getElem?_toArray, List.getElem?_cons_succ, List.getElem?_cons_zero, Option.bind_some, b_tt, b_tf, b_ft, b_ff, Bool.not_true, Bool.not_false, List.take_succ_cons, List.take_zero, awant_none, astep, evl, put, ap_none, ap_new, ap_wr, List.length_nil, List.length_cons, Nat.add_zero, Nat.zero_add, upd_app, stepBin, abin, stepUn, stepPick, stepExtract, stepCall, if_true, if_false, reduceCtorEq, ↓reduceIte, Nat.reduceEqDiff, Nat.reduceAdd, List.map_cons, List.map_nil, Option.map_some, Option.map_none, Bool.false_eq_true, Int.reduceLE, Int.reduceToNat, ne_eq, not_false_eq_true, and_self, and_true, true_and, decide_true, decide_false, Int.reduceEq, Int.reduceLT, Int.reduceBEq, Int.reduceBNe, not_true_eq_false, undef, t1, t5, d1, d2] <;> rfl) ?_)
    refine s_true (by simp [evl, upd_app]) (w_assoc (s_run (by simp only [runL, List.drop_succ_cons, List.drop_zero, awant_some, Option.getD_some, List.getElem?_toArray, List.getElem?_cons_succ, List.getElem?_cons_zero, Option.bind_some, b_tt, b_tf, b_ft, b_ff, Bool.not_true, Bool.not_false, List.take_succ_cons, List.take_zero, awant_none, astep, evl, put, ap_none, ap_new, ap_wr, List.length_nil, List.length_cons, Nat.add_zero, Nat.zero_add, upd_app, stepBin, abin, stepUn, stepPick, stepExtract, stepCall, if_true, if_false, reduceCtorEq, ↓reduceIte, Nat.reduceEqDiff, Nat.reduceAdd, List.map_cons, List.map_nil, Option.map_some, Option.map_none, Bool.false_eq_true, Int.reduceLE, Int.reduceToNat, ne_eq, not_false_eq_true, and_self, and_true, true_and, decide_true, decide_false, Int.reduceEq, Int.reduceLT, Int.reduceBEq, Int.reduceBNe, not_true_eq_false, undef] <;> rfl) ?_))
    refine s_ret ⟨.inr rfl, by simp, [], fin_none ?_ trivial hold⟩
    simp [resVal, upd_app]
  have d2 : decide (b > 5) = false := by simp; omega
  obtain ⟨k, rfl⟩ : ∃ k : Nat, b = k := ⟨b.toNat, by omega⟩
  have w1 : IntKind.i64.wrap (((vput a).length : Int) + (k : Int)) = (((vput a).length + k : Nat) : Int) := by rw [wrap64_of (by omega) (by omega)]; simp
  by_cases c3 : (vput a).length + k > 12
  · have d3 : decide ((((vput a).length + k : Nat) : Int) > 12) = true := by simp; omega
    refine w_assoc (s_run (by simp only [runL, List.drop_succ_cons, List.drop_zero, awant_some, Option.getD_some, List.getElem?_toArray, List.getElem?_cons_succ, List.getElem?_cons_zero, Option.bind_some, b_tt, b_tf, b_ft, b_ff, Bool.not_true, Bool.not_false, List.take_succ_cons, List.take_zero, awant_none, astep, evl, put, ap_none, ap_new, ap_wr, List.length_nil, List.length_cons, Nat.add_zero, Nat.zero_add, upd_app, stepBin, abin, stepUn, stepPick, stepExtract, stepCall, if_true, if_false, reduceCtorEq, ↓reduceIte, Nat.reduceEqDiff, Nat.reduceAdd, List.map_cons, List.map_nil, Option.map_some, Option.map_none, Bool.false_eq_true, Int.reduceLE, Int.reduceToNat, ne_eq, not_false_eq_true, and_self, and_true, true_and, decide_true, decide_false, Int.reduceEq, Int.reduceLT, Int.reduceBEq, Int.reduceBNe, not_true_eq_false, undef, t1, t5, d1, d2, hlen, w1, d3] <;> rfl) ?_)
    refine s_true (by simp [evl, upd_app]) (w_assoc (s_run (by simp only [runL, List.drop_succ_cons, List.drop_zero, awant_some, Option.getD_some, List.getElem?_toArray, List.getElem?_cons_succ, List.getElem?_cons_zero, Option.bind_some, b_tt, b_tf, b_ft, b_ff, Bool.not_true, Bool.not_false, List.take_succ_cons, List.take_zero, awant_none, astep, evl, put, ap_none, ap_new, ap_wr, List.length_nil, List.length_cons, Nat.add_zero, Nat.zero_add, upd_app, stepBin, abin, stepUn, stepPick, stepExtract, stepCall, if_true, if_false, reduceCtorEq, ↓reduceIte, Nat.reduceEqDiff, Nat.reduceAdd, List.map_cons, List.map_nil, Option.map_some, Option.map_none, Bool.false_eq_true, Int.reduceLE, Int.reduceToNat, ne_eq, not_false_eq_true, and_self, and_true, true_and, decide_true, decide_false, Int.reduceEq, Int.reduceLT, Int.reduceBEq, Int.reduceBNe, not_true_eq_false, undef] <;> rfl) ?_))
    refine s_ret ⟨.inr rfl, by simp, [], fin_none ?_ trivial hold⟩
    simp [resVal, upd_app]
  have d3 : decide ((((vput a).length + k : Nat) : Int) > 12) = false := by simp; omega
  refine w_assoc (s_run (by simp only [runL, List.drop_succ_cons, List.drop_zero, awant_some, Option.getD_some, List.getElem?_toArray, List.getElem?_cons_succ, List.getElem?_cons_zero, Option.bind_some, b_tt, b_tf, b_ft, b_ff, Bool.not_true, Bool.not_false, List.take_succ_cons, List.take_zero, awant_none, astep, evl, put, ap_none, ap_new, ap_wr, List.length_nil, List.length_cons, Nat.add_zero, Nat.zero_add, upd_app, stepBin, abin, stepUn, stepPick, stepExtract, stepCall, if_true, if_false, reduceCtorEq, ↓reduceIte, Nat.reduceEqDiff, Nat.reduceAdd, List.map_cons, List.map_nil, Option.map_some, Option.map_none, Bool.false_eq_true, Int.reduceLE, Int.reduceToNat, ne_eq, not_false_eq_true, and_self, and_true, true_and, decide_true, decide_false, Int.reduceEq, Int.reduceLT, Int.reduceBEq, Int.reduceBNe, not_true_eq_false, undef, t1, t5, d1, d2, hlen, w1, d3] <;> rfl) ?_)
  refine s_false (by simp [evl, upd_app]) (s_skip ?_)
  refine w_gen (fun t => t 1 = .int .i64 k ∧ t 5 = .slice (some ⟨n, 0, some (vput a).length⟩) (vput a).length 1) (by simp [upd_app, t1, t5]) ?_
  clear t1 t5
  rintro t ⟨t1, t5⟩
  obtain ⟨q, c, hqc, hc, hq⟩ := grp_split (vput_grp a)
  have hL : (vput a).length = q.length + 1 := by rw [hqc]; simp
  have w2 : IntKind.i64.wrap (((vput a).length : Int) - 1) = (q.length : Int) := by rw [wrap64_of (by omega) (by omega)]; omega
  obtain ⟨v', hs1, hs2, hs3, hs4⟩ := (src_own e1n).slice Try.underlying23 tsize5 none (some (.int .i64 (q.length : Int))) 0 q.length rfl rfl (by omega) (by omega)
  have hs5 : Src G1 v' 1 q.length (bs q) := by
    have : (vput a).take q.length = q := by rw [hqc]; simp
    simpa [← List.map_take, this] using hs2
  have hq256 : ∀ x ∈ q, x < 256 := fun x hx => (hq x hx).2
  refine s_take 5 (by simp only [runL, List.drop_succ_cons, List.drop_zero, awant_some, Option.getD_some, List.getElem?_toArray, List.getElem?_cons_succ, List.getElem?_cons_zero, Option.bind_some, b_tt, b_tf, b_ft, b_ff, Bool.not_true, Bool.not_false, List.take_succ_cons, List.take_zero, awant_none, astep, evl, put, ap_none, ap_new, ap_wr, List.length_nil, List.length_cons, Nat.add_zero, Nat.zero_add, upd_app, stepBin, abin, stepUn, stepPick, stepExtract, stepCall, if_true, if_false, reduceCtorEq, ↓reduceIte, Nat.reduceEqDiff, Nat.reduceAdd, List.map_cons, List.map_nil, Option.map_some, Option.map_none, Bool.false_eq_true, Int.reduceLE, Int.reduceToNat, ne_eq, not_false_eq_true, and_self, and_true, true_and, decide_true, decide_false, Int.reduceEq, Int.reduceLT, Int.reduceBEq, Int.reduceBNe, not_true_eq_false, undef, t5, hlen, w2, hs1] <;> rfl) ?_
  refine ops_call 17 _ rfl (get_spec v' q G1 (by omega) (getD_256 hq256) hs5) (by simp) ?_
  rw [vget_short q fun x hx => (hq x hx).1]
  refine ops_run (by simp only [runL, List.drop_succ_cons, List.drop_zero, awant_some, Option.getD_some, List.getElem?_toArray, List.getElem?_cons_succ, List.getElem?_cons_zero, Option.bind_some, b_tt, b_tf, b_ft, b_ff, Bool.not_true, Bool.not_false, List.take_succ_cons, List.take_zero, awant_none, astep, evl, put, ap_none, ap_new, ap_wr, List.length_nil, List.length_cons, Nat.add_zero, Nat.zero_add, upd_app, stepBin, abin, stepUn, stepPick, stepExtract, stepCall, if_true, if_false, reduceCtorEq, ↓reduceIte, Nat.reduceEqDiff, Nat.reduceAdd, List.map_cons, List.map_nil, Option.map_some, Option.map_none, Bool.false_eq_true, Int.reduceLE, Int.reduceToNat, ne_eq, not_false_eq_true, and_self, and_true, true_and, decide_true, decide_false, Int.reduceEq, Int.reduceLT, Int.reduceBEq, Int.reduceBNe, not_true_eq_false, undef, gres] <;> rfl) ?_
  refine w_gen (fun t => t 1 = .int .i64 k ∧ t 5 = .slice (some ⟨n, 0, some (vput a).length⟩) (vput a).length 1 ∧ t 8 = .bool false) (by simp [upd_app, put, t1, t5]) ?_
  clear t1 t5
  rintro t ⟨t1, t5, t8⟩
  refine s_take 2 (by simp only [runL, List.drop_succ_cons, List.drop_zero, awant_some, Option.getD_some, List.getElem?_toArray, List.getElem?_cons_succ, List.getElem?_cons_zero, Option.bind_some, b_tt, b_tf, b_ft, b_ff, Bool.not_true, Bool.not_false, List.take_succ_cons, List.take_zero, awant_none, astep, evl, put, ap_none, ap_new, ap_wr, List.length_nil, List.length_cons, Nat.add_zero, Nat.zero_add, upd_app, stepBin, abin, stepUn, stepPick, stepExtract, stepCall, if_true, if_false, reduceCtorEq, ↓reduceIte, Nat.reduceEqDiff, Nat.reduceAdd, List.map_cons, List.map_nil, Option.map_some, Option.map_none, Bool.false_eq_true, Int.reduceLE, Int.reduceToNat, ne_eq, not_false_eq_true, and_self, and_true, true_and, decide_true, decide_false, Int.reduceEq, Int.reduceLT, Int.reduceBEq, Int.reduceBNe, not_true_eq_false, undef, t5, lit0] <;> rfl) (ops_heap fun G2 hG2 => ?_)
  have e2 : ∀ k, k < n → G2 k = g2 k := fun k hk => by rw [hG2]; simp [upd_app, e1 k hk]; omega
  have e2n : G2 n = some ⟨false, 5, bs (vput a)⟩ := by rw [hG2]; simp [upd_app, e1n]
  have o2 : OwnI 5 1 G2 (.slice (some ⟨n + 1, 0, some 0⟩) 0 1) 0 [] (some (n + 1)) := .inr ⟨n + 1, rfl, rfl, by rw [hG2]; simp [upd_app], rfl⟩
  obtain ⟨f3, i3, hf3, o3, hi3, hk3⟩ := own_append (P := Try.prog) (n := n + 1 + 1) (T := 23) o2 (src_own (l := vput a) e2n).cells (by simp) Try.underlying23 tinf5 (by omega) (by omega) (by omega)
  rcases hi3 with ⟨rfl, ha3⟩ | ⟨h, _⟩
  case inr => cases h
  refine ops_step f3 (by simp only [runL, List.drop_succ_cons, List.drop_zero, awant_some, Option.getD_some, List.getElem?_toArray, List.getElem?_cons_succ, List.getElem?_cons_zero, Option.bind_some, b_tt, b_tf, b_ft, b_ff, Bool.not_true, Bool.not_false, List.take_succ_cons, List.take_zero, awant_none, astep, evl, put, ap_none, ap_new, ap_wr, List.length_nil, List.length_cons, Nat.add_zero, Nat.zero_add, upd_app, stepBin, abin, stepUn, stepPick, stepExtract, stepCall, if_true, if_false, reduceCtorEq, ↓reduceIte, Nat.reduceEqDiff, Nat.reduceAdd, List.map_cons, List.map_nil, Option.map_some, Option.map_none, Bool.false_eq_true, Int.reduceLE, Int.reduceToNat, ne_eq, not_false_eq_true, and_self, and_true, true_and, decide_true, decide_false, Int.reduceEq, Int.reduceLT, Int.reduceBEq, Int.reduceBNe, not_true_eq_false, undef, t5, hf3]) rfl (ops_heap fun G3 hG3 => ?_)
  rw [← hG3] at o3 hk3
  have e3 : ∀ k, k < n → G3 k = g2 k := fun k hk => by rw [hk3 k (by omega) (by simp; omega), e2 k hk]
  rcases o3 with ⟨h, _⟩ | ⟨k3, h3, hv3, hg3, hl3⟩
  · cases h
  cases h3
  rw [List.nil_append] at hv3 hg3
  have hbl : (bs (vput a)).length = (vput a).length := by simp
  rw [hbl, Nat.zero_add] at hv3
  refine ops_run (by simp only [runL, List.drop_succ_cons, List.drop_zero, awant_some, Option.getD_some, List.getElem?_toArray, List.getElem?_cons_succ, List.getElem?_cons_zero, Option.bind_some, b_tt, b_tf, b_ft, b_ff, Bool.not_true, Bool.not_false, List.take_succ_cons, List.take_zero, awant_none, astep, evl, put, ap_none, ap_new, ap_wr, List.length_nil, List.length_cons, Nat.add_zero, Nat.zero_add, upd_app, stepBin, abin, stepUn, stepPick, stepExtract, stepCall, if_true, if_false, reduceCtorEq, ↓reduceIte, Nat.reduceEqDiff, Nat.reduceAdd, List.map_cons, List.map_nil, Option.map_some, Option.map_none, Bool.false_eq_true, Int.reduceLE, Int.reduceToNat, ne_eq, not_false_eq_true, and_self, and_true, true_and, decide_true, decide_false, Int.reduceEq, Int.reduceLT, Int.reduceBEq, Int.reduceBNe, not_true_eq_false, undef, hv3] <;> rfl) ?_
  refine w_gen (fun t => t 1 = .int .i64 k ∧ t 8 = .bool false ∧ t 9 = .slice (some ⟨n + 1, 0, some (vput a).length⟩) (vput a).length 1) (by simp [upd_app, put, t1, t8]) ?_
  clear t1 t5 t8
  rintro t ⟨t1, t8, t9⟩
  have hat : (bs (vput a))[q.length]? = some (.int .u8 (c : Int)) := by rw [hqc]; simp
  obtain ⟨i1, i2, i4⟩ := own_at (P := Try.prog) (T := 23) hg3 hat Try.underlying23 tsize5 aggT5
  rw [hbl] at i1 i2 i4
  have hlen3 := (src_own (g := G3) (l := vput a) hg3).len Try.underlying23
  have hset : (bs (vput a)).set q.length (.int .u8 ((c + 128 : Nat) : Int)) = bs (q ++ [c + 128]) := by rw [hqc]; simp [bs]
  refine s_run (by simp only [runL, List.drop_succ_cons, List.drop_zero, awant_some, Option.getD_some, List.getElem?_toArray, List.getElem?_cons_succ, List.getElem?_cons_zero, Option.bind_some, b_tt, b_tf, b_ft, b_ff, Bool.not_true, Bool.not_false, List.take_succ_cons, List.take_zero, awant_none, astep, evl, put, ap_none, ap_new, ap_wr, List.length_nil, List.length_cons, Nat.add_zero, Nat.zero_add, upd_app, stepBin, abin, stepUn, stepPick, stepExtract, stepCall, if_true, if_false, reduceCtorEq, ↓reduceIte, Nat.reduceEqDiff, Nat.reduceAdd, List.map_cons, List.map_nil, Option.map_some, Option.map_none, Bool.false_eq_true, Int.reduceLE, Int.reduceToNat, ne_eq, not_false_eq_true, and_self, and_true, true_and, decide_true, decide_false, Int.reduceEq, Int.reduceLT, Int.reduceBEq, Int.reduceBNe, not_true_eq_false, undef, t9, hlen3, w2, i1, i2, i4, or128_u8 c hc, hset] <;> rfl) (w_heap fun G4 hG4 => ?_)
  have g4 : G4 (n + 1) = some ⟨false, 5, bs (q ++ [c + 128])⟩ := by rw [hG4]; simp [upd_app]
  have e4 : ∀ k, k < n → G4 k = g2 k := fun k hk => by rw [hG4]; simp [upd_app, e3 k hk]; omega
  have hk1 : 1 ≤ k := by omega
  refine w_assoc (s_run (by simp only [runL, List.drop_succ_cons, List.drop_zero, awant_some, Option.getD_some, List.getElem?_toArray, List.getElem?_cons_succ, List.getElem?_cons_zero, Option.bind_some, b_tt, b_tf, b_ft, b_ff, Bool.not_true, Bool.not_false, List.take_succ_cons, List.take_zero, awant_none, astep, evl, put, ap_none, ap_new, ap_wr, List.length_nil, List.length_cons, Nat.add_zero, Nat.zero_add, upd_app, stepBin, abin, stepUn, stepPick, stepExtract, stepCall, if_true, if_false, reduceCtorEq, ↓reduceIte, Nat.reduceEqDiff, Nat.reduceAdd, List.map_cons, List.map_nil, Option.map_some, Option.map_none, Bool.false_eq_true, Int.reduceLE, Int.reduceToNat, ne_eq, not_false_eq_true, and_self, and_true, true_and, decide_true, decide_false, Int.reduceEq, Int.reduceLT, Int.reduceBEq, Int.reduceBNe, not_true_eq_false, undef] <;> rfl) ?_)
  refine s_block (fun t g n' => ∃ i' : Option Nat, t 8 = .bool false ∧ OwnI 5 1 g (t 9) (q.length + k) (bs (q ++ [c + 128] ++ List.replicate (k - 1) 128)) i' ∧ (∀ x, i' = some x → n ≤ x ∧ x < n') ∧ (∀ x, x < n → g x = g2 x) ∧ n ≤ n') ?_ ?_
  · refine w_loop (fun t g n' => ∃ (i : Nat) (i' : Option Nat), 1 ≤ i ∧ i ≤ k ∧ t 1 = .int .i64 k ∧ t 10 = .int .i64 i ∧ t 8 = .bool false ∧ OwnI 5 1 g (t 9) (q.length + i) (bs (q ++ [c + 128] ++ List.replicate (i - 1) 128)) i' ∧ (∀ x, i' = some x → n ≤ x ∧ x < n') ∧ (∀ x, x < n → g x = g2 x) ∧ n ≤ n')
      (fun t _ _ => match t 10 with | .int _ i => k - i.toNat | _ => 0) ⟨1, some (n + 1), by omega, by omega, by simp [upd_app, t1], by simp [upd_app], by simp [upd_app, t8], .inr ⟨n + 1, rfl, by simp [upd_app, t9, hL], by simp [g4], by simp⟩, fun x hx => by cases hx; omega, e4, by omega⟩ ?_
    rintro t g n' ⟨i, i', hi1, hik, t1, t10, t8, hO, hi', hgk, hnn⟩
    by_cases hlt : i < k
    · have d : decide ((i : Int) < (k : Int)) = true := by simp [hlt]
      refine w_assoc (s_run (by simp only [runL, List.drop_succ_cons, List.drop_zero, awant_some, Option.getD_some, List.getElem?_toArray, List.getElem?_cons_succ, List.getElem?_cons_zero, Option.bind_some, b_tt, b_tf, b_ft, b_ff, Bool.not_true, Bool.not_false, List.take_succ_cons, List.take_zero, awant_none, astep, evl, put, ap_none, ap_new, ap_wr, List.length_nil, List.length_cons, Nat.add_zero, Nat.zero_add, upd_app, stepBin, abin, stepUn, stepPick, stepExtract, stepCall, if_true, if_false, reduceCtorEq, ↓reduceIte, Nat.reduceEqDiff, Nat.reduceAdd, List.map_cons, List.map_nil, Option.map_some, Option.map_none, Bool.false_eq_true, Int.reduceLE, Int.reduceToNat, ne_eq, not_false_eq_true, and_self, and_true, true_and, decide_true, decide_false, Int.reduceEq, Int.reduceLT, Int.reduceBEq, Int.reduceBNe, not_true_eq_false, undef, t1, t10, d] <;> rfl) ?_)
      refine s_true (by simp [evl, upd_app]) (s_skip (w_seq (w_block ?_)))
      obtain ⟨f, j', hf, hO', hj', hk'⟩ := own_push (P := Try.prog) (n := n') (T := 23) (c := .int .u8 128) hO (fun x hx => (hi' x hx).2) Try.underlying23 tinf5 (by omega) (by omega)
      refine region_run (id := 10) (by simp only [runL, List.drop_succ_cons, List.drop_zero, awant_some, Option.getD_some, List.getElem?_toArray, List.getElem?_cons_succ, List.getElem?_cons_zero, Option.bind_some, b_tt, b_tf, b_ft, b_ff, Bool.not_true, Bool.not_false, List.take_succ_cons, List.take_zero, awant_none, astep, evl, put, ap_none, ap_new, ap_wr, List.length_nil, List.length_cons, Nat.add_zero, Nat.zero_add, upd_app, stepBin, abin, stepUn, stepPick, stepExtract, stepCall, if_true, if_false, reduceCtorEq, ↓reduceIte, Nat.reduceEqDiff, Nat.reduceAdd, List.map_cons, List.map_nil, Option.map_some, Option.map_none, Bool.false_eq_true, Int.reduceLE, Int.reduceToNat, ne_eq, not_false_eq_true, and_self, and_true, true_and, decide_true, decide_false, Int.reduceEq, Int.reduceLT, Int.reduceBEq, Int.reduceBNe, not_true_eq_false, undef, lit23, hf] <;> rfl) ?_
      have w5 : IntKind.i64.wrap ((i : Int) + 1) = ((i + 1 : Nat) : Int) := by rw [wrap64_of (by omega) (by omega)]; simp
      refine region_run (id := 9) (by simp only [runL, List.drop_succ_cons, List.drop_zero, awant_some, Option.getD_some, List.getElem?_toArray, List.getElem?_cons_succ, List.getElem?_cons_zero, Option.bind_some, b_tt, b_tf, b_ft, b_ff, Bool.not_true, Bool.not_false, List.take_succ_cons, List.take_zero, awant_none, astep, evl, put, ap_none, ap_new, ap_wr, List.length_nil, List.length_cons, Nat.add_zero, Nat.zero_add, upd_app, stepBin, abin, stepUn, stepPick, stepExtract, stepCall, if_true, if_false, reduceCtorEq, ↓reduceIte, Nat.reduceEqDiff, Nat.reduceAdd, List.map_cons, List.map_nil, Option.map_some, Option.map_none, Bool.false_eq_true, Int.reduceLE, Int.reduceToNat, ne_eq, not_false_eq_true, and_self, and_true, true_and, decide_true, decide_false, Int.reduceEq, Int.reduceLT, Int.reduceBEq, Int.reduceBNe, not_true_eq_false, undef, t10, w5] <;> rfl) ?_
      have hrep : bs (q ++ [c + 128] ++ List.replicate (i - 1) 128) ++ [Value.int .u8 128] = bs (q ++ [c + 128] ++ List.replicate (i + 1 - 1) 128) := by
        obtain ⟨m, rfl⟩ : ∃ m, i = m + 1 := ⟨i - 1, by omega⟩
        simp only [Nat.add_sub_cancel, List.replicate_succ' (n := m)]
        simp [bs]
      rw [hrep] at hO'
      refine ⟨⟨i + 1, j', by omega, by omega, by simp [upd_app, t1], by simp [upd_app], by simp [upd_app, t8], by simpa [upd_app, Nat.add_assoc] using hO', fun x hx => ?_, fun x hx => ?_, by omega⟩, ?_⟩
      · have := hj' x hx
        rcases this.1 with h | h
        · have := hi' x h; omega
        · omega
      · rw [hk' x (by omega) (fun e => by have := hi' x e.symm; omega)]
        exact hgk x hx
      · rw [t10]
        simp only [upd_app, if_true, Int.toNat_natCast]
        omega
    · have d : decide ((i : Int) < (k : Int)) = false := by simp; omega
      have : i = k := by omega
      subst this
      refine w_assoc (s_run (by simp only [runL, List.drop_succ_cons, List.drop_zero, awant_some, Option.getD_some, List.getElem?_toArray, List.getElem?_cons_succ, List.getElem?_cons_zero, Option.bind_some, b_tt, b_tf, b_ft, b_ff, Bool.not_true, Bool.not_false, List.take_succ_cons, List.take_zero, awant_none, astep, evl, put, ap_none, ap_new, ap_wr, List.length_nil, List.length_cons, Nat.add_zero, Nat.zero_add, upd_app, stepBin, abin, stepUn, stepPick, stepExtract, stepCall, if_true, if_false, reduceCtorEq, ↓reduceIte, Nat.reduceEqDiff, Nat.reduceAdd, List.map_cons, List.map_nil, Option.map_some, Option.map_none, Bool.false_eq_true, Int.reduceLE, Int.reduceToNat, ne_eq, not_false_eq_true, and_self, and_true, true_and, decide_true, decide_false, Int.reduceEq, Int.reduceLT, Int.reduceBEq, Int.reduceBNe, not_true_eq_false, undef, t1, t10, d] <;> rfl) ?_)
      refine s_false (by simp [evl, upd_app]) (s_exit ?_)
      exact ⟨i', by simpa [upd_app] using t8, by simpa [upd_app] using hO, hi', hgk, hnn⟩
  · rintro t g n' ⟨i', t8, hO, hi', hgk, hnn⟩
    obtain ⟨f, j', hf, hO', hj', hk'⟩ := own_push (P := Try.prog) (n := n') (T := 23) (c := .int .u8 0) hO (fun x hx => (hi' x hx).2) Try.underlying23 tinf5 (by omega) (by omega)
    refine s_take 3 (by simp only [runL, List.drop_succ_cons, List.drop_zero, awant_some, Option.getD_some, List.getElem?_toArray, List.getElem?_cons_succ, List.getElem?_cons_zero, Option.bind_some, b_tt, b_tf, b_ft, b_ff, Bool.not_true, Bool.not_false, List.take_succ_cons, List.take_zero, awant_none, astep, evl, put, ap_none, ap_new, ap_wr, List.length_nil, List.length_cons, Nat.add_zero, Nat.zero_add, upd_app, stepBin, abin, stepUn, stepPick, stepExtract, stepCall, if_true, if_false, reduceCtorEq, ↓reduceIte, Nat.reduceEqDiff, Nat.reduceAdd, List.map_cons, List.map_nil, Option.map_some, Option.map_none, Bool.false_eq_true, Int.reduceLE, Int.reduceToNat, ne_eq, not_false_eq_true, and_self, and_true, true_and, decide_true, decide_false, Int.reduceEq, Int.reduceLT, Int.reduceBEq, Int.reduceBNe, not_true_eq_false, undef, lit23, hf] <;> rfl) (ops_heap fun G5 hG5 => ?_)
    rw [← hG5] at hO' hk'
    have hy : bs (q ++ [c + 128] ++ List.replicate (k - 1) 128) ++ [Value.int .u8 0] = bs (q ++ [c + 128] ++ List.replicate (k - 1) 128 ++ [0]) := by simp [bs]
    have hyl : q.length + k + 1 = (q ++ [c + 128] ++ List.replicate (k - 1) 128 ++ [0]).length := by simp; omega
    rw [hy, hyl] at hO'
    have hbig : ∀ x ∈ q ++ [c + 128] ++ List.replicate (k - 1) 128, 128 ≤ x ∧ x < 256 := fun x hx => by
      simp only [List.mem_append, List.mem_singleton, List.mem_replicate] at hx
      rcases hx with (h | h) | h
      · exact hq x h
      · omega
      · omega
    have hb5 : ∀ x ∈ q ++ [c + 128] ++ List.replicate (k - 1) 128 ++ [0], x < 256 := fun x hx => by
      rcases List.mem_append.1 hx with h | h
      · exact (hbig x h).2
      · simp at h; omega
    refine ops_call 17 _ rfl (get_spec f.v _ G5 (by rw [← hyl]; omega) (getD_256 hb5) hO'.toSrc) (by simp) ?_
    rw [vget_idle _ (fun x hx => (hbig x hx).1) (by simp)]
    refine ops_run (by simp only [runL, List.drop_succ_cons, List.drop_zero, awant_some, Option.getD_some, List.getElem?_toArray, List.getElem?_cons_succ, List.getElem?_cons_zero, Option.bind_some, b_tt, b_tf, b_ft, b_ff, Bool.not_true, Bool.not_false, List.take_succ_cons, List.take_zero, awant_none, astep, evl, put, ap_none, ap_new, ap_wr, List.length_nil, List.length_cons, Nat.add_zero, Nat.zero_add, upd_app, stepBin, abin, stepUn, stepPick, stepExtract, stepCall, if_true, if_false, reduceCtorEq, ↓reduceIte, Nat.reduceEqDiff, Nat.reduceAdd, List.map_cons, List.map_nil, Option.map_some, Option.map_none, Bool.false_eq_true, Int.reduceLE, Int.reduceToNat, ne_eq, not_false_eq_true, and_self, and_true, true_and, decide_true, decide_false, Int.reduceEq, Int.reduceLT, Int.reduceBEq, Int.reduceBNe, not_true_eq_false, undef, gres] <;> rfl) ?_
    refine s_take 7 (by simp only [runL, List.drop_succ_cons, List.drop_zero, awant_some, Option.getD_some, List.getElem?_toArray, List.getElem?_cons_succ, List.getElem?_cons_zero, Option.bind_some, b_tt, b_tf, b_ft, b_ff, Bool.not_true, Bool.not_false, List.take_succ_cons, List.take_zero, awant_none, astep, evl, put, ap_none, ap_new, ap_wr, List.length_nil, List.length_cons, Nat.add_zero, Nat.zero_add, upd_app, stepBin, abin, stepUn, stepPick, stepExtract, stepCall, if_true, if_false, reduceCtorEq, ↓reduceIte, Nat.reduceEqDiff, Nat.reduceAdd, List.map_cons, List.map_nil, Option.map_some, Option.map_none, Bool.false_eq_true, Int.reduceLE, Int.reduceToNat, ne_eq, not_false_eq_true, and_self, and_true, true_and, decide_true, decide_false, Int.reduceEq, Int.reduceLT, Int.reduceBEq, Int.reduceBNe, not_true_eq_false, undef, t8] <;> rfl) ?_
    refine g_call 19 _ (by simp only [runL, List.drop_succ_cons, List.drop_zero, awant_some, Option.getD_some, List.getElem?_toArray, List.getElem?_cons_succ, List.getElem?_cons_zero, Option.bind_some, b_tt, b_tf, b_ft, b_ff, Bool.not_true, Bool.not_false, List.take_succ_cons, List.take_zero, awant_none, astep, evl, put, ap_none, ap_new, ap_wr, List.length_nil, List.length_cons, Nat.add_zero, Nat.zero_add, upd_app, stepBin, abin, stepUn, stepPick, stepExtract, stepCall, if_true, if_false, reduceCtorEq, ↓reduceIte, Nat.reduceEqDiff, Nat.reduceAdd, List.map_cons, List.map_nil, Option.map_some, Option.map_none, Bool.false_eq_true, Int.reduceLE, Int.reduceToNat, ne_eq, not_false_eq_true, and_self, and_true, true_and, decide_true, decide_false, Int.reduceEq, Int.reduceLT, Int.reduceBEq, Int.reduceBNe, not_true_eq_false, undef] <;> rfl) rfl (known_spec _) (by simp) ?_
    refine ops_run (by simp only [runL, List.drop_succ_cons, List.drop_zero, awant_some, Option.getD_some, List.getElem?_toArray, List.getElem?_cons_succ, List.getElem?_cons_zero, Option.bind_some, b_tt, b_tf, b_ft, b_ff, Bool.not_true, Bool.not_false, List.take_succ_cons, List.take_zero, awant_none, astep, evl, put, ap_none, ap_new, ap_wr, List.length_nil, List.length_cons, Nat.add_zero, Nat.zero_add, upd_app, stepBin, abin, stepUn, stepPick, stepExtract, stepCall, if_true, if_false, reduceCtorEq, ↓reduceIte, Nat.reduceEqDiff, Nat.reduceAdd, List.map_cons, List.map_nil, Option.map_some, Option.map_none, Bool.false_eq_true, Int.reduceLE, Int.reduceToNat, ne_eq, not_false_eq_true, and_self, and_true, true_and, decide_true, decide_false, Int.reduceEq, Int.reduceLT, Int.reduceBEq, Int.reduceBNe, not_true_eq_false, undef] <;> rfl) ?_
    refine w_ret ⟨.inr rfl, by simp, [], fin_none ?_ trivial ?_⟩
    · simp [resVal, upd_app]
    · intro x b hb
      have := hs x (hwf x b hb).1
      show G5 x = some b
      rw [hk' x (by omega) (fun e => by have := hi' x e.symm; omega), hgk x this, hb]
end Go.Proofs.Ytokmmcfnpobldaa

namespace Go.Proofs.Ytokmmcfnpobldaa
open Go Abs
set_option linter.unusedSimpArgs false
set_option linter.unusedVariables false

theorem mk4 (j : Nat) : stepMake Try.prog 23 (.int .i64 4) (.int .i64 4) j = some { v := .slice (some ⟨j, 0, some 4⟩) 4 1, j := j, a := [⟨false, 5, bs [0, 0, 0, 0]⟩] } := by
  simp [stepMake, Try.underlying23, tinf5]

theorem conv40_5 (x : Int) (g : Heap) : stepConv Try.prog 40 5 (.int .u32 x) g = some { v := .int .u8 (IntKind.u8.wrap x) } := by simp [stepConv, Try.underlying40, Try.underlying5]
theorem conv5_40 (x : Int) (g : Heap) : stepConv Try.prog 5 40 (.int .u8 x) g = some { v := .int .u32 (IntKind.u32.wrap x) } := by simp [stepConv, Try.underlying40, Try.underlying5]

def four (v : Nat) : List Nat := [v % 256, v / 256 % 256, v / 65536 % 256, v / 16777216 % 256]

theorem four_step (v k : Nat) (hk : k < 4) : (bs ((four v).take k ++ List.replicate (4 - k) 0)).set k (.int .u8 (IntKind.u8.wrap ((v / 2 ^ (8 * k) : Nat) : Int))) = bs ((four v).take (k + 1) ++ List.replicate (4 - (k + 1)) 0) := by
  rw [wrap_u8]
  obtain rfl | rfl | rfl | rfl : k = 0 ∨ k = 1 ∨ k = 2 ∨ k = 3 := by omega
  all_goals simp [four, bs, List.replicate]

set_option maxRecDepth 10000 in
theorem four_spec (v : Nat) (g : Heap) (j : Nat) : FnSpec Try.prog 29 [.int .u32 v] g { v := .slice (some ⟨j, 0, some 4⟩) 4 1, j := j, a := [⟨false, 5, bs (four v)⟩] } := by
  refine spec_of_body [2] follows Try.func29 rfl (by kernel_rfl) (by simp [Try.f29]) (by kernel_rfl) rfl ?_
  intro g2 s2 n hg hfr hs hn hwf hsv
  refine s_run (by simp only [runL, List.drop_succ_cons, List.drop_zero, awant_some, Option.getD_some, List.getElem?_toArray, List.getElem?_cons_succ, List.getElem?_cons_zero, Option.bind_some, b_tt, b_tf, b_ft, b_ff, Bool.not_true, Bool.not_false, List.take_succ_cons, List.take_zero, awant_none, astep, evl, put, ap_none, ap_new, ap_wr, List.length_nil, List.length_cons, Nat.add_zero, Nat.zero_add, upd_app, stepBin, abin, stepUn, stepPick, stepExtract, stepCall, if_true, if_false, reduceCtorEq, ↓reduceIte, Nat.reduceEqDiff, Nat.reduceAdd, List.map_cons, List.map_nil, Option.map_some, Option.map_none, Bool.false_eq_true, Int.reduceLE, Int.reduceToNat, ne_eq, not_false_eq_true, and_self, and_true, true_and, decide_true, decide_false, Int.reduceEq, Int.reduceLT, Int.reduceBEq, Int.reduceBNe, not_true_eq_false, undef] <;> rfl) ?_
  refine s_run (by simp only [runL, List.drop_succ_cons, List.drop_zero, awant_some, Option.getD_some, List.getElem?_toArray, List.getElem?_cons_succ, List.getElem?_cons_zero, Option.bind_some, b_tt, b_tf, b_ft, b_ff, Bool.not_true, Bool.not_false, List.take_succ_cons, List.take_zero, awant_none, astep, evl, put, ap_none, ap_new, ap_wr, List.length_nil, List.length_cons, Nat.add_zero, Nat.zero_add, upd_app, stepBin, abin, stepUn, stepPick, stepExtract, stepCall, if_true, if_false, reduceCtorEq, ↓reduceIte, Nat.reduceEqDiff, Nat.reduceAdd, List.map_cons, List.map_nil, Option.map_some, Option.map_none, Bool.false_eq_true, Int.reduceLE, Int.reduceToNat, ne_eq, not_false_eq_true, and_self, and_true, true_and, decide_true, decide_false, Int.reduceEq, Int.reduceLT, Int.reduceBEq, Int.reduceBNe, not_true_eq_false, undef, mk4] <;> rfl) (w_heap fun G hG => ?_)
  have hGn : G n = some ⟨false, 5, bs [0, 0, 0, 0]⟩ := by rw [hG]; simp [upd_app]
  have hG2 : ∀ i, i < n → G i = g2 i := fun i hi => by rw [hG]; simp [upd_app]; omega
  have hlen := (src_own (g := G) (l := [0, 0, 0, 0]) hGn).len Try.underlying23
  have hl4 : stepLen Try.prog 23 (.slice (some ⟨n, 0, some 4⟩) 4 1) = some { v := .int .i64 4 } := hlen
  refine w_assoc (s_run (by simp only [runL, List.drop_succ_cons, List.drop_zero, awant_some, Option.getD_some, List.getElem?_toArray, List.getElem?_cons_succ, List.getElem?_cons_zero, Option.bind_some, b_tt, b_tf, b_ft, b_ff, Bool.not_true, Bool.not_false, List.take_succ_cons, List.take_zero, awant_none, astep, evl, put, ap_none, ap_new, ap_wr, List.length_nil, List.length_cons, Nat.add_zero, Nat.zero_add, upd_app, stepBin, abin, stepUn, stepPick, stepExtract, stepCall, if_true, if_false, reduceCtorEq, ↓reduceIte, Nat.reduceEqDiff, Nat.reduceAdd, List.map_cons, List.map_nil, Option.map_some, Option.map_none, Bool.false_eq_true, Int.reduceLE, Int.reduceToNat, ne_eq, not_false_eq_true, and_self, and_true, true_and, decide_true, decide_false, Int.reduceEq, Int.reduceLT, Int.reduceBEq, Int.reduceBNe, not_true_eq_false, undef, hl4] <;> rfl) ?_)
  refine s_range 4 (fun k t g n' => t 3 = .slice (some ⟨n, 0, some 4⟩) 4 1 ∧ t 0 = .int .u32 v ∧ g n = some ⟨false, 5, bs ((four v).take k ++ List.replicate (4 - k) 0)⟩ ∧ ∀ i, i < n → g i = g2 i) (by omega) rfl rfl ⟨by simp [upd_app], by simp [upd_app], by rw [hGn]; rfl, hG2⟩ (by decide) ?_ ?_ ?_
  · rintro k t g n' x y hx ⟨h1, h2, h3, h4⟩
    refine ⟨?_, ?_, h3, h4⟩ <;> rw [upd_ne _ _ (by rcases hx with rfl | rfl | rfl <;> decide)] <;> assumption
  · rintro k t g n' hk t8 t7 ⟨t3, t0, hgn, hgo⟩
    have hl : (bs ((four v).take k ++ List.replicate (4 - k) 0)).length = 4 := by simp [four]; omega
    have hat : (bs ((four v).take k ++ List.replicate (4 - k) 0))[k]? = some (.int .u8 0) := by
      obtain rfl | rfl | rfl | rfl : k = 0 ∨ k = 1 ∨ k = 2 ∨ k = 3 := by omega
      all_goals rfl
    obtain ⟨i1, i2, i4⟩ := own_at (P := Try.prog) (T := 23) hgn hat Try.underlying23 tsize5 aggT5
    rw [hl] at i1 i2 i4
    have w1 : IntKind.i64.wrap (8 * (k : Int)) = ((8 * k : Nat) : Int) := by rw [wrap64_of (by omega) (by omega)]; simp
    have hsh := shr_nat .u32 v (8 * k) (show 8 * k ≤ 32 by omega)
    refine s_run (by simp only [runL, List.drop_succ_cons, List.drop_zero, awant_some, Option.getD_some, List.getElem?_toArray, List.getElem?_cons_succ, List.getElem?_cons_zero, Option.bind_some, b_tt, b_tf, b_ft, b_ff, Bool.not_true, Bool.not_false, List.take_succ_cons, List.take_zero, awant_none, astep, evl, put, ap_none, ap_new, ap_wr, List.length_nil, List.length_cons, Nat.add_zero, Nat.zero_add, upd_app, stepBin, abin, stepUn, stepPick, stepExtract, stepCall, if_true, if_false, reduceCtorEq, ↓reduceIte, Nat.reduceEqDiff, Nat.reduceAdd, List.map_cons, List.map_nil, Option.map_some, Option.map_none, Bool.false_eq_true, Int.reduceLE, Int.reduceToNat, ne_eq, not_false_eq_true, and_self, and_true, true_and, decide_true, decide_false, Int.reduceEq, Int.reduceLT, Int.reduceBEq, Int.reduceBNe, not_true_eq_false, undef, t8] <;> rfl) ?_
    refine region_run (by simp only [runL, List.drop_succ_cons, List.drop_zero, awant_some, Option.getD_some, List.getElem?_toArray, List.getElem?_cons_succ, List.getElem?_cons_zero, Option.bind_some, b_tt, b_tf, b_ft, b_ff, Bool.not_true, Bool.not_false, List.take_succ_cons, List.take_zero, awant_none, astep, evl, put, ap_none, ap_new, ap_wr, List.length_nil, List.length_cons, Nat.add_zero, Nat.zero_add, upd_app, stepBin, abin, stepUn, stepPick, stepExtract, stepCall, if_true, if_false, reduceCtorEq, ↓reduceIte, Nat.reduceEqDiff, Nat.reduceAdd, List.map_cons, List.map_nil, Option.map_some, Option.map_none, Bool.false_eq_true, Int.reduceLE, Int.reduceToNat, ne_eq, not_false_eq_true, and_self, and_true, true_and, decide_true, decide_false, Int.reduceEq, Int.reduceLT, Int.reduceBEq, Int.reduceBNe, not_true_eq_false, undef, t3, t0, t8, w1, conv40_5, i1, i4, hsh, four_step v k hk, show (0 : Int) ≤ ((8 * k : Nat) : Int) from Int.natCast_nonneg _] <;> rfl) ?_
    refine ⟨by simp [upd_app, t8], by simp [upd_app, t7], by simp [upd_app, t3], by simp [upd_app, t0], by simp [upd_app], fun i hi => ?_⟩
    simp only [upd_app, if_neg (show i ≠ n by omega)]
    exact hgo i hi
  · rintro t g n' ⟨t3, t0, hgn, hgo⟩
    refine s_run (by simp only [runL, List.drop_succ_cons, List.drop_zero, awant_some, Option.getD_some, List.getElem?_toArray, List.getElem?_cons_succ, List.getElem?_cons_zero, Option.bind_some, b_tt, b_tf, b_ft, b_ff, Bool.not_true, Bool.not_false, List.take_succ_cons, List.take_zero, awant_none, astep, evl, put, ap_none, ap_new, ap_wr, List.length_nil, List.length_cons, Nat.add_zero, Nat.zero_add, upd_app, stepBin, abin, stepUn, stepPick, stepExtract, stepCall, if_true, if_false, reduceCtorEq, ↓reduceIte, Nat.reduceEqDiff, Nat.reduceAdd, List.map_cons, List.map_nil, Option.map_some, Option.map_none, Bool.false_eq_true, Int.reduceLE, Int.reduceToNat, ne_eq, not_false_eq_true, and_self, and_true, true_and, decide_true, decide_false, Int.reduceEq, Int.reduceLT, Int.reduceBEq, Int.reduceBNe, not_true_eq_false, undef, t3] <;> rfl) ?_
    refine w_ret ⟨.inr rfl, by simp, [n], ?_⟩
    have := fin_slice (s2 := s2) (g2 := g2) (n := n) (j := j) (r := []) (k := n) (e := 5) (cs := bs (four v)) (m := 4) (esz := 1) (v' := .slice (some ⟨n, 0, some 4⟩) 4 1) rfl (Nat.le_refl _) (by simpa [four] using hgn) plain_ints (fun i b hb => by
      rw [hgo i (hs i (hwf i b hb).1)]; exact hb)
    simpa [resVal, upd_app, four] using this
end Go.Proofs.Ytokmmcfnpobldaa

namespace Go.Proofs.Ytokmmcfnpobldaa
open Go Abs
set_option linter.unusedSimpArgs false
set_option linter.unusedVariables false

theorem wrapU32_nat {p : Nat} (h : p < 2 ^ 32) : IntKind.u32.wrap (p : Int) = (p : Int) := by rw [IntKind.wrap_u32']; omega
theorem wf_u32 {a : Int} (h : (Lit.int .u32 a).wf = true) : ∃ n : Nat, a = n ∧ n < 2 ^ 32 := by
  have h1 : 0 ≤ a ∧ a < 2 ^ 32 := by
    simp [Lit.wf, IntKind.min, IntKind.max, IntKind.signed, IntKind.bits] at h
    omega
  exact ⟨a.toNat, by omega, by omega⟩

set_option maxRecDepth 10000 in
theorem lawFour_spec (v : Nat) (hv : v < 2 ^ 32) (g : Heap) : FnSpec Try.prog 12 [.int .u32 v] g { v := .bool true } := by
  refine spec_of_body [2] follows Try.func12 rfl (by kernel_rfl) (by simp [Try.f12]) (by kernel_rfl) rfl ?_
  intro g2 s2 n hg hfr hs hn hwf hsv
  refine s_run (by simp only [runL, List.drop_succ_cons, List.drop_zero, awant_some, Option.getD_some, List.getElem?_toArray, List.getElem?_cons_succ, List.getElem?_cons_zero, Option.bind_some, b_tt, b_tf, b_ft, b_ff, Bool.not_true, Bool.not_false, List.take_succ_cons, List.take_zero, awant_none, astep, evl, put, ap_none, ap_new, ap_wr, List.length_nil, List.length_cons, Nat.add_zero, Nat.zero_add, upd_app, stepBin, abin, stepUn, stepPick, stepExtract, stepCall, if_true, if_false, reduceCtorEq, ↓reduceIte, Nat.reduceEqDiff, Nat.reduceAdd, List.map_cons, List.map_nil, Option.map_some, Option.map_none, Bool.false_eq_true, Int.reduceLE, Int.reduceToNat, ne_eq, not_false_eq_true, and_self, and_true, true_and, decide_true, decide_false, Int.reduceEq, Int.reduceLT, Int.reduceBEq, Int.reduceBNe, not_true_eq_false, undef] <;> rfl) ?_
  refine s_take 1 (by simp only [runL, List.drop_succ_cons, List.drop_zero, awant_some, Option.getD_some, List.getElem?_toArray, List.getElem?_cons_succ, List.getElem?_cons_zero, Option.bind_some, b_tt, b_tf, b_ft, b_ff, Bool.not_true, Bool.not_false, List.take_succ_cons, List.take_zero, awant_none, astep, evl, put, ap_none, ap_new, ap_wr, List.length_nil, List.length_cons, Nat.add_zero, Nat.zero_add, upd_app, stepBin, abin, stepUn, stepPick, stepExtract, stepCall, if_true, if_false, reduceCtorEq, ↓reduceIte, Nat.reduceEqDiff, Nat.reduceAdd, List.map_cons, List.map_nil, Option.map_some, Option.map_none, Bool.false_eq_true, Int.reduceLE, Int.reduceToNat, ne_eq, not_false_eq_true, and_self, and_true, true_and, decide_true, decide_false, Int.reduceEq, Int.reduceLT, Int.reduceBEq, Int.reduceBNe, not_true_eq_false, undef] <;> rfl) ?_
  refine ops_call 29 _ rfl (four_spec v _ _) (by intro _; rfl) (ops_heap fun G hG => ?_)
  refine ops_run (by simp only [runL, List.drop_succ_cons, List.drop_zero, awant_some, Option.getD_some, List.getElem?_toArray, List.getElem?_cons_succ, List.getElem?_cons_zero, Option.bind_some, b_tt, b_tf, b_ft, b_ff, Bool.not_true, Bool.not_false, List.take_succ_cons, List.take_zero, awant_none, astep, evl, put, ap_none, ap_new, ap_wr, List.length_nil, List.length_cons, Nat.add_zero, Nat.zero_add, upd_app, stepBin, abin, stepUn, stepPick, stepExtract, stepCall, if_true, if_false, reduceCtorEq, ↓reduceIte, Nat.reduceEqDiff, Nat.reduceAdd, List.map_cons, List.map_nil, Option.map_some, Option.map_none, Bool.false_eq_true, Int.reduceLE, Int.reduceToNat, ne_eq, not_false_eq_true, and_self, and_true, true_and, decide_true, decide_false, Int.reduceEq, Int.reduceLT, Int.reduceBEq, Int.reduceBNe, not_true_eq_false, undef] <;> rfl) ?_
  refine w_gen (fun t => t 0 = .int .u32 v ∧ t 3 = .slice (some ⟨n, 0, some 4⟩) 4 1) (by simp [upd_app]) ?_
  rintro t ⟨t0, t3⟩
  have hGn : G n = some ⟨false, 5, bs (four v)⟩ := by simp [hG, ap_new, upd_app]
  have hold : ∀ i b, g2 i = some b → G i = some b := fun i b hb => by
    have := hs i (hwf i b hb).1
    simp [hG, ap_new, upd_app, show i ≠ n by omega, hb]
  have hl4 : stepLen Try.prog 23 (.slice (some ⟨n, 0, some 4⟩) 4 1) = some { v := .int .i64 4 } := (src_own (g := G) (l := four v) hGn).len Try.underlying23
  obtain ⟨x0, y0, _⟩ := own_at (P := Try.prog) (T := 23) hGn (i := 0) (c := .int .u8 ((v % 256 : Nat) : Int)) rfl Try.underlying23 tsize5 aggT5
  obtain ⟨x1, y1, _⟩ := own_at (P := Try.prog) (T := 23) hGn (i := 1) (c := .int .u8 ((v / 256 % 256 : Nat) : Int)) rfl Try.underlying23 tsize5 aggT5
  obtain ⟨x2, y2, _⟩ := own_at (P := Try.prog) (T := 23) hGn (i := 2) (c := .int .u8 ((v / 65536 % 256 : Nat) : Int)) rfl Try.underlying23 tsize5 aggT5
  obtain ⟨x3, y3, _⟩ := own_at (P := Try.prog) (T := 23) hGn (i := 3) (c := .int .u8 ((v / 16777216 % 256 : Nat) : Int)) rfl Try.underlying23 tsize5 aggT5
  have z0 : stepIndex Try.prog 23 (.slice (some ⟨n, 0, some 4⟩) 4 1) (.int .i64 0) = some { v := .pointer (some ⟨n, 0, some 4⟩) } := x0 .i64
  have z1 : stepIndex Try.prog 23 (.slice (some ⟨n, 0, some 4⟩) 4 1) (.int .i64 1) = some { v := .pointer (some ⟨n, 1, some 4⟩) } := x1 .i64
  have z2 : stepIndex Try.prog 23 (.slice (some ⟨n, 0, some 4⟩) 4 1) (.int .i64 2) = some { v := .pointer (some ⟨n, 2, some 4⟩) } := x2 .i64
  have z3 : stepIndex Try.prog 23 (.slice (some ⟨n, 0, some 4⟩) 4 1) (.int .i64 3) = some { v := .pointer (some ⟨n, 3, some 4⟩) } := x3 .i64
  have hbl : (bs (four v)).length = 4 := rfl
  rw [hbl] at y0 y1 y2 y3
  have h0 := Nat.mod_lt v (show 256 > 0 by omega)
  have h1 := Nat.mod_lt (v / 256) (show 256 > 0 by omega)
  have h2 := Nat.mod_lt (v / 65536) (show 256 > 0 by omega)
  have h3 := Nat.mod_lt (v / 16777216) (show 256 > 0 by omega)
  have hsum : v % 256 + v / 256 % 256 * 256 + v / 65536 % 256 * 65536 + v / 16777216 % 256 * 16777216 = v := by omega
  generalize v % 256 = b0 at *
  generalize v / 256 % 256 = b1 at *
  generalize v / 65536 % 256 = b2 at *
  generalize v / 16777216 % 256 = b3 at *
  have c0 := wrapU32_nat (p := b0) (by omega)
  have c1 := wrapU32_nat (p := b1) (by omega)
  have c2 := wrapU32_nat (p := b2) (by omega)
  have c3 := wrapU32_nat (p := b3) (by omega)
  have m1 : IntKind.u32.wrap ((b1 : Int) * 256) = ((b1 * 256 : Nat) : Int) := by rw [IntKind.wrap_u32']; omega
  have m2 : IntKind.u32.wrap ((b2 : Int) * 65536) = ((b2 * 65536 : Nat) : Int) := by rw [IntKind.wrap_u32']; omega
  have m3 : IntKind.u32.wrap ((b3 : Int) * 16777216) = ((b3 * 16777216 : Nat) : Int) := by rw [IntKind.wrap_u32']; omega
  have p1 : IntKind.u32.wrap ((b0 : Int) + ((b1 * 256 : Nat) : Int)) = ((b0 + b1 * 256 : Nat) : Int) := by rw [IntKind.wrap_u32']; omega
  have p2 : IntKind.u32.wrap (((b0 + b1 * 256 : Nat) : Int) + ((b2 * 65536 : Nat) : Int)) = ((b0 + b1 * 256 + b2 * 65536 : Nat) : Int) := by rw [IntKind.wrap_u32']; omega
  have p3 : IntKind.u32.wrap (((b0 + b1 * 256 + b2 * 65536 : Nat) : Int) + ((b3 * 16777216 : Nat) : Int)) = ((b0 + b1 * 256 + b2 * 65536 + b3 * 16777216 : Nat) : Int) := by rw [IntKind.wrap_u32']; omega
  rw [hsum] at p3
  refine s_drawn #[0, 1, 3, 7, 15, 31, 63, 127, 15, 271, 783, 1807, 3855, 8191, 15, 16399, 49167, 114703, 245775, 524287, 15, 1048591, 3145743, 7340047, 15728655, 33554431, 15, 134217727, 268435455, 536870911, 1073741823, 2147483647, 4294967295] (by decide +kernel) ?_
  refine d_reads 4 (by simp) (by simp only [runR, List.drop_succ_cons, List.drop_zero, awant_some, Option.getD_some, List.getElem?_toArray, List.getElem?_cons_succ, List.getElem?_cons_zero, Option.bind_some, b_tt, b_tf, b_ft, b_ff, Bool.not_true, Bool.not_false, List.take_succ_cons, List.take_zero, awant_none, astep, evl, put, ap_none, ap_new, ap_wr, List.length_nil, List.length_cons, Nat.add_zero, Nat.zero_add, upd_app, stepBin, abin, stepUn, stepPick, stepExtract, stepCall, if_true, if_false, reduceCtorEq, ↓reduceIte, Nat.reduceEqDiff, Nat.reduceAdd, List.map_cons, List.map_nil, Option.map_some, Option.map_none, Bool.false_eq_true, Int.reduceLE, Int.reduceToNat, ne_eq, not_false_eq_true, and_self, and_true, true_and, decide_true, decide_false, Int.reduceEq, Int.reduceLT, Int.reduceBEq, Int.reduceBNe, not_true_eq_false, undef, List.isEmpty_nil, Bool.and_self, Bool.and_true, t3, hl4, beq_self_eq_true] <;> rfl) fun a1 ha1 => ?_
  refine d_reads 10 ha1 (by simp only [runR, List.drop_succ_cons, List.drop_zero, awant_some, Option.getD_some, List.getElem?_toArray, List.getElem?_cons_succ, List.getElem?_cons_zero, Option.bind_some, b_tt, b_tf, b_ft, b_ff, Bool.not_true, Bool.not_false, List.take_succ_cons, List.take_zero, awant_none, astep, evl, put, ap_none, ap_new, ap_wr, List.length_nil, List.length_cons, Nat.add_zero, Nat.zero_add, upd_app, stepBin, abin, stepUn, stepPick, stepExtract, stepCall, if_true, if_false, reduceCtorEq, ↓reduceIte, Nat.reduceEqDiff, Nat.reduceAdd, List.map_cons, List.map_nil, Option.map_some, Option.map_none, Bool.false_eq_true, Int.reduceLE, Int.reduceToNat, ne_eq, not_false_eq_true, and_self, and_true, true_and, decide_true, decide_false, Int.reduceEq, Int.reduceLT, Int.reduceBEq, Int.reduceBNe, not_true_eq_false, undef, List.isEmpty_nil, Bool.and_self, Bool.and_true, t0, t3, z0, z1, y0, y1, conv5_40, c0, c1, m1, p1] <;> rfl) fun a2 ha2 => ?_
  refine d_reads 6 ha2 (by simp only [runR, List.drop_succ_cons, List.drop_zero, awant_some, Option.getD_some, List.getElem?_toArray, List.getElem?_cons_succ, List.getElem?_cons_zero, Option.bind_some, b_tt, b_tf, b_ft, b_ff, Bool.not_true, Bool.not_false, List.take_succ_cons, List.take_zero, awant_none, astep, evl, put, ap_none, ap_new, ap_wr, List.length_nil, List.length_cons, Nat.add_zero, Nat.zero_add, upd_app, stepBin, abin, stepUn, stepPick, stepExtract, stepCall, if_true, if_false, reduceCtorEq, ↓reduceIte, Nat.reduceEqDiff, Nat.reduceAdd, List.map_cons, List.map_nil, Option.map_some, Option.map_none, Bool.false_eq_true, Int.reduceLE, Int.reduceToNat, ne_eq, not_false_eq_true, and_self, and_true, true_and, decide_true, decide_false, Int.reduceEq, Int.reduceLT, Int.reduceBEq, Int.reduceBNe, not_true_eq_false, undef, List.isEmpty_nil, Bool.and_self, Bool.and_true, t0, t3, z2, y2, conv5_40, c2, m2, p2] <;> rfl) fun a3 ha3 => ?_
  refine d_reads 6 ha3 (by simp only [runR, List.drop_succ_cons, List.drop_zero, awant_some, Option.getD_some, List.getElem?_toArray, List.getElem?_cons_succ, List.getElem?_cons_zero, Option.bind_some, b_tt, b_tf, b_ft, b_ff, Bool.not_true, Bool.not_false, List.take_succ_cons, List.take_zero, awant_none, astep, evl, put, ap_none, ap_new, ap_wr, List.length_nil, List.length_cons, Nat.add_zero, Nat.zero_add, upd_app, stepBin, abin, stepUn, stepPick, stepExtract, stepCall, if_true, if_false, reduceCtorEq, ↓reduceIte, Nat.reduceEqDiff, Nat.reduceAdd, List.map_cons, List.map_nil, Option.map_some, Option.map_none, Bool.false_eq_true, Int.reduceLE, Int.reduceToNat, ne_eq, not_false_eq_true, and_self, and_true, true_and, decide_true, decide_false, Int.reduceEq, Int.reduceLT, Int.reduceBEq, Int.reduceBNe, not_true_eq_false, undef, List.isEmpty_nil, Bool.and_self, Bool.and_true, t0, t3, z3, y3, conv5_40, c3, m3, p3] <;> rfl) fun a4 ha4 => ?_
  refine d_reads 4 ha4 (by simp only [runR, List.drop_succ_cons, List.drop_zero, awant_some, Option.getD_some, List.getElem?_toArray, List.getElem?_cons_succ, List.getElem?_cons_zero, Option.bind_some, b_tt, b_tf, b_ft, b_ff, Bool.not_true, Bool.not_false, List.take_succ_cons, List.take_zero, awant_none, astep, evl, put, ap_none, ap_new, ap_wr, List.length_nil, List.length_cons, Nat.add_zero, Nat.zero_add, upd_app, stepBin, abin, stepUn, stepPick, stepExtract, stepCall, if_true, if_false, reduceCtorEq, ↓reduceIte, Nat.reduceEqDiff, Nat.reduceAdd, List.map_cons, List.map_nil, Option.map_some, Option.map_none, Bool.false_eq_true, Int.reduceLE, Int.reduceToNat, ne_eq, not_false_eq_true, and_self, and_true, true_and, decide_true, decide_false, Int.reduceEq, Int.reduceLT, Int.reduceBEq, Int.reduceBNe, not_true_eq_false, undef, List.isEmpty_nil, Bool.and_self, Bool.and_true, t0, beq_self_eq_true] <;> rfl) fun a5 ha5 => ?_
  refine d_call 19 _ rfl rfl rfl rfl (known_spec _) (by simp) (d_free ha5 rfl) ?_
  refine d_pure 2 (by simp only [runP, List.drop_succ_cons, List.drop_zero, awant_some, Option.getD_some, List.getElem?_toArray, List.getElem?_cons_succ, List.getElem?_cons_zero, Option.bind_some, b_tt, b_tf, b_ft, b_ff, Bool.not_true, Bool.not_false, List.take_succ_cons, List.take_zero, awant_none, astep, evl, put, ap_none, ap_new, ap_wr, List.length_nil, List.length_cons, Nat.add_zero, Nat.zero_add, upd_app, stepBin, abin, stepUn, stepPick, stepExtract, stepCall, if_true, if_false, reduceCtorEq, ↓reduceIte, Nat.reduceEqDiff, Nat.reduceAdd, List.map_cons, List.map_nil, Option.map_some, Option.map_none, Bool.false_eq_true, Int.reduceLE, Int.reduceToNat, ne_eq, not_false_eq_true, and_self, and_true, true_and, decide_true, decide_false, Int.reduceEq, Int.reduceLT, Int.reduceBEq, Int.reduceBNe, not_true_eq_false, undef, List.isEmpty_nil, Bool.and_self, Bool.and_true] <;> rfl) ?_
  refine w_ret ⟨.inr rfl, by simp, [], fin_none ?_ trivial hold⟩
  simp [resVal, upd_app]
end Go.Proofs.Ytokmmcfnpobldaa
