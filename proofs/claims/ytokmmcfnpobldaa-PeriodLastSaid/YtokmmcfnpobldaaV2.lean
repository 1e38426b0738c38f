import Derived.Test.YtokmmcfnpobldaaV1
import Derived.Laws.BitsAllLaws
namespace Go.Proofs.Ytokmmcfnpobldaa
open Go Abs
set_option linter.unusedSimpArgs false
set_option linter.unusedVariables false

theorem tsize5 : tsize Try.prog 5 = some 1 := by kernel_rfl
theorem aggT5 : aggT Try.prog 5 = some false := by kernel_rfl
theorem conv5_3 (x : Int) (g : Heap) : stepConv Try.prog 5 3 (.int .u8 x) g = some { v := .int .i64 (IntKind.i64.wrap x) } := by simp [stepConv, Try.underlying5, Try.underlying3]
theorem conv5_22 (x : Int) (g : Heap) : stepConv Try.prog 5 22 (.int .u8 x) g = some { v := .int .u64 (IntKind.u64.wrap x) } := by simp [stepConv, Try.underlying5, Try.underlying22]

theorem wrap64_of {x : Int} (h1 : -9223372036854775808 ≤ x) (h2 : x ≤ 9223372036854775807) : IntKind.i64.wrap x = x := by rw [IntKind.wrap_i64]; omega
theorem wrapU64_of {x : Int} (h1 : 0 ≤ x) (h2 : x < 18446744073709551616) : IntKind.u64.wrap x = x := by rw [IntKind.wrap_u64]; omega

/-- 'c < 128'. -/
theorem low_spec (c : Int) (g : Heap) : FnSpec Try.prog 42 [.int .u8 c] g { v := .bool (decide (c < 128)) } := by
  refine spec_of_body [2] follows Try.func42 rfl (by kernel_rfl) (by simp [Try.f42]) (by kernel_rfl) rfl ?_
  intro g2 s2 n hg hfr hs hn hwf hsv
  refine s_run (by simp only [runL, List.drop_succ_cons, List.drop_zero, awant_some, Option.getD_some, List.getElem?_toArray, List.getElem?_cons_succ, List.getElem?_cons_zero, Option.bind_some, b_tt, b_tf, b_ft, b_ff, Bool.not_true, Bool.not_false, List.take_succ_cons, List.take_zero, awant_none, astep, evl, put, ap_none, ap_new, ap_wr, List.length_nil, List.length_cons, Nat.add_zero, Nat.zero_add, upd_app, stepBin, abin, stepUn, stepPick, stepExtract, stepCall, if_true, if_false, reduceCtorEq, ↓reduceIte, Nat.reduceEqDiff, Nat.reduceAdd, List.map_cons, List.map_nil, Option.map_some, Option.map_none, Bool.false_eq_true, Int.reduceLE, Int.reduceToNat, ne_eq, not_false_eq_true, and_self, and_true, true_and, decide_true, decide_false] <;> rfl) ?_
  refine s_run (by simp only [runL, List.drop_succ_cons, List.drop_zero, awant_some, Option.getD_some, List.getElem?_toArray, List.getElem?_cons_succ, List.getElem?_cons_zero, Option.bind_some, b_tt, b_tf, b_ft, b_ff, Bool.not_true, Bool.not_false, List.take_succ_cons, List.take_zero, awant_none, astep, evl, put, ap_none, ap_new, ap_wr, List.length_nil, List.length_cons, Nat.add_zero, Nat.zero_add, upd_app, stepBin, abin, stepUn, stepPick, stepExtract, stepCall, if_true, if_false, reduceCtorEq, ↓reduceIte, Nat.reduceEqDiff, Nat.reduceAdd, List.map_cons, List.map_nil, Option.map_some, Option.map_none, Bool.false_eq_true, Int.reduceLE, Int.reduceToNat, ne_eq, not_false_eq_true, and_self, and_true, true_and, decide_true, decide_false, List.getElem?_cons_zero, Option.getD_some] <;> rfl) ?_
  refine w_ret ⟨.inr rfl, by simp, [], fin_none ?_ trivial (fun _ _ h => h)⟩
  simp [resVal, upd_app]

/-- Where the first byte below 128 stands, from k on. -/
def findLow : List Nat → Nat → Int
  | [], _ => -1
  | c :: l, k => if c < 128 then (k : Int) else findLow l (k + 1)

theorem findLow_drop (l : List Nat) (i : Nat) : i < l.length → findLow (l.drop i) i = if l[i]?.getD 0 < 128 then (i : Int) else findLow (l.drop (i + 1)) (i + 1) := by
  intro h
  rw [List.drop_eq_getElem_cons h, findLow, List.getElem?_eq_getElem h]
  rfl

theorem bs_at {l : List Nat} {i : Nat} (h : i < l.length) : (bs l)[i]? = some (.int .u8 ((l[i]?.getD 0 : Nat) : Int)) := by
  simp [h]

set_option maxRecDepth 10000 in
theorem find_spec (v : Value) (l : List Nat) (g : Heap) (hl : l.length ≤ 2 ^ 40) (hv : Src g v 1 l.length (bs l)) : FnSpec Try.prog 41 [v, .func (.func 42) #[] #[]] g { v := .int .i64 (findLow l 0), r := srcBlk v } := by
  refine spec_of_body [4] follows Try.func41 rfl (by kernel_rfl) (by simp [Try.f41]) (by kernel_rfl) rfl ?_
  intro g2 s2 n hg hfr hs hn hwf hsv
  have hv2 : Src g2 v 1 l.length (bs l) := hv.congr fun i hi => hg i (by simp [Eff.fp, hi])
  have hlen := hv2.len Try.underlying23
  refine s_run (by simp only [runL, List.drop_succ_cons, List.drop_zero, awant_some, Option.getD_some, List.getElem?_toArray, List.getElem?_cons_succ, List.getElem?_cons_zero, Option.bind_some, b_tt, b_tf, b_ft, b_ff, Bool.not_true, Bool.not_false, List.take_succ_cons, List.take_zero, awant_none, astep, evl, put, ap_none, ap_new, ap_wr, List.length_nil, List.length_cons, Nat.add_zero, Nat.zero_add, upd_app, stepBin, abin, stepUn, stepPick, stepExtract, stepCall, if_true, if_false, reduceCtorEq, ↓reduceIte, Nat.reduceEqDiff, Nat.reduceAdd, List.map_cons, List.map_nil, Option.map_some, Option.map_none, Bool.false_eq_true, Int.reduceLE, Int.reduceToNat, ne_eq, not_false_eq_true, and_self, and_true, true_and, decide_true, decide_false] <;> rfl) ?_
  refine w_assoc (s_run (by simp only [runL, List.drop_succ_cons, List.drop_zero, awant_some, Option.getD_some, List.getElem?_toArray, List.getElem?_cons_succ, List.getElem?_cons_zero, Option.bind_some, b_tt, b_tf, b_ft, b_ff, Bool.not_true, Bool.not_false, List.take_succ_cons, List.take_zero, awant_none, astep, evl, put, ap_none, ap_new, ap_wr, List.length_nil, List.length_cons, Nat.add_zero, Nat.zero_add, upd_app, stepBin, abin, stepUn, stepPick, stepExtract, stepCall, if_true, if_false, reduceCtorEq, ↓reduceIte, Nat.reduceEqDiff, Nat.reduceAdd, List.map_cons, List.map_nil, Option.map_some, Option.map_none, Bool.false_eq_true, Int.reduceLE, Int.reduceToNat, ne_eq, not_false_eq_true, and_self, and_true, true_and, decide_true, decide_false, List.getElem?_cons_zero, Option.getD_some, hlen] <;> rfl) ?_)
  refine s_range l.length (fun i t g n' => findLow l 0 = findLow (l.drop i) i ∧ t 0 = v ∧ t 1 = .func (.func 42) #[] #[] ∧ g = g2) (by omega) rfl rfl ⟨rfl, rfl, rfl, rfl⟩ (by decide) ?_ ?_ ?_
  · rintro k t g n' x y hx ⟨h1, h2, h3, h4⟩
    refine ⟨h1, ?_, ?_, h4⟩ <;> rw [upd_ne _ _ (by rcases hx with rfl | rfl | rfl <;> decide)] <;> assumption
  · rintro k t g n' hk h8 h7 ⟨hf, h0, h1, rfl⟩
    obtain ⟨p, hp1, hp2, _⟩ := hv2.at1 (P := Try.prog) (bs_at hk) Try.underlying23 tsize5 aggT5
    refine s_run (by simp only [runL, List.drop_succ_cons, List.drop_zero, awant_some, Option.getD_some, List.getElem?_toArray, List.getElem?_cons_succ, List.getElem?_cons_zero, Option.bind_some, b_tt, b_tf, b_ft, b_ff, Bool.not_true, Bool.not_false, List.take_succ_cons, List.take_zero, awant_none, astep, evl, put, ap_none, ap_new, ap_wr, List.length_nil, List.length_cons, Nat.add_zero, Nat.zero_add, upd_app, stepBin, abin, stepUn, stepPick, stepExtract, stepCall, if_true, if_false, reduceCtorEq, ↓reduceIte, Nat.reduceEqDiff, Nat.reduceAdd, List.map_cons, List.map_nil, Option.map_some, Option.map_none, Bool.false_eq_true, Int.reduceLE, Int.reduceToNat, ne_eq, not_false_eq_true, and_self, and_true, true_and, decide_true, decide_false, h8] <;> rfl) ?_
    refine s_take 5 (by simp only [runL, List.drop_succ_cons, List.drop_zero, awant_some, Option.getD_some, List.getElem?_toArray, List.getElem?_cons_succ, List.getElem?_cons_zero, Option.bind_some, b_tt, b_tf, b_ft, b_ff, Bool.not_true, Bool.not_false, List.take_succ_cons, List.take_zero, awant_none, astep, evl, put, ap_none, ap_new, ap_wr, List.length_nil, List.length_cons, Nat.add_zero, Nat.zero_add, upd_app, stepBin, abin, stepUn, stepPick, stepExtract, stepCall, if_true, if_false, reduceCtorEq, ↓reduceIte, Nat.reduceEqDiff, Nat.reduceAdd, List.map_cons, List.map_nil, Option.map_some, Option.map_none, Bool.false_eq_true, Int.reduceLE, Int.reduceToNat, ne_eq, not_false_eq_true, and_self, and_true, true_and, decide_true, decide_false, h0, h1, hp1, hp2] <;> rfl) ?_
    refine ops_call 42 _ rfl (low_spec _ _) (by simp) ?_
    refine w_cond (b := decide (((l[k]?.getD 0 : Nat) : Int) < 128)) (by simp [evl, upd_app, put]) ?_ ?_
    · intro hq
      simp only [decide_eq_true_eq] at hq
      refine s_run (by simp only [runL, List.drop_succ_cons, List.drop_zero, awant_some, Option.getD_some, List.getElem?_toArray, List.getElem?_cons_succ, List.getElem?_cons_zero, Option.bind_some, b_tt, b_tf, b_ft, b_ff, Bool.not_true, Bool.not_false, List.take_succ_cons, List.take_zero, awant_none, astep, evl, put, ap_none, ap_new, ap_wr, List.length_nil, List.length_cons, Nat.add_zero, Nat.zero_add, upd_app, stepBin, abin, stepUn, stepPick, stepExtract, stepCall, if_true, if_false, reduceCtorEq, ↓reduceIte, Nat.reduceEqDiff, Nat.reduceAdd, List.map_cons, List.map_nil, Option.map_some, Option.map_none, Bool.false_eq_true, Int.reduceLE, Int.reduceToNat, ne_eq, not_false_eq_true, and_self, and_true, true_and, decide_true, decide_false] <;> rfl) ?_
      refine w_ret ⟨.inr rfl, by simp, [], fin_none ?_ trivial (fun _ _ h => h)⟩
      rw [hf, findLow_drop l k hk, if_pos (by omega)]
      simp [resVal, upd_app, put]
    · intro hq
      simp only [decide_eq_false_iff_not] at hq
      refine w_skip ⟨by simpa [upd_app, put] using h8, by simpa [upd_app, put] using h7, ?_, by simpa [upd_app, put] using h0, by simpa [upd_app, put] using h1, rfl⟩
      rw [hf, findLow_drop l k hk, if_neg (by omega)]
  · rintro t g n' ⟨hf, h0, h1, rfl⟩
    refine s_run (by simp only [runL, List.drop_succ_cons, List.drop_zero, awant_some, Option.getD_some, List.getElem?_toArray, List.getElem?_cons_succ, List.getElem?_cons_zero, Option.bind_some, b_tt, b_tf, b_ft, b_ff, Bool.not_true, Bool.not_false, List.take_succ_cons, List.take_zero, awant_none, astep, evl, put, ap_none, ap_new, ap_wr, List.length_nil, List.length_cons, Nat.add_zero, Nat.zero_add, upd_app, stepBin, abin, stepUn, stepPick, stepExtract, stepCall, if_true, if_false, reduceCtorEq, ↓reduceIte, Nat.reduceEqDiff, Nat.reduceAdd, List.map_cons, List.map_nil, Option.map_some, Option.map_none, Bool.false_eq_true, Int.reduceLE, Int.reduceToNat, ne_eq, not_false_eq_true, and_self, and_true, true_and, decide_true, decide_false] <;> rfl) ?_
    refine w_ret ⟨.inr rfl, by simp, [], fin_none ?_ trivial (fun _ _ h => h)⟩
    simp [resVal, upd_app, hf, findLow]

/-- How many binary digits. -/
def len8 (n : Nat) : Nat := if n = 0 then 0 else n.log2 + 1

theorem len8_idx (tab : ByteArray) (h : ((List.range 256).all fun c => (tab[c]?).map (·.toNat) == some (len8 c)) = true) (c : Nat) (hc : c < 256) : stepIdx Try.prog 9 (.string tab) (.int .u8 (c : Int)) = some { v := .int .u8 (len8 c) } := by
  have h1 := List.all_eq_true.1 h c (by simpa using hc)
  simp only [beq_iff_eq] at h1
  cases ht : tab[c]? with
  | none => rw [ht] at h1; simp at h1
  | some b =>
    rw [ht] at h1
    simp at h1
    simp [stepIdx, Try.underlying9, ht, h1]

theorem len8_le : ∀ c : Nat, c < 256 → len8 c ≤ 8 := by decide +kernel

set_option maxRecDepth 10000 in
theorem len8_spec (c : Nat) (hc : c < 256) (g : Heap) : FnSpec Try.prog 43 [.int .u8 c] g { v := .int .i64 (len8 c) } := by
  refine spec_of_body [2] follows Try.func43 rfl (by kernel_rfl) (by simp [Try.f43]) (by kernel_rfl) rfl ?_
  intro g2 s2 n hg hfr hs hn hwf hsv
  refine s_run (by simp only [runL, List.drop_succ_cons, List.drop_zero, awant_some, Option.getD_some, List.getElem?_toArray, List.getElem?_cons_succ, List.getElem?_cons_zero, Option.bind_some, b_tt, b_tf, b_ft, b_ff, Bool.not_true, Bool.not_false, List.take_succ_cons, List.take_zero, awant_none, astep, evl, put, ap_none, ap_new, ap_wr, List.length_nil, List.length_cons, Nat.add_zero, Nat.zero_add, upd_app, stepBin, abin, stepUn, stepPick, stepExtract, stepCall, if_true, if_false, reduceCtorEq, ↓reduceIte, Nat.reduceEqDiff, Nat.reduceAdd, List.map_cons, List.map_nil, Option.map_some, Option.map_none, Bool.false_eq_true, Int.reduceLE, Int.reduceToNat, ne_eq, not_false_eq_true, and_self, and_true, true_and, decide_true, decide_false] <;> rfl) ?_
  refine s_take 1 (by simp only [runL, List.drop_succ_cons, List.drop_zero, awant_some, Option.getD_some, List.getElem?_toArray, List.getElem?_cons_succ, List.getElem?_cons_zero, Option.bind_some, b_tt, b_tf, b_ft, b_ff, Bool.not_true, Bool.not_false, List.take_succ_cons, List.take_zero, awant_none, astep, evl, put, ap_none, ap_new, ap_wr, List.length_nil, List.length_cons, Nat.add_zero, Nat.zero_add, upd_app, stepBin, abin, stepUn, stepPick, stepExtract, stepCall, if_true, if_false, reduceCtorEq, ↓reduceIte, Nat.reduceEqDiff, Nat.reduceAdd, List.map_cons, List.map_nil, Option.map_some, Option.map_none, Bool.false_eq_true, Int.reduceLE, Int.reduceToNat, ne_eq, not_false_eq_true, and_self, and_true, true_and, decide_true, decide_false] <;> rfl) ?_
  refine ops_step _ (len8_idx _ ?_ c hc) rfl ?_
  · decide +kernel
  have hle := len8_le c hc
  have hw : IntKind.i64.wrap (len8 c : Int) = (len8 c : Int) := wrap64_of (by omega) (by omega)
  refine ops_run (by simp only [runL, List.drop_succ_cons, List.drop_zero, awant_some, Option.getD_some, List.getElem?_toArray, List.getElem?_cons_succ, List.getElem?_cons_zero, Option.bind_some, b_tt, b_tf, b_ft, b_ff, Bool.not_true, Bool.not_false, List.take_succ_cons, List.take_zero, awant_none, astep, evl, put, ap_none, ap_new, ap_wr, List.length_nil, List.length_cons, Nat.add_zero, Nat.zero_add, upd_app, stepBin, abin, stepUn, stepPick, stepExtract, stepCall, if_true, if_false, reduceCtorEq, ↓reduceIte, Nat.reduceEqDiff, Nat.reduceAdd, List.map_cons, List.map_nil, Option.map_some, Option.map_none, Bool.false_eq_true, Int.reduceLE, Int.reduceToNat, ne_eq, not_false_eq_true, and_self, and_true, true_and, decide_true, decide_false, conv5_3, hw] <;> rfl) ?_
  refine w_ret ⟨.inr rfl, by simp, [], fin_none ?_ trivial (fun _ _ h => h)⟩
  simp [resVal, upd_app]
end Go.Proofs.Ytokmmcfnpobldaa
