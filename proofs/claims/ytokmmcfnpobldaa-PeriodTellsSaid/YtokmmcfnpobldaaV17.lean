import Derived.Test.YtokmmcfnpobldaaV16
namespace Go.Proofs.Ytokmmcfnpobldaa
open Go Abs
set_option linter.unusedSimpArgs false
set_option linter.unusedVariables false

theorem wrapU32_nat {p : Nat} (h : p < 2 ^ 32) : IntKind.u32.wrap (p : Int) = (p : Int) := by rw [IntKind.wrap_u32']; omega
theorem wf_u32 {a : Int} (h : (Lit.int .u32 a).wf = true) : ∃ n : Nat, a = n ∧ n < 2 ^ 32 := by
  have h1 : 0 ≤ a ∧ a < 2 ^ 32 := by
    simp [Lit.wf, IntKind.min, IntKind.max, IntKind.signed, IntKind.bits] at h
    omega
  exact ⟨a.toNat, by omega, by omega⟩

set_option maxRecDepth 10000 in
theorem lawFour_spec (v : Nat) (hv : v < 2 ^ 32) (g : Heap) : FnSpec Try.prog 12 [.int .u32 v] g { v := .bool true } := by
  refine spec_of_body [2] follows Try.func12 rfl (by kernel_rfl) (by simp [Try.f12]) (by kernel_rfl) rfl ?_
  intro g2 s2 n hg hfr hs hn hwf hsv
  refine s_run (by simp only [runL, List.drop_succ_cons, List.drop_zero, awant_some, Option.getD_some, List.getElem?_toArray, List.getElem?_cons_succ, List.getElem?_cons_zero, Option.bind_some, b_tt, b_tf, b_ft, b_ff, Bool.not_true, Bool.not_false, List.take_succ_cons, List.take_zero, awant_none, astep, evl, put, ap_none, ap_new, ap_wr, List.length_nil, List.length_cons, Nat.add_zero, Nat.zero_add, upd_app, stepBin, abin, stepUn, stepPick, stepExtract, stepCall, if_true, if_false, reduceCtorEq, ↓reduceIte, Nat.reduceEqDiff, Nat.reduceAdd, List.map_cons, List.map_nil, Option.map_some, Option.map_none, Bool.false_eq_true, Int.reduceLE, Int.reduceToNat, ne_eq, not_false_eq_true, and_self, and_true, true_and, decide_true, decide_false] <;> rfl) ?_
  refine s_take 1 (by simp only [runL, List.drop_succ_cons, List.drop_zero, awant_some, Option.getD_some, List.getElem?_toArray, List.getElem?_cons_succ, List.getElem?_cons_zero, Option.bind_some, b_tt, b_tf, b_ft, b_ff, Bool.not_true, Bool.not_false, List.take_succ_cons, List.take_zero, awant_none, astep, evl, put, ap_none, ap_new, ap_wr, List.length_nil, List.length_cons, Nat.add_zero, Nat.zero_add, upd_app, stepBin, abin, stepUn, stepPick, stepExtract, stepCall, if_true, if_false, reduceCtorEq, ↓reduceIte, Nat.reduceEqDiff, Nat.reduceAdd, List.map_cons, List.map_nil, Option.map_some, Option.map_none, Bool.false_eq_true, Int.reduceLE, Int.reduceToNat, ne_eq, not_false_eq_true, and_self, and_true, true_and, decide_true, decide_false] <;> rfl) ?_
  refine ops_call 29 _ rfl (four_spec v _ _) (by intro _; rfl) (ops_heap fun G hG => ?_)
  refine ops_run (by simp only [runL, List.drop_succ_cons, List.drop_zero, awant_some, Option.getD_some, List.getElem?_toArray, List.getElem?_cons_succ, List.getElem?_cons_zero, Option.bind_some, b_tt, b_tf, b_ft, b_ff, Bool.not_true, Bool.not_false, List.take_succ_cons, List.take_zero, awant_none, astep, evl, put, ap_none, ap_new, ap_wr, List.length_nil, List.length_cons, Nat.add_zero, Nat.zero_add, upd_app, stepBin, abin, stepUn, stepPick, stepExtract, stepCall, if_true, if_false, reduceCtorEq, ↓reduceIte, Nat.reduceEqDiff, Nat.reduceAdd, List.map_cons, List.map_nil, Option.map_some, Option.map_none, Bool.false_eq_true, Int.reduceLE, Int.reduceToNat, ne_eq, not_false_eq_true, and_self, and_true, true_and, decide_true, decide_false] <;> rfl) ?_
  refine w_gen (fun t => t 0 = .int .u32 v ∧ t 3 = .slice (some ⟨n, 0, some 4⟩) 4 1) (by simp [upd_app]) ?_
  rintro t ⟨t0, t3⟩
  have hGn : G n = some ⟨false, 5, bs (four v)⟩ := by simp [hG, ap_new, upd_app]
  have hold : ∀ i b, g2 i = some b → G i = some b := fun i b hb => by
    have := hs i (hwf i b hb).1
    simp [hG, ap_new, upd_app, show i ≠ n by omega, hb]
  have hl4 : stepLen Try.prog 23 (.slice (some ⟨n, 0, some 4⟩) 4 1) = some { v := .int .i64 4 } := (src_own (g := G) (l := four v) hGn).len Try.underlying23
  obtain ⟨x0, y0, _⟩ := own_at (P := Try.prog) (T := 23) hGn (i := 0) (c := .int .u8 ((v % 256 : Nat) : Int)) rfl Try.underlying23 tsize5 aggT5
  obtain ⟨x1, y1, _⟩ := own_at (P := Try.prog) (T := 23) hGn (i := 1) (c := .int .u8 ((v / 256 % 256 : Nat) : Int)) rfl Try.underlying23 tsize5 aggT5
  obtain ⟨x2, y2, _⟩ := own_at (P := Try.prog) (T := 23) hGn (i := 2) (c := .int .u8 ((v / 65536 % 256 : Nat) : Int)) rfl Try.underlying23 tsize5 aggT5
  obtain ⟨x3, y3, _⟩ := own_at (P := Try.prog) (T := 23) hGn (i := 3) (c := .int .u8 ((v / 16777216 % 256 : Nat) : Int)) rfl Try.underlying23 tsize5 aggT5
  have z0 : stepIndex Try.prog 23 (.slice (some ⟨n, 0, some 4⟩) 4 1) (.int .i64 0) = some { v := .pointer (some ⟨n, 0, some 4⟩) } := x0 .i64
  have z1 : stepIndex Try.prog 23 (.slice (some ⟨n, 0, some 4⟩) 4 1) (.int .i64 1) = some { v := .pointer (some ⟨n, 1, some 4⟩) } := x1 .i64
  have z2 : stepIndex Try.prog 23 (.slice (some ⟨n, 0, some 4⟩) 4 1) (.int .i64 2) = some { v := .pointer (some ⟨n, 2, some 4⟩) } := x2 .i64
  have z3 : stepIndex Try.prog 23 (.slice (some ⟨n, 0, some 4⟩) 4 1) (.int .i64 3) = some { v := .pointer (some ⟨n, 3, some 4⟩) } := x3 .i64
  have hbl : (bs (four v)).length = 4 := rfl
  rw [hbl] at y0 y1 y2 y3
  have h0 := Nat.mod_lt v (show 256 > 0 by omega)
  have h1 := Nat.mod_lt (v / 256) (show 256 > 0 by omega)
  have h2 := Nat.mod_lt (v / 65536) (show 256 > 0 by omega)
  have h3 := Nat.mod_lt (v / 16777216) (show 256 > 0 by omega)
  have hsum : v % 256 + v / 256 % 256 * 256 + v / 65536 % 256 * 65536 + v / 16777216 % 256 * 16777216 = v := by omega
  generalize v % 256 = b0 at *
  generalize v / 256 % 256 = b1 at *
  generalize v / 65536 % 256 = b2 at *
  generalize v / 16777216 % 256 = b3 at *
  have c0 := wrapU32_nat (p := b0) (by omega)
  have c1 := wrapU32_nat (p := b1) (by omega)
  have c2 := wrapU32_nat (p := b2) (by omega)
  have c3 := wrapU32_nat (p := b3) (by omega)
  have m1 : IntKind.u32.wrap ((b1 : Int) * 256) = ((b1 * 256 : Nat) : Int) := by rw [IntKind.wrap_u32']; omega
  have m2 : IntKind.u32.wrap ((b2 : Int) * 65536) = ((b2 * 65536 : Nat) : Int) := by rw [IntKind.wrap_u32']; omega
  have m3 : IntKind.u32.wrap ((b3 : Int) * 16777216) = ((b3 * 16777216 : Nat) : Int) := by rw [IntKind.wrap_u32']; omega
  have p1 : IntKind.u32.wrap ((b0 : Int) + ((b1 * 256 : Nat) : Int)) = ((b0 + b1 * 256 : Nat) : Int) := by rw [IntKind.wrap_u32']; omega
  have p2 : IntKind.u32.wrap (((b0 + b1 * 256 : Nat) : Int) + ((b2 * 65536 : Nat) : Int)) = ((b0 + b1 * 256 + b2 * 65536 : Nat) : Int) := by rw [IntKind.wrap_u32']; omega
  have p3 : IntKind.u32.wrap (((b0 + b1 * 256 + b2 * 65536 : Nat) : Int) + ((b3 * 16777216 : Nat) : Int)) = ((b0 + b1 * 256 + b2 * 65536 + b3 * 16777216 : Nat) : Int) := by rw [IntKind.wrap_u32']; omega
  rw [hsum] at p3
  refine s_drawn #[0, 1, 3, 7, 15, 31, 63, 127, 15, 271, 783, 1807, 3855, 8191, 15, 16399, 49167, 114703, 245775, 524287, 15, 1048591, 3145743, 7340047, 15728655, 33554431, 15, 134217727, 268435455, 536870911, 1073741823, 2147483647, 4294967295] (by decide +kernel) ?_
  refine d_reads 4 (by simp) (by simp only [runR, List.drop_succ_cons, List.drop_zero, awant_some, Option.getD_some, List.getElem?_toArray, List.getElem?_cons_succ, List.getElem?_cons_zero, Option.bind_some, b_tt, b_tf, b_ft, b_ff, Bool.not_true, Bool.not_false, List.take_succ_cons, List.take_zero, awant_none, astep, evl, put, ap_none, ap_new, ap_wr, List.length_nil, List.length_cons, Nat.add_zero, Nat.zero_add, upd_app, stepBin, abin, stepUn, stepPick, stepExtract, stepCall, if_true, if_false, reduceCtorEq, ↓reduceIte, Nat.reduceEqDiff, Nat.reduceAdd, List.map_cons, List.map_nil, Option.map_some, Option.map_none, Bool.false_eq_true, Int.reduceLE, Int.reduceToNat, ne_eq, not_false_eq_true, and_self, and_true, true_and, decide_true, decide_false, List.isEmpty_nil, Bool.and_self, Bool.and_true, t3, hl4, beq_self_eq_true] <;> rfl) fun a1 ha1 => ?_
  refine d_reads 10 ha1 (by simp only [runR, List.drop_succ_cons, List.drop_zero, awant_some, Option.getD_some, List.getElem?_toArray, List.getElem?_cons_succ, List.getElem?_cons_zero, Option.bind_some, b_tt, b_tf, b_ft, b_ff, Bool.not_true, Bool.not_false, List.take_succ_cons, List.take_zero, awant_none, astep, evl, put, ap_none, ap_new, ap_wr, List.length_nil, List.length_cons, Nat.add_zero, Nat.zero_add, upd_app, stepBin, abin, stepUn, stepPick, stepExtract, stepCall, if_true, if_false, reduceCtorEq, ↓reduceIte, Nat.reduceEqDiff, Nat.reduceAdd, List.map_cons, List.map_nil, Option.map_some, Option.map_none, Bool.false_eq_true, Int.reduceLE, Int.reduceToNat, ne_eq, not_false_eq_true, and_self, and_true, true_and, decide_true, decide_false, List.isEmpty_nil, Bool.and_self, Bool.and_true, t0, t3, z0, z1, y0, y1, conv5_40, c0, c1, m1, p1] <;> rfl) fun a2 ha2 => ?_
  refine d_reads 6 ha2 (by simp only [runR, List.drop_succ_cons, List.drop_zero, awant_some, Option.getD_some, List.getElem?_toArray, List.getElem?_cons_succ, List.getElem?_cons_zero, Option.bind_some, b_tt, b_tf, b_ft, b_ff, Bool.not_true, Bool.not_false, List.take_succ_cons, List.take_zero, awant_none, astep, evl, put, ap_none, ap_new, ap_wr, List.length_nil, List.length_cons, Nat.add_zero, Nat.zero_add, upd_app, stepBin, abin, stepUn, stepPick, stepExtract, stepCall, if_true, if_false, reduceCtorEq, ↓reduceIte, Nat.reduceEqDiff, Nat.reduceAdd, List.map_cons, List.map_nil, Option.map_some, Option.map_none, Bool.false_eq_true, Int.reduceLE, Int.reduceToNat, ne_eq, not_false_eq_true, and_self, and_true, true_and, decide_true, decide_false, List.isEmpty_nil, Bool.and_self, Bool.and_true, t0, t3, z2, y2, conv5_40, c2, m2, p2] <;> rfl) fun a3 ha3 => ?_
  refine d_reads 6 ha3 (by simp only [runR, List.drop_succ_cons, List.drop_zero, awant_some, Option.getD_some, List.getElem?_toArray, List.getElem?_cons_succ, List.getElem?_cons_zero, Option.bind_some, b_tt, b_tf, b_ft, b_ff, Bool.not_true, Bool.not_false, List.take_succ_cons, List.take_zero, awant_none, astep, evl, put, ap_none, ap_new, ap_wr, List.length_nil, List.length_cons, Nat.add_zero, Nat.zero_add, upd_app, stepBin, abin, stepUn, stepPick, stepExtract, stepCall, if_true, if_false, reduceCtorEq, ↓reduceIte, Nat.reduceEqDiff, Nat.reduceAdd, List.map_cons, List.map_nil, Option.map_some, Option.map_none, Bool.false_eq_true, Int.reduceLE, Int.reduceToNat, ne_eq, not_false_eq_true, and_self, and_true, true_and, decide_true, decide_false, List.isEmpty_nil, Bool.and_self, Bool.and_true, t0, t3, z3, y3, conv5_40, c3, m3, p3] <;> rfl) fun a4 ha4 => ?_
  refine d_reads 4 ha4 (by simp only [runR, List.drop_succ_cons, List.drop_zero, awant_some, Option.getD_some, List.getElem?_toArray, List.getElem?_cons_succ, List.getElem?_cons_zero, Option.bind_some, b_tt, b_tf, b_ft, b_ff, Bool.not_true, Bool.not_false, List.take_succ_cons, List.take_zero, awant_none, astep, evl, put, ap_none, ap_new, ap_wr, List.length_nil, List.length_cons, Nat.add_zero, Nat.zero_add, upd_app, stepBin, abin, stepUn, stepPick, stepExtract, stepCall, if_true, if_false, reduceCtorEq, ↓reduceIte, Nat.reduceEqDiff, Nat.reduceAdd, List.map_cons, List.map_nil, Option.map_some, Option.map_none, Bool.false_eq_true, Int.reduceLE, Int.reduceToNat, ne_eq, not_false_eq_true, and_self, and_true, true_and, decide_true, decide_false, List.isEmpty_nil, Bool.and_self, Bool.and_true, t0, beq_self_eq_true] <;> rfl) fun a5 ha5 => ?_
  refine d_call 19 _ rfl rfl rfl rfl (known_spec _) (by simp) (d_free ha5 rfl) ?_
  refine d_pure 2 (by simp only [runP, List.drop_succ_cons, List.drop_zero, awant_some, Option.getD_some, List.getElem?_toArray, List.getElem?_cons_succ, List.getElem?_cons_zero, Option.bind_some, b_tt, b_tf, b_ft, b_ff, Bool.not_true, Bool.not_false, List.take_succ_cons, List.take_zero, awant_none, astep, evl, put, ap_none, ap_new, ap_wr, List.length_nil, List.length_cons, Nat.add_zero, Nat.zero_add, upd_app, stepBin, abin, stepUn, stepPick, stepExtract, stepCall, if_true, if_false, reduceCtorEq, ↓reduceIte, Nat.reduceEqDiff, Nat.reduceAdd, List.map_cons, List.map_nil, Option.map_some, Option.map_none, Bool.false_eq_true, Int.reduceLE, Int.reduceToNat, ne_eq, not_false_eq_true, and_self, and_true, true_and, decide_true, decide_false, List.isEmpty_nil, Bool.and_self, Bool.and_true] <;> rfl) ?_
  refine w_ret ⟨.inr rfl, by simp, [], fin_none ?_ trivial hold⟩
  simp [resVal, upd_app]
end Go.Proofs.Ytokmmcfnpobldaa
