import Derived.Test.YtahinegnblankaaP36
namespace Go.Proofs.Ytahinegnblankaa
open Go Abs
set_option linter.unusedSimpArgs false
set_option linter.unusedVariables false

theorem nptr63 (a : Option Addr) : stepBin Try.prog .neq 63 (.pointer a) (.pointer none) = some { v := .bool (!a.isNone) } := by simp [stepBin, abin, Try.underlying63]

set_option maxRecDepth 10000 in
theorem used_spec (p : Nat) (v : Value) (F : List Nat) (u c r : Nat) (g : Heap) (h : Rd 91 p v F u c r g) : FnSpec Try.prog 58 [ptr4 p] g { v := .int .i64 (u : Nat), r := p :: srcBlk v } := by
  refine spec_of_body [2] follows Try.func58 rfl (by kernel_rfl) (by simp [Try.f58]) (by kernel_rfl) rfl ?_
  intro g2 s2 n hg hfr hs hn hwf hsv
  have h2 : Rd 91 p v F u c r g2 := h.congr (hg p (by simp [Eff.fp])) (fun i hi => hg i (by simp [Eff.fp, hi]))
  refine s_run (by simp only [runL, awant_none, astep, evl, put, ap_none, List.length_nil, Nat.add_zero, undef] <;> rfl) ?_
  refine w_assoc (s_run (by simp only [runL, Option.getD_some, List.getElem?_cons_zero, awant_none, astep, evl, put, ap_none, List.length_nil, Nat.add_zero, upd_app, stepBin, abin, reduceCtorEq, ↓reduceIte, Try.underlying63, Option.isNone_some] <;> rfl) ?_)
  refine s_false (by simp [evl]) (s_skip ?_)
  refine s_run (by simp only [runL, Option.getD_some, List.getElem?_cons_zero, awant_none, astep, evl, put, ap_none, List.length_nil, Nat.add_zero, upd_app, reduceCtorEq, ↓reduceIte, nchk, fld91_1, h2.ld1] <;> rfl) ?_
  exact w_ret ⟨.inr rfl, by simp, [], fin_none (by simp [resVal]) trivial (fun _ _ h => h)⟩

set_option maxRecDepth 10000 in
theorem used_nil (g : Heap) : FnSpec Try.prog 58 [.pointer none] g { v := .int .i64 0 } := by
  refine spec_of_body [2] follows Try.func58 rfl (by kernel_rfl) (by simp [Try.f58]) (by kernel_rfl) rfl ?_
  intro g2 s2 n hg hfr hs hn hwf hsv
  refine s_run (by simp only [runL, awant_none, astep, evl, put, ap_none, List.length_nil, Nat.add_zero, undef] <;> rfl) ?_
  refine w_assoc (s_run (by simp only [runL, Option.getD_some, List.getElem?_cons_zero, awant_none, astep, evl, put, ap_none, List.length_nil, Nat.add_zero, upd_app, stepBin, abin, reduceCtorEq, ↓reduceIte, Try.underlying63, Option.isNone_none] <;> rfl) ?_)
  refine s_true (by simp [evl]) (w_assoc (s_run (by simp only [runL, awant_none, astep, evl, put, ap_none, List.length_nil, Nat.add_zero] <;> rfl) ?_))
  exact s_ret ⟨.inr rfl, by simp, [], fin_none (by simp [resVal]) trivial (fun _ _ h => h)⟩

/-- What a reader answers of a total. -/
def cfB (c r : Nat) (z : Int) : Bool := decide (1 ≤ z ∧ z ≤ 65536 ∧ c / (r / z.toNat) < z.toNat)
def cfA (c r : Nat) (z : Int) : Int := if cfB c r z then ((c / (r / z.toNat) : Nat) : Int) else 0
abbrev cfV (c r : Nat) (z : Int) : Value := .tuple #[.int .i64 (cfA c r z), .bool (cfB c r z)]
theorem cfV_no {c r : Nat} {z : Int} (h : cfB c r z = false) : cfV c r z = .tuple #[.int .i64 0, .bool false] := by simp [cfV, cfA, h]
theorem cfV_yes {c r : Nat} {z : Int} (h : cfB c r z = true) : cfV c r z = .tuple #[.int .i64 ((c / (r / z.toNat) : Nat) : Int), .bool true] := by simp [cfV, cfA, h]

set_option maxRecDepth 10000 in
theorem cfind_nil (z : Int) (g : Heap) : FnSpec Try.prog 54 [.pointer none, .int .i64 z] g { v := .tuple #[.int .i64 0, .bool false] } := by
  refine spec_of_body [4, 5] follows Try.func54 rfl (by kernel_rfl) (by simp [Try.f54]) (by kernel_rfl) rfl ?_
  intro g2 s2 n hg hfr hs hn hwf hsv
  refine s_run (by simp only [runL, awant_none, astep, evl, put, ap_none, List.length_nil, Nat.add_zero, undef] <;> rfl) ?_
  refine w_assoc (s_run (by simp only [runL, awant_some, Option.getD_some, List.getElem?_toArray, List.getElem?_cons_succ, List.getElem?_cons_zero, Option.bind_some, b_tf, awant_none, astep, evl, put, ap_none, List.length_nil, Nat.add_zero, upd_app, stepBin, abin, stepPick, reduceCtorEq, ↓reduceIte, Nat.reduceEqDiff, undef, Try.underlying63, Option.isNone_none] <;> rfl) ?_)
  refine s_true (by simp [evl]) (w_assoc (s_run (by simp only [runL, awant_none, astep, evl, put, ap_none, List.length_nil, Nat.add_zero] <;> rfl) ?_))
  exact s_ret ⟨.inr rfl, by simp [upd_app, isTup], [], fin_none (by simp [resVal, upd_app]) (by simp [SVT, SVA, SV1]) (fun _ _ h => h)⟩

set_option maxRecDepth 10000 in
theorem cfind_spec (p : Nat) (v : Value) (F : List Nat) (u c r : Nat) (z : Int) (g : Heap) (h : Rd 91 p v F u c r g) (h1 : 2 ^ 24 ≤ r) (hr2 : r < 2 ^ 32) (hc : c < 2 ^ 40) : FnSpec Try.prog 54 [ptr4 p, .int .i64 z] g { v := cfV c r z, r := p :: srcBlk v } := by
  refine spec_of_body [4, 5] follows Try.func54 rfl (by kernel_rfl) (by simp [Try.f54]) (by kernel_rfl) rfl ?_
  intro g2 s2 n hg hfr hs hn hwf hsv
  have h2 : Rd 91 p v F u c r g2 := h.congr (hg p (by simp [Eff.fp])) (fun i hi => hg i (by simp [Eff.fp, hi]))
  refine s_run (by simp only [runL, awant_none, astep, evl, put, ap_none, List.length_nil, Nat.add_zero, undef] <;> rfl) ?_
  by_cases z1 : z < 1
  · have d1 : decide (z < 1) = true := decide_eq_true z1
    have hb : cfB c r z = false := decide_eq_false (by omega)
    rw [cfV_no hb]
    refine w_assoc (s_run (by simp only [runL, awant_some, Option.getD_some, List.getElem?_toArray, List.getElem?_cons_succ, List.getElem?_cons_zero, Option.bind_some, b_tf, b_ff, awant_none, astep, evl, put, ap_none, List.length_nil, Nat.add_zero, upd_app, stepBin, abin, stepPick, reduceCtorEq, ↓reduceIte, Nat.reduceEqDiff, Bool.false_eq_true, undef, Try.underlying63, Option.isNone_some, d1] <;> rfl) ?_)
    refine s_true (by simp [evl]) (w_assoc (s_run (by simp only [runL, awant_none, astep, evl, put, ap_none, List.length_nil, Nat.add_zero] <;> rfl) ?_))
    exact s_ret ⟨.inr rfl, by simp [upd_app, isTup], [], fin_none (by simp [resVal, upd_app]) (by simp [SVT, SVA, SV1]) (fun _ _ h => h)⟩
  have d1 : decide (z < 1) = false := decide_eq_false z1
  by_cases z2 : z > 65536
  · have d2 : decide (z > 65536) = true := decide_eq_true z2
    have hb : cfB c r z = false := decide_eq_false (by omega)
    rw [cfV_no hb]
    refine w_assoc (s_run (by simp only [runL, awant_some, Option.getD_some, List.getElem?_toArray, List.getElem?_cons_succ, List.getElem?_cons_zero, Option.bind_some, b_ff, awant_none, astep, evl, put, ap_none, List.length_nil, Nat.add_zero, upd_app, stepBin, abin, stepPick, reduceCtorEq, ↓reduceIte, Nat.reduceEqDiff, Bool.false_eq_true, Try.underlying63, Option.isNone_some, d1, d2] <;> rfl) ?_)
    refine s_true (by simp [evl]) (w_assoc (s_run (by simp only [runL, awant_none, astep, evl, put, ap_none, List.length_nil, Nat.add_zero] <;> rfl) ?_))
    exact s_ret ⟨.inr rfl, by simp [upd_app, isTup], [], fin_none (by simp [resVal, upd_app]) (by simp [SVT, SVA, SV1]) (fun _ _ h => h)⟩
  have d2 : decide (z > 65536) = false := decide_eq_false z2
  obtain ⟨tot, rfl⟩ : ∃ k : Nat, z = k := ⟨z.toNat, by omega⟩
  refine w_assoc (s_run (by simp only [runL, awant_some, Option.getD_some, List.getElem?_toArray, List.getElem?_cons_succ, List.getElem?_cons_zero, Option.bind_some, b_ff, awant_none, astep, evl, put, ap_none, List.length_nil, Nat.add_zero, upd_app, stepBin, abin, stepPick, reduceCtorEq, ↓reduceIte, Nat.reduceEqDiff, Bool.false_eq_true, Try.underlying63, Option.isNone_some, d1, d2] <;> rfl) ?_)
  refine s_false (by simp [evl]) (s_skip ?_)
  have z0 : (((tot : Nat) : Int) = 0) = False := eq_false (by omega)
  have wt : IntKind.u64.wrap ((tot : Nat) : Int) = (tot : Nat) := wrapU (by omega)
  have hple : r / tot ≤ r := Nat.div_le_self _ _
  have hp0 : 256 ≤ r / tot := by
    rw [Nat.le_div_iff_mul_le (by omega)]
    omega
  have wq : IntKind.u64.wrap (((r : Nat) : Int).tdiv ((tot : Nat) : Int)) = ((r / tot : Nat) : Int) := by
    rw [show ((r : Nat) : Int).tdiv ((tot : Nat) : Int) = ((r / tot : Nat) : Int) from rfl, wrapU (by omega)]
  refine s_run (by simp only [runL, Option.getD_some, List.getElem?_cons_succ, List.getElem?_cons_zero, awant_none, astep, evl, put, ap_none, List.length_nil, Nat.add_zero, upd_app, stepBin, abin, reduceCtorEq, ↓reduceIte, Nat.reduceEqDiff, ne_eq, not_false_eq_true, and_self, nchk, fld91_3, h2.ld3, conv3_41, wt, z0, wq] <;> rfl) ?_
  refine w_gen (fun t => t 0 = ptr4 p ∧ t 1 = .int .i64 (tot : Nat) ∧ t 6 = .int .u64 (r / tot : Nat)) (by simp [upd_app]) ?_
  rintro t ⟨t0, t1, t6⟩
  have hbe : cfB c r (tot : Int) = decide (c / (r / tot) < tot) := by
    unfold cfB
    rw [Int.toNat_natCast]
    by_cases h : c / (r / tot) < tot
    · rw [decide_eq_true h]; exact decide_eq_true ⟨by omega, by omega, h⟩
    · rw [decide_eq_false h]; exact decide_eq_false (fun e => h e.2.2)
  have hqle : c / (r / tot) ≤ c := Nat.div_le_self _ _
  have hV1 : cfB c r (tot : Int) = true → cfV c r (tot : Int) = .tuple #[.int .i64 ((c / (r / tot) : Nat) : Int), .bool true] := fun hb => by rw [cfV_yes hb, Int.toNat_natCast]
  obtain ⟨part, hpart⟩ : ∃ part, r / tot = part := ⟨_, rfl⟩
  rw [hpart] at t6 hbe hqle hp0 hV1
  clear wq hple
  have e0 : (((part : Nat) : Int) == 0) = false := ieq_f (by omega)
  have z3 : (((part : Nat) : Int) = 0) = False := eq_false (by omega)
  have wq2 : IntKind.u64.wrap (((c : Nat) : Int).tdiv ((part : Nat) : Int)) = ((c / part : Nat) : Int) := by
    rw [show ((c : Nat) : Int).tdiv ((part : Nat) : Int) = ((c / part : Nat) : Int) from rfl, wrapU (by omega)]
  have w3 : IntKind.i64.wrap ((c / part : Nat) : Int) = ((c / part : Nat) : Int) := wrap_nat (by omega)
  by_cases hlt : c / part < tot
  · rw [decide_eq_true hlt] at hbe
    rw [hV1 hbe]
    have d3 : decide (((c / part : Nat) : Int) ≥ ((tot : Nat) : Int)) = false := decide_eq_false (by omega)
    refine w_assoc (s_run (by simp only [runL, awant_some, List.getElem?_toArray, List.getElem?_cons_succ, List.getElem?_cons_zero, Option.bind_some, b_ff, awant_none, astep, evl, put, ap_none, List.length_nil, Nat.add_zero, upd_app, stepBin, abin, stepPick, reduceCtorEq, ↓reduceIte, Nat.reduceEqDiff, Bool.false_eq_true, ne_eq, not_false_eq_true, and_self, t0, t1, t6, e0, nchk, fld91_2, h2.ld2, z3, wq2, conv3_41, wt, d3] <;> rfl) ?_)
    refine s_false (by simp [evl]) (s_skip ?_)
    refine w_gen (fun t => t 0 = ptr4 p ∧ t 6 = .int .u64 (part : Nat)) (by simp [upd_app, t0, t6]) ?_
    clear t0 t1 t6
    rintro t ⟨t0, t6⟩
    refine s_run (by simp only [runL, awant_none, astep, evl, put, ap_none, List.length_nil, Nat.add_zero, upd_app, stepBin, abin, ↓reduceIte, Nat.reduceEqDiff, ne_eq, not_false_eq_true, and_self, t0, t6, nchk, fld91_2, h2.ld2, z3, wq2, conv41_3, w3] <;> rfl) ?_
    exact w_ret ⟨.inr rfl, by simp [upd_app, isTup], [], fin_none (by simp [resVal, upd_app]) (by simp [SVT, SVA, SV1]) (fun _ _ h => h)⟩
  · rw [decide_eq_false hlt] at hbe
    rw [cfV_no hbe]
    have d3 : decide (((c / part : Nat) : Int) ≥ ((tot : Nat) : Int)) = true := decide_eq_true (by omega)
    refine w_assoc (s_run (by simp only [runL, awant_some, List.getElem?_toArray, List.getElem?_cons_succ, List.getElem?_cons_zero, Option.bind_some, b_ff, awant_none, astep, evl, put, ap_none, List.length_nil, Nat.add_zero, upd_app, stepBin, abin, stepPick, reduceCtorEq, ↓reduceIte, Nat.reduceEqDiff, Bool.false_eq_true, ne_eq, not_false_eq_true, and_self, t0, t1, t6, e0, nchk, fld91_2, h2.ld2, z3, wq2, conv3_41, wt, d3] <;> rfl) ?_)
    refine s_true (by simp [evl]) (w_assoc (s_run (by simp only [runL, awant_none, astep, evl, put, ap_none, List.length_nil, Nat.add_zero] <;> rfl) ?_))
    exact s_ret ⟨.inr rfl, by simp [upd_app, isTup], [], fin_none (by simp [resVal, upd_app]) (by simp [SVT, SVA, SV1]) (fun _ _ h => h)⟩
end Go.Proofs.Ytahinegnblankaa
