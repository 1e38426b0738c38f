import Derived.Test.YtahinegnblankaaP41
namespace Go.Proofs.Ytahinegnblankaa
open Go Abs
set_option linter.unusedSimpArgs false
set_option linter.unusedVariables false

theorem src_one {g : Heap} {v : Value} {e m : Nat} {cs : List Value} (h : Src g v e m cs) : v.cells = #[v] ∧ isTup v = false := by
  obtain ⟨a, e', rfl⟩ := h.shape
  exact ⟨rfl, rfl⟩

def rnewRdE (v : Value) (l : List Nat) (j : Nat) : Eff := { v := .tuple #[ptr4 j, .bool true], r := srcBlk v, j := j, a := [⟨false, 70, [v, .int .i64 (4 : Nat), .int .u64 (be (l.take 4) : Nat), .int .u64 (4294967295 : Nat)]⟩] }

theorem be4 {l : List Nat} (h : 4 ≤ l.length) : be (l.take 4) = ((byt l 0 * 256 + byt l 1) * 256 + byt l 2) * 256 + byt l 3 := by
  rw [be_take_succ (k := 3) (by omega), be_take_succ (k := 2) (by omega), be_take_succ (k := 1) (by omega), be_take_succ (k := 0) (by omega)]
  simp [be]

set_option maxRecDepth 10000 in
theorem rnewRd_no (v : Value) (l : List Nat) (g : Heap) (h4 : l.length < 4) (hv : Src g v 1 l.length (bs l)) : FnSpec Try.prog 53 [v] g { v := .tuple #[.pointer none, .bool false], r := srcBlk v } := by
  refine spec_of_body [2, 3] follows Try.func53 rfl (by kernel_rfl) (by simp [Try.f53]) (by kernel_rfl) rfl ?_
  intro g2 s2 n hg hfr hs hn hwf hsv
  have hv2 : Src g2 v 1 l.length (bs l) := hv.congr fun i hi => hg i (by simp [Eff.fp, hi])
  have hlen := hv2.len Try.underlying24
  have d1 : decide ((l.length : Int) < 4) = true := decide_eq_true (by omega)
  refine s_run (by simp only [runL, awant_none, astep, evl, put, ap_none, List.length_nil, Nat.add_zero, undef] <;> rfl) ?_
  refine w_assoc (s_run (by simp only [runL, Option.getD_some, List.getElem?_cons_zero, awant_none, astep, evl, put, ap_none, List.length_nil, Nat.add_zero, upd_app, stepBin, abin, stepCall, reduceCtorEq, ↓reduceIte, hlen, d1] <;> rfl) ?_)
  refine s_true (by simp [evl]) (w_assoc (s_run (by simp only [runL, awant_none, astep, evl, put, ap_none, List.length_nil, Nat.add_zero] <;> rfl) ?_))
  exact s_ret ⟨.inr rfl, by simp [upd_app, isTup], [], fin_none (by simp [resVal, upd_app]) (by simp [SVT, SVA, SV1]) (fun _ _ h => h)⟩

set_option maxRecDepth 10000 in
theorem rnewRd_yes (v : Value) (l : List Nat) (g : Heap) (j : Nat) (h4 : 4 ≤ l.length) (hb : ∀ x ∈ l, x < 256) (hv : Src g v 1 l.length (bs l)) : FnSpec Try.prog 53 [v] g (rnewRdE v l j) := by
  refine spec_of_body [2, 3] follows Try.func53 rfl (by kernel_rfl) (by simp [Try.f53]) (by kernel_rfl) rfl ?_
  intro g2 s2 n hg hfr hs hn hwf hsv
  have hv2 : Src g2 v 1 l.length (bs l) := hv.congr fun i hi => hg i (by simp [rnewRdE, Eff.fp, hi])
  have hlen := hv2.len Try.underlying24
  have d1 : decide ((l.length : Int) < 4) = false := decide_eq_false (by omega)
  refine s_run (by simp only [runL, awant_none, astep, evl, put, ap_none, List.length_nil, Nat.add_zero, undef] <;> rfl) ?_
  refine w_assoc (s_run (by simp only [runL, Option.getD_some, List.getElem?_cons_zero, awant_none, astep, evl, put, ap_none, List.length_nil, Nat.add_zero, upd_app, stepBin, abin, stepCall, reduceCtorEq, ↓reduceIte, hlen, d1] <;> rfl) ?_)
  refine s_false (by simp [evl]) (s_skip ?_)
  obtain ⟨p0, i0, l0, _⟩ := hv2.at1 (P := Try.prog) (i := 0) (c := .int .u8 (byt l 0)) (bs_at (by omega)) Try.underlying24 tsize5 aggT5
  obtain ⟨p1, i1, l1, _⟩ := hv2.at1 (P := Try.prog) (i := 1) (c := .int .u8 (byt l 1)) (bs_at (by omega)) Try.underlying24 tsize5 aggT5
  obtain ⟨p2, i2, l2, _⟩ := hv2.at1 (P := Try.prog) (i := 2) (c := .int .u8 (byt l 2)) (bs_at (by omega)) Try.underlying24 tsize5 aggT5
  obtain ⟨p3, i3, l3, _⟩ := hv2.at1 (P := Try.prog) (i := 3) (c := .int .u8 (byt l 3)) (bs_at (by omega)) Try.underlying24 tsize5 aggT5
  have i0 : stepIndex Try.prog 24 v (.int .i64 0) = _ := i0 .i64
  have i1 : stepIndex Try.prog 24 v (.int .i64 1) = _ := i1 .i64
  have i2 : stepIndex Try.prog 24 v (.int .i64 2) = _ := i2 .i64
  have i3 : stepIndex Try.prog 24 v (.int .i64 3) = _ := i3 .i64
  have b0 := byt_lt hb 0
  have b1 := byt_lt hb 1
  have b2 := byt_lt hb 2
  have b3 := byt_lt hb 3
  have hc := be4 h4
  obtain ⟨c, hcc⟩ : ∃ c, be (l.take 4) = c := ⟨_, rfl⟩
  have hE : rnewRdE v l j = { v := .tuple #[ptr4 j, .bool true], r := srcBlk v, j := j, a := [⟨false, 70, [v, .int .i64 (4 : Nat), .int .u64 (c : Nat), .int .u64 (4294967295 : Nat)]⟩] } := by rw [← hcc]; rfl
  rw [hE] at hfr ⊢
  clear hE
  rw [hcc] at hc
  clear hcc
  generalize byt l 0 = x0 at *
  generalize byt l 1 = x1 at *
  generalize byt l 2 = x2 at *
  generalize byt l 3 = x3 at *
  have w0 : IntKind.u64.wrap ((x0 : Nat) : Int) = (x0 : Nat) := wrapU (by omega)
  have w1 : IntKind.u64.wrap ((x1 : Nat) : Int) = (x1 : Nat) := wrapU (by omega)
  have w2 : IntKind.u64.wrap ((x2 : Nat) : Int) = (x2 : Nat) := wrapU (by omega)
  have w3 : IntKind.u64.wrap ((x3 : Nat) : Int) = (x3 : Nat) := wrapU (by omega)
  obtain ⟨y0, hy0⟩ : ∃ y, y = x0 * 2 ^ 24 := ⟨_, rfl⟩
  obtain ⟨y1, hy1⟩ : ∃ y, y = x1 * 2 ^ 16 := ⟨_, rfl⟩
  obtain ⟨y2, hy2⟩ : ∃ y, y = x2 * 2 ^ 8 := ⟨_, rfl⟩
  obtain ⟨y3, hy3⟩ : ∃ y, y = (x0 * 256 + x1) * 2 ^ 16 := ⟨_, rfl⟩
  obtain ⟨y4, hy4⟩ : ∃ y, y = ((x0 * 256 + x1) * 256 + x2) * 2 ^ 8 := ⟨_, rfl⟩
  have s0 : IntKind.u64.wrap ((x0 : Int) * 2 ^ (min 24 IntKind.u64.bits)) = ((y0 : Nat) : Int) := by rw [hy0]; exact shl64 x0 24 (by omega) (by omega)
  have s1 : IntKind.u64.wrap ((x1 : Int) * 2 ^ (min 16 IntKind.u64.bits)) = ((y1 : Nat) : Int) := by rw [hy1]; exact shl64 x1 16 (by omega) (by omega)
  have s2' : IntKind.u64.wrap ((x2 : Int) * 2 ^ (min 8 IntKind.u64.bits)) = ((y2 : Nat) : Int) := by rw [hy2]; exact shl64 x2 8 (by omega) (by omega)
  have o1 : bits .or .u64 ((y0 : Nat) : Int) ((y1 : Nat) : Int) = ((y3 : Nat) : Int) := by rw [hy0, or_add x0 y1 24 (by omega) (by omega), show x0 * 2 ^ 24 + y1 = y3 by omega]
  have o2 : bits .or .u64 ((y3 : Nat) : Int) ((y2 : Nat) : Int) = ((y4 : Nat) : Int) := by rw [hy3, or_add (x0 * 256 + x1) y2 16 (by omega) (by omega), show (x0 * 256 + x1) * 2 ^ 16 + y2 = y4 by omega]
  have o3 : bits .or .u64 ((y4 : Nat) : Int) ((x3 : Nat) : Int) = ((c : Nat) : Int) := by rw [hy4, or_add ((x0 * 256 + x1) * 256 + x2) x3 8 (by omega) (by omega), show ((x0 * 256 + x1) * 256 + x2) * 2 ^ 8 + x3 = c by omega]
  clear hy0 hy1 hy2 hy3 hy4
  refine s_draw #[0, 1, 3, 7, 15, 0, 32, 96, 224, 480, 1023, 0, 2048, 6144, 14336, 30720, 65535, 0, 131072, 393216, 917504, 2097151, 4194303] (by decide +kernel) (by simp only [runR, Option.getD_some, List.getElem?_cons_zero, awant_none, astep, evl, put, upd_app, stepBin, abin, reduceCtorEq, ↓reduceIte, Nat.reduceEqDiff, Int.reduceLE, Int.reduceToNat, List.isEmpty_nil, Bool.and_self, i0, i1, i2, i3, l0, l1, l2, l3, conv5_41, w0, w1, w2, w3, s0, s1, s2', o1, o2, o3] <;> rfl) ?_
  have hmk := mk70 v (src_one hv2).1 (src_one hv2).2 4 c 4294967295
  refine w_gen (fun t => t 0 = v ∧ t 4 = .int .u64 c) (by simp [upd_app]) ?_
  rintro t ⟨t0, t4⟩
  refine s_run (by simp only [runL, awant_none, astep, evl, put, ap_none, ap_new, List.length_nil, List.length_cons, Nat.add_zero, Nat.zero_add, upd_app, ↓reduceIte, Nat.reduceEqDiff, List.map_cons, List.map_nil, undef, t0, t4, hmk, stepBox, isTup, Value.cells] <;> rfl) (w_heap fun G1 hG1 => ?_)
  have p1 : G1 n = some ⟨false, 70, [v, .int .i64 (4 : Nat), .int .u64 (c : Nat), .int .u64 (4294967295 : Nat)]⟩ := by rw [hG1]; simp []
  have k1 : Kp n g2 G1 := by rw [hG1]; exact kp_upd (Kp.refl _ _) (Nat.le_refl _)
  refine w_ret ⟨.inr rfl, by simp [upd_app, isTup], [n], ?_⟩
  refine fin_oneOld (by simp [resVal, upd_app, renT, renA, ren1]) (fun x hx => ?_) (Nat.le_refl _) p1 (fun x hx => ?_) (hfr j (Nat.le_refl _) (by simp)) (fun i b hb => k1.at (hs i (hwf i b hb).1) hb)
  · simp at hx
    rcases hx with rfl | rfl
    · exact .inr rfl
    · trivial
  · simp only [List.mem_cons, List.not_mem_nil, or_false] at hx
    rcases hx with rfl | rfl | rfl | rfl
    · obtain ⟨a, e', rfl⟩ := hv2.shape
      have := hsv _ (List.mem_singleton.2 rfl)
      exact this
    · trivial
    · trivial
    · trivial

set_option maxRecDepth 10000 in
theorem rcfind_spec (p : Nat) (v : Value) (F : List Nat) (u c r : Nat) (z : Int) (g : Heap) (h : Rd 70 p v F u c r g) (h1 : 2 ^ 24 ≤ r) (hr2 : r < 2 ^ 32) (hc : c < 2 ^ 40) : FnSpec Try.prog 55 [ptr4 p, .int .i64 z] g { v := cfV c r z, r := p :: srcBlk v } := by
  refine spec_of_body [4, 5] follows Try.func55 rfl (by kernel_rfl) (by simp [Try.f55]) (by kernel_rfl) rfl ?_
  intro g2 s2 n hg hfr hs hn hwf hsv
  have h2 : Rd 70 p v F u c r g2 := h.congr (hg p (by simp [Eff.fp])) (fun i hi => hg i (by simp [Eff.fp, hi]))
  refine s_run (by simp only [runL, awant_none, astep, evl, put, ap_none, List.length_nil, Nat.add_zero, undef] <;> rfl) ?_
  by_cases z1 : z < 1
  · have d1 : decide (z < 1) = true := decide_eq_true z1
    have hb : cfB c r z = false := decide_eq_false (by omega)
    rw [cfV_no hb]
    refine w_assoc (s_run (by simp only [runL, awant_some, Option.getD_some, List.getElem?_toArray, List.getElem?_cons_succ, List.getElem?_cons_zero, Option.bind_some, b_tf, awant_none, astep, evl, put, ap_none, List.length_nil, Nat.add_zero, upd_app, stepBin, abin, stepPick, ↓reduceIte, Nat.reduceEqDiff, undef, d1] <;> rfl) ?_)
    refine s_true (by simp [evl]) (w_assoc (s_run (by simp only [runL, awant_none, astep, evl, put, ap_none, List.length_nil, Nat.add_zero] <;> rfl) ?_))
    exact s_ret ⟨.inr rfl, by simp [upd_app, isTup], [], fin_none (by simp [resVal, upd_app]) (by simp [SVT, SVA, SV1]) (fun _ _ h => h)⟩
  have d1 : decide (z < 1) = false := decide_eq_false z1
  by_cases z2 : z > 65536
  · have d2 : decide (z > 65536) = true := decide_eq_true z2
    have hb : cfB c r z = false := decide_eq_false (by omega)
    rw [cfV_no hb]
    refine w_assoc (s_run (by simp only [runL, awant_some, Option.getD_some, List.getElem?_toArray, List.getElem?_cons_succ, List.getElem?_cons_zero, Option.bind_some, b_ff, awant_none, astep, evl, put, ap_none, List.length_nil, Nat.add_zero, upd_app, stepBin, abin, stepPick, ↓reduceIte, Nat.reduceEqDiff, Bool.false_eq_true, d1, d2] <;> rfl) ?_)
    refine s_true (by simp [evl]) (w_assoc (s_run (by simp only [runL, awant_none, astep, evl, put, ap_none, List.length_nil, Nat.add_zero] <;> rfl) ?_))
    exact s_ret ⟨.inr rfl, by simp [upd_app, isTup], [], fin_none (by simp [resVal, upd_app]) (by simp [SVT, SVA, SV1]) (fun _ _ h => h)⟩
  have d2 : decide (z > 65536) = false := decide_eq_false z2
  obtain ⟨tot, rfl⟩ : ∃ k : Nat, z = k := ⟨z.toNat, by omega⟩
  refine w_assoc (s_run (by simp only [runL, awant_some, Option.getD_some, List.getElem?_toArray, List.getElem?_cons_succ, List.getElem?_cons_zero, Option.bind_some, b_ff, awant_none, astep, evl, put, ap_none, List.length_nil, Nat.add_zero, upd_app, stepBin, abin, stepPick, ↓reduceIte, Nat.reduceEqDiff, Bool.false_eq_true, d1, d2] <;> rfl) ?_)
  refine s_false (by simp [evl]) (s_skip ?_)
  have z0 : (((tot : Nat) : Int) = 0) = False := eq_false (by omega)
  have wt : IntKind.u64.wrap ((tot : Nat) : Int) = (tot : Nat) := wrapU (by omega)
  have hple : r / tot ≤ r := Nat.div_le_self _ _
  have hp0 : 256 ≤ r / tot := by
    rw [Nat.le_div_iff_mul_le (by omega)]
    omega
  have wq : IntKind.u64.wrap (((r : Nat) : Int).tdiv ((tot : Nat) : Int)) = ((r / tot : Nat) : Int) := by
    rw [show ((r : Nat) : Int).tdiv ((tot : Nat) : Int) = ((r / tot : Nat) : Int) from rfl, wrapU (by omega)]
  have hbe : cfB c r (tot : Int) = decide (c / (r / tot) < tot) := by
    unfold cfB
    rw [Int.toNat_natCast]
    by_cases h : c / (r / tot) < tot
    · rw [decide_eq_true h]; exact decide_eq_true ⟨by omega, by omega, h⟩
    · rw [decide_eq_false h]; exact decide_eq_false (fun e => h e.2.2)
  have hqle : c / (r / tot) ≤ c := Nat.div_le_self _ _
  have hV1 : cfB c r (tot : Int) = true → cfV c r (tot : Int) = .tuple #[.int .i64 ((c / (r / tot) : Nat) : Int), .bool true] := fun hb => by rw [cfV_yes hb, Int.toNat_natCast]
  have z3 : (((r / tot : Nat) : Int) = 0) = False := eq_false (by omega)
  have wq2 : IntKind.u64.wrap (((c : Nat) : Int).tdiv ((r / tot : Nat) : Int)) = ((c / (r / tot) : Nat) : Int) := by
    rw [show ((c : Nat) : Int).tdiv ((r / tot : Nat) : Int) = ((c / (r / tot) : Nat) : Int) from rfl, wrapU (by omega)]
  have w3 : IntKind.i64.wrap ((c / (r / tot) : Nat) : Int) = ((c / (r / tot) : Nat) : Int) := wrap_nat (by omega)
  generalize c / (r / tot) = q at *
  generalize r / tot = part at *
  refine w_gen (fun t => t 0 = ptr4 p ∧ t 1 = .int .i64 (tot : Nat)) (by simp [upd_app]) ?_
  rintro t ⟨t0, t1⟩
  refine s_draw #[0, 1, 3, 7, 0, 16, 48, 112, 0, 256, 1008, 2047, 4095] (by decide +kernel) (by simp only [runR, awant_none, astep, evl, put, upd_app, stepBin, abin, reduceCtorEq, ↓reduceIte, Nat.reduceEqDiff, ne_eq, not_false_eq_true, and_self, List.isEmpty_nil, Bool.and_self, t0, t1, nchk, fld70_2, fld70_3, h2.ld2, h2.ld3, conv3_41, wt, z0, wq, z3, wq2] <;> rfl) ?_
  refine w_gen (fun t => t 1 = .int .i64 (tot : Nat) ∧ t 6 = .int .u64 (q : Nat)) (by simp [upd_app, t1]) ?_
  clear t0 t1
  rintro t ⟨t1, t6⟩
  by_cases hlt : q < tot
  · rw [decide_eq_true hlt] at hbe
    rw [hV1 hbe]
    have d3 : decide (((q : Nat) : Int) ≥ ((tot : Nat) : Int)) = false := decide_eq_false (by omega)
    refine w_assoc (s_run (by simp only [runL, awant_none, astep, evl, put, ap_none, List.length_nil, Nat.add_zero, upd_app, stepBin, abin, ↓reduceIte, Nat.reduceEqDiff, t1, t6, conv3_41, wt, d3] <;> rfl) ?_)
    refine s_false (by simp [evl]) (s_skip ?_)
    refine s_run (by simp only [runL, awant_none, astep, evl, put, ap_none, List.length_nil, Nat.add_zero, upd_app, ↓reduceIte, Nat.reduceEqDiff, t6, conv41_3, w3] <;> rfl) ?_
    exact w_ret ⟨.inr rfl, by simp [upd_app, isTup], [], fin_none (by simp [resVal, upd_app]) (by simp [SVT, SVA, SV1]) (fun _ _ h => h)⟩
  · rw [decide_eq_false hlt] at hbe
    rw [cfV_no hbe]
    have d3 : decide (((q : Nat) : Int) ≥ ((tot : Nat) : Int)) = true := decide_eq_true (by omega)
    refine w_assoc (s_run (by simp only [runL, awant_none, astep, evl, put, ap_none, List.length_nil, Nat.add_zero, upd_app, stepBin, abin, ↓reduceIte, Nat.reduceEqDiff, t1, t6, conv3_41, wt, d3] <;> rfl) ?_)
    refine s_true (by simp [evl]) (w_assoc (s_run (by simp only [runL, awant_none, astep, evl, put, ap_none, List.length_nil, Nat.add_zero] <;> rfl) ?_))
    exact s_ret ⟨.inr rfl, by simp [upd_app, isTup], [], fin_none (by simp [resVal, upd_app]) (by simp [SVT, SVA, SV1]) (fun _ _ h => h)⟩
end Go.Proofs.Ytahinegnblankaa
