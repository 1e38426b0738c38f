import Derived.Test.YtahinegnblankaaP28
namespace Go.Proofs.Ytahinegnblankaa
open Go Abs
set_option linter.unusedSimpArgs false
set_option linter.unusedVariables false

theorem take_succ_byt {l : List Nat} {k : Nat} (h : k < l.length) : l.take (k + 1) = l.take k ++ [byt l k] := by
  rw [List.take_succ_eq_append_getElem h, byt_eq h]

/-- The bytes while a carry goes through them: k of them are as they were. -/
def wiped (b : List Nat) (k : Nat) : List Nat := b.take k ++ List.replicate (b.length - k) 0
theorem wiped_len {b : List Nat} {k : Nat} (h : k ≤ b.length) : (wiped b k).length = b.length := by simp [wiped]; omega
theorem wiped_at {b : List Nat} {k : Nat} (h : k < b.length) : byt (wiped b (k + 1)) k = byt b k := by
  unfold byt wiped
  rw [List.getElem?_append_left (by simp; omega), List.getElem?_take_of_lt (by omega)]
theorem wiped_set {b : List Nat} {k x : Nat} (h : k < b.length) : (wiped b (k + 1)).set k x = b.take k ++ x :: List.replicate (b.length - (k + 1)) 0 := by
  unfold wiped
  rw [take_succ_byt h, List.append_assoc, List.set_append_right _ _ (by simp; omega)]
  simp [Nat.min_eq_left (Nat.le_of_lt h)]
theorem wiped_zero {b : List Nat} {k : Nat} (h : k < b.length) : (wiped b (k + 1)).set k 0 = wiped b k := by
  rw [wiped_set h, wiped, show b.length - k = (b.length - (k + 1)) + 1 by omega, List.replicate_succ]
theorem wiped_all (b : List Nat) : wiped b b.length = b := by simp [wiped]

def carE (p : Nat) (sl : Option Nat) (b : List Nat) : Eff :=
  match sl with
  | none => { v := .tuple #[], r := [p] }
  | some q => { v := .tuple #[], r := [p, q], w := [(q, ⟨false, 5, bs (addN b 1)⟩)] }

set_option maxRecDepth 10000 in
theorem carries_spec (p : Nat) (sl : Option Nat) (b : List Nat) (m r : Nat) (g : Heap) (h : Wr p sl b m r g) (hb : ∀ x ∈ b, x < 256) (hl : b.length ≤ 2 ^ 38) : FnSpec Try.prog 73 [ptr3 p] g (carE p sl b) := by
  refine spec_of_body [] follows Try.func73 rfl (by kernel_rfl) (by simp [Try.f73]) (by kernel_rfl) rfl ?_
  intro g2 s2 n hg hfr hs hn hwf hsv
  have h2 : Wr p sl b m r g2 := h.congr (hg p (by cases sl <;> simp [carE, Eff.fp])) (fun q e => hg q (by subst e; simp [carE, Eff.fp]))
  have hne := h2.ne
  have hlen := wv_len sl b.length (fun e => by rw [h2.h0 e]; rfl)
  have fin : ∀ (t : Nat → Value) (g' : Heap), (∀ q, sl = some q → g' q = some ⟨false, 5, bs (addN b 1)⟩) → (∀ i, some i ≠ sl → g' i = g2 i) → ∃ ids, Abs.Fin (carE p sl b) ids s2 g2 n g' (resVal [] t) := by
    intro t g' hq ho
    cases sl with
    | none => exact ⟨[], fin_none (by simp [resVal]) (by simp [SVT]) (fun i b hb => by rw [ho i (by simp)]; exact hb)⟩
    | some q => exact ⟨[], fin_w1 (by simp [resVal]) (by simp [SVT]) (by rw [h2.hq q rfl]; rfl) (hq q rfl) (fun x hx => SV1_plain (plain_bs _ x hx)) (fun i b h1 hb => by rw [ho i (by simpa using h1)]; exact hb)⟩
  have w0 : IntKind.i64.wrap ((b.length : Int) - 1) = (b.length : Int) - 1 := wrap64_of (by omega) (by omega)
  refine s_run (by simp only [runL, Option.getD_some, List.getElem?_cons_zero, awant_none, astep, evl, put, ap_none, List.length_nil, Nat.add_zero, upd_app, stepBin, abin, stepCall, ↓reduceIte, undef, nchk, fld84_0, h2.ld0, hlen, w0] <;> rfl) ?_
  refine w_block (w_loop (fun t g _ => ∃ k : Nat, k ≤ b.length ∧ t 0 = ptr3 p ∧ t 2 = .int .i64 ((k : Int) - 1) ∧ (∀ q, sl = some q → g q = some ⟨false, 5, bs (wiped b k)⟩) ∧ (∀ i, some i ≠ sl → g i = g2 i) ∧ addN b 1 = addN (b.take k) 1 ++ List.replicate (b.length - k) 0)
      (fun t _ _ => match t 2 with | .int _ k => (k + 1).toNat | _ => 0) ⟨b.length, Nat.le_refl _, by simp [upd_app], by simp [], fun q e => by rw [wiped_all]; exact h2.hq q e, fun _ _ => rfl, by simp⟩ ?_)
  rintro t g n' ⟨k, hk, t0, t2, hq, ho, hadd⟩
  cases k with
  | zero =>
    have d1 : decide ((((0 : Nat) : Int) - 1) ≥ 0) = false := rfl
    refine w_assoc (s_run (by simp only [runL, awant_none, astep, evl, put, ap_none, List.length_nil, Nat.add_zero, upd_app, stepBin, abin, ↓reduceIte, t2, d1] <;> rfl) ?_)
    refine s_false (by simp [evl]) (s_exit ?_)
    refine ⟨.inl rfl, by simp, fin _ _ (fun q e => ?_) ho⟩
    rw [hq q e, hadd]
    simp [wiped, addN_nil]
  | succ k =>
    have d1 : decide ((((k + 1 : Nat) : Int) - 1) ≥ 0) = true := decide_eq_true (by omega)
    refine w_assoc (s_run (by simp only [runL, awant_none, astep, evl, put, ap_none, List.length_nil, Nat.add_zero, upd_app, stepBin, abin, ↓reduceIte, t2, d1] <;> rfl) ?_)
    refine s_true (by simp [evl]) (s_skip (w_seq (w_block ?_)))
    obtain ⟨q, rfl⟩ : ∃ q, sl = some q := by
      cases sl with
      | none => have := h2.h0 rfl; subst this; simp at hk
      | some q => exact ⟨q, rfl⟩
    have hq := hq q rfl
    have hqp : p ≠ q := fun e => hne (by rw [e])
    have hwl := wiped_len hk
    have hat := wiped_at (show k < b.length by omega)
    have hbx := byt_lt hb k
    have e2 : ((k + 1 : Nat) : Int) - 1 = (k : Int) := by omega
    have hp : g p = some ⟨false, 84, [wv (some q) b.length, .int .u64 (m : Nat), .int .u64 (r : Nat)]⟩ := by rw [ho p (by simpa using hqp)]; exact h2.hp
    have ld0 : stepLoad Try.prog 24 (.pointer (some ⟨p, 0, some 3⟩)) g = some { v := .slice (some ⟨q, 0, some b.length⟩) b.length 1, r := [p] } := ld_at hp rfl rfl aggT24
    have i1 := idx24 q b.length k b.length (by omega)
    have l1 : stepLoad Try.prog 5 (.pointer (some ⟨q, k, some b.length⟩)) g = some { v := .int .u8 (byt b k), r := [q] } := by rw [← hat]; exact ldb hq hwl (by omega)
    have w1 : IntKind.u8.wrap ((byt b k : Int) + 1) = (((byt b k + 1) % 256 : Nat) : Int) := by rw [IntKind.wrap_u8]; omega
    have st1 := stb (x := (byt b k + 1) % 256) hq hwl (i := k) (by omega)
    rw [e2] at t2
    refine w_gen (fun t => t 0 = ptr3 p ∧ t 2 = .int .i64 k) (by simp [upd_app, t0, t2]) ?_
    have t2' := t2
    clear t0 t2
    rintro t' ⟨t0, t2⟩
    refine s_run (by simp only [runL, awant_none, astep, evl, put, ap_none, ap_wr, List.length_nil, Nat.add_zero, upd_app, stepBin, abin, ↓reduceIte, Nat.reduceEqDiff, undef, t0, t2, nchk, fld84_0, ld0, i1, l1, w1, st1] <;> rfl) (w_heap fun G1 hG1 => ?_)
    have q1 : G1 q = some ⟨false, 5, bs ((wiped b (k + 1)).set k ((byt b k + 1) % 256))⟩ := by rw [hG1]; simp []
    have o1 : ∀ i, i ≠ q → G1 i = g2 i := fun i h1 => by rw [hG1]; simp [upd_app, h1]; exact ho i (by simpa using h1)
    have hp1 : G1 p = some ⟨false, 84, [wv (some q) b.length, .int .u64 (m : Nat), .int .u64 (r : Nat)]⟩ := by rw [o1 p hqp]; exact h2.hp
    have ld1 : stepLoad Try.prog 24 (.pointer (some ⟨p, 0, some 3⟩)) G1 = some { v := .slice (some ⟨q, 0, some b.length⟩) b.length 1, r := [p] } := ld_at hp1 rfl rfl aggT24
    have hsl : ((wiped b (k + 1)).set k ((byt b k + 1) % 256)).length = b.length := by simpa using hwl
    have hsa : byt ((wiped b (k + 1)).set k ((byt b k + 1) % 256)) k = (byt b k + 1) % 256 := by rw [byt_eq (by omega)]; simp
    have l2 : stepLoad Try.prog 5 (.pointer (some ⟨q, k, some b.length⟩)) G1 = some { v := .int .u8 (((byt b k + 1) % 256 : Nat) : Int), r := [q] } := by
      have := ldb q1 hsl (i := k) (by omega)
      rw [hsa] at this; exact this
    have hsn := addN_snoc (b.take k) (byt b k) 1
    rw [← take_succ_byt (by omega)] at hsn
    by_cases h255 : byt b k = 255
    · have d2 : ((((byt b k + 1) % 256 : Nat) : Int) != 0) = false := ine_f (by omega)
      refine s_run (by simp only [runL, awant_none, astep, evl, put, ap_none, List.length_nil, Nat.add_zero, upd_app, stepBin, abin, reduceCtorEq, ↓reduceIte, Nat.reduceEqDiff, t0, t2, nchk, fld84_0, ld1, i1, l2, d2] <;> rfl) ?_
      refine w_false (by simp [evl]) (w_skip ?_)
      have w3 : IntKind.i64.wrap ((k : Int) - 1) = (k : Int) - 1 := wrap64_of (by omega) (by omega)
      refine region_run (id := 2) (by simp only [runL, awant_none, astep, evl, put, ap_none, List.length_nil, Nat.add_zero, upd_app, stepBin, abin, ↓reduceIte, Nat.reduceEqDiff, t2, w3] <;> rfl) ?_
      refine ⟨⟨k, by omega, by simp [upd_app, t0], by simp [], fun q' e => ?_, fun i h1 => o1 i (by simpa using h1), ?_⟩, ?_⟩
      · cases e
        rw [q1, h255, show (255 + 1) % 256 = 0 by rfl, wiped_zero (by omega)]
      · rw [hadd, hsn, h255, List.append_assoc, show b.length - k = (b.length - (k + 1)) + 1 by omega, List.replicate_succ]
        rfl
      · rw [t2']
        simp only [upd_app, if_true]
        omega
    · have d2 : ((((byt b k + 1) % 256 : Nat) : Int) != 0) = true := ine_t (by omega)
      refine s_run (by simp only [runL, awant_none, astep, evl, put, ap_none, List.length_nil, Nat.add_zero, upd_app, stepBin, abin, reduceCtorEq, ↓reduceIte, Nat.reduceEqDiff, t0, t2, nchk, fld84_0, ld1, i1, l2, d2] <;> rfl) ?_
      refine w_true (by simp [evl]) ?_
      refine w_ret ⟨.inr rfl, by simp, fin _ _ (fun q' e => ?_) (fun i h1 => o1 i (by simpa using h1))⟩
      cases e
      rw [q1, wiped_set (by omega), hadd, hsn, show (byt b k + 1) / 256 = 0 by omega, addN_zero (fun x hx => hb x (List.mem_of_mem_take hx)), List.append_assoc]
      rfl

def addE (p q : Nat) (N : List Nat) (a : Nat) : Eff := { v := .tuple #[], r := [p, q], w := [(q, ⟨false, 5, bs (addN N a)⟩)] }

set_option maxRecDepth 10000 in
theorem add_spec (p q : Nat) (N : List Nat) (a r : Nat) (g : Heap) (h : Rw p q N r g) (hb : ∀ x ∈ N, x < 256) (hl : N.length ≤ 2 ^ 38) (ha : a < 2 ^ 60) : FnSpec Try.prog 75 [ptr2 p, .int .u64 a] g (addE p q N a) := by
  refine spec_of_body [] follows Try.func75 rfl (by kernel_rfl) (by simp [Try.f75]) (by kernel_rfl) rfl ?_
  intro g2 s2 n hg hfr hs hn hwf hsv
  have h2 : Rw p q N r g2 := h.congr (hg p (by simp [addE, Eff.fp])) (hg q (by simp [addE, Eff.fp]))
  have hqp := h2.ne
  have fin : ∀ (t : Nat → Value) (g' : Heap), g' q = some ⟨false, 5, bs (addN N a)⟩ → (∀ i, i ≠ q → g' i = g2 i) → ∃ ids, Abs.Fin (addE p q N a) ids s2 g2 n g' (resVal [] t) := by
    intro t g' hq ho
    exact ⟨[], fin_w1 (by simp [resVal]) (by simp [SVT]) (by rw [h2.hq]; rfl) hq (fun x hx => SV1_plain (plain_bs _ x hx)) (fun i b h1 hb => by rw [ho i h1]; exact hb)⟩
  have w0 : IntKind.i64.wrap ((N.length : Int) - 1) = (N.length : Int) - 1 := wrap64_of (by omega) (by omega)
  refine s_run (by simp only [runL, Option.getD_some, List.getElem?_cons_zero, awant_none, astep, evl, put, ap_none, List.length_nil, Nat.add_zero, upd_app, stepBin, abin, stepCall, ↓reduceIte, undef, nchk, fld43_0, h2.ld0, len24, w0] <;> rfl) ?_
  refine w_block (w_loop (fun t g _ => ∃ (k u : Nat) (d : List Nat), k ≤ N.length ∧ t 0 = ptr2 p ∧ t 1 = .int .u64 (u : Nat) ∧ u ≤ 2 ^ 60 ∧ t 4 = .int .i64 ((k : Int) - 1) ∧ d.length = N.length - k ∧ g q = some ⟨false, 5, bs (N.take k ++ d)⟩ ∧ (∀ i, i ≠ q → g i = g2 i) ∧ addN N a = addN (N.take k) u ++ d)
      (fun t _ _ => match t 4 with | .int _ k => (k + 1).toNat | _ => 0) ⟨N.length, a, [], Nat.le_refl _, by simp [upd_app], by simp [upd_app], by omega, by simp [], by simp, by simpa using h2.hq, fun _ _ => rfl, by simp⟩ ?_)
  rintro t g n' ⟨k, u, d, hk, t0, t1, hu, t4, hd, hq, ho, hadd⟩
  cases k with
  | zero =>
    have d1 : decide ((((0 : Nat) : Int) - 1) ≥ 0) = false := rfl
    refine w_assoc (s_run (by simp only [runL, awant_some, List.getElem?_toArray, List.getElem?_cons_succ, List.getElem?_cons_zero, Option.bind_some, b_ft, awant_none, astep, evl, put, ap_none, List.length_nil, Nat.add_zero, upd_app, stepBin, abin, stepPick, ↓reduceIte, Nat.reduceEqDiff, Bool.false_eq_true, undef, t4, d1] <;> rfl) ?_)
    refine s_false (by simp [evl]) (s_exit ?_)
    refine ⟨.inl rfl, by simp, fin _ _ ?_ ho⟩
    rw [hq, hadd]
    simp [addN_nil]
  | succ k =>
    have d1 : decide ((((k + 1 : Nat) : Int) - 1) ≥ 0) = true := decide_eq_true (by omega)
    have hbt : ∀ x ∈ N.take (k + 1), x < 256 := fun x hx => hb x (List.mem_of_mem_take hx)
    by_cases hu0 : u = 0
    · have d2 : decide ((u : Int) > 0) = false := decide_eq_false (by omega)
      refine w_assoc (s_run (by simp only [runL, awant_some, List.getElem?_toArray, List.getElem?_cons_succ, List.getElem?_cons_zero, Option.bind_some, b_tt, awant_none, astep, evl, put, ap_none, List.length_nil, Nat.add_zero, upd_app, stepBin, abin, stepPick, ↓reduceIte, Nat.reduceEqDiff, t1, t4, d1, d2] <;> rfl) ?_)
      refine s_false (by simp [evl]) (s_exit ?_)
      refine ⟨.inl rfl, by simp, fin _ _ ?_ ho⟩
      rw [hq, hadd, hu0, addN_zero hbt]
    · have d2 : decide ((u : Int) > 0) = true := decide_eq_true (by omega)
      refine w_assoc (s_run (by simp only [runL, awant_some, List.getElem?_toArray, List.getElem?_cons_succ, List.getElem?_cons_zero, Option.bind_some, b_tt, awant_none, astep, evl, put, ap_none, List.length_nil, Nat.add_zero, upd_app, stepBin, abin, stepPick, ↓reduceIte, Nat.reduceEqDiff, t1, t4, d1, d2] <;> rfl) ?_)
      refine s_true (by simp [evl]) (s_skip (w_seq (w_block ?_)))
      have hLl : (N.take (k + 1) ++ d).length = N.length := by simp; omega
      have hat : byt (N.take (k + 1) ++ d) k = byt N k := by
        unfold byt
        rw [List.getElem?_append_left (by simp; omega), List.getElem?_take_of_lt (by omega)]
      have hbx := byt_lt hb k
      have e2 : ((k + 1 : Nat) : Int) - 1 = (k : Int) := by omega
      have hp : g p = some ⟨false, 43, [.slice (some ⟨q, 0, some N.length⟩) N.length 1, .int .u64 (r : Nat)]⟩ := by rw [ho p hqp]; exact h2.hp
      have ld0 : stepLoad Try.prog 24 (.pointer (some ⟨p, 0, some 2⟩)) g = some { v := .slice (some ⟨q, 0, some N.length⟩) N.length 1, r := [p] } := ld_at hp rfl rfl aggT24
      have i1 := idx24 q N.length k N.length (by omega)
      have l1 : stepLoad Try.prog 5 (.pointer (some ⟨q, k, some N.length⟩)) g = some { v := .int .u8 (byt N k), r := [q] } := by rw [← hat]; exact ldb hq hLl (by omega)
      have w1 : IntKind.u64.wrap ((byt N k : Nat) : Int) = (byt N k : Nat) := wrapU (by omega)
      have w2 : IntKind.u64.wrap ((u : Int) + (byt N k : Nat)) = ((u + byt N k : Nat) : Int) := by rw [wrapU64_of (by omega) (by omega)]; omega
      rw [e2] at t4
      refine w_gen (fun t => t 0 = ptr2 p ∧ t 1 = .int .u64 (u : Nat) ∧ t 4 = .int .i64 k) (by simp [upd_app, t0, t1, t4]) ?_
      have t4' := t4
      clear t0 t1 t4
      rintro t' ⟨t0, t1, t4⟩
      refine s_run (by simp only [runL, awant_none, astep, evl, put, ap_none, List.length_nil, Nat.add_zero, upd_app, stepBin, abin, reduceCtorEq, ↓reduceIte, Nat.reduceEqDiff, t0, t1, t4, nchk, fld43_0, ld0, i1, l1, conv5_41, w1, w2] <;> rfl) ?_
      refine w_gen (fun t => t 0 = ptr2 p ∧ t 1 = .int .u64 ((u + byt N k : Nat) : Int) ∧ t 4 = .int .i64 k) (by simp [upd_app, t0, t4]) ?_
      clear t0 t1 t4
      rintro t' ⟨t0, t1, t4⟩
      have w3 : IntKind.u8.wrap ((u + byt N k : Nat) : Int) = (((u + byt N k) % 256 : Nat) : Int) := wrap_u8 _
      have st1 := stb (x := (u + byt N k) % 256) hq hLl (i := k) (by omega)
      refine s_run (by simp only [runL, awant_none, astep, evl, put, ap_none, ap_wr, List.length_nil, Nat.add_zero, upd_app, ↓reduceIte, Nat.reduceEqDiff, undef, t0, t1, t4, nchk, fld43_0, ld0, i1, conv41_5, w3, st1] <;> rfl) (w_heap fun G1 hG1 => ?_)
      refine region_run (id := 5) (by simp only [runL, awant_none, astep, evl, put, ap_none, List.length_nil, Nat.add_zero, upd_app, stepBin, abin, ↓reduceIte, Nat.reduceEqDiff, Int.reduceLE, Int.reduceToNat, t1, shr64_8] <;> rfl) ?_
      have w4 : IntKind.i64.wrap ((k : Int) - 1) = (k : Int) - 1 := wrap64_of (by omega) (by omega)
      refine region_run (id := 2) (by simp only [runL, awant_none, astep, evl, put, ap_none, List.length_nil, Nat.add_zero, upd_app, stepBin, abin, ↓reduceIte, Nat.reduceEqDiff, t4, w4] <;> rfl) ?_
      refine ⟨⟨k, (u + byt N k) / 256, (u + byt N k) % 256 :: d, by omega, by simp [upd_app, t0], by simp [upd_app], by omega, by simp [], by simp [hd]; omega, ?_, fun i h1 => ?_, ?_⟩, ?_⟩
      · rw [hG1]
        simp only [upd_app, if_true]
        rw [take_succ_byt (by omega), List.append_assoc, List.set_append_right _ _ (by simp; omega)]
        simp [Nat.min_eq_left (show k ≤ N.length by omega)]
      · rw [hG1]; simp [upd_app, h1, ho i h1]
      · rw [hadd, take_succ_byt (by omega), addN_snoc, Nat.add_comm (byt N k) u, List.append_assoc]; rfl
      · rw [t4']
        simp only [upd_app, if_true]
        omega
end Go.Proofs.Ytahinegnblankaa
