import Derived.Test.YtahinegnblankaaP27
namespace Go.Proofs.Ytahinegnblankaa
open Go Abs
set_option linter.unusedSimpArgs false
set_option linter.unusedVariables false

abbrev ptr3 (p : Nat) : Value := .pointer (some ⟨p, 0, some 3⟩)
theorem aggT24 : aggT Try.prog 24 = some false := by kernel_rfl
theorem tsize24 : tsize Try.prog 24 = some 1 := by kernel_rfl
theorem aggT41 : aggT Try.prog 41 = some false := by kernel_rfl
theorem tsize41 : tsize Try.prog 41 = some 1 := by kernel_rfl
theorem foff84_0 : foff Try.prog 84 0 = some 0 := by kernel_rfl
theorem foff84_1 : foff Try.prog 84 1 = some 1 := by kernel_rfl
theorem foff84_2 : foff Try.prog 84 2 = some 2 := by kernel_rfl
theorem foff43_0 : foff Try.prog 43 0 = some 0 := by kernel_rfl
theorem foff43_1 : foff Try.prog 43 1 = some 1 := by kernel_rfl
theorem fld84_0 (p : Nat) (s : Option Nat) : stepField Try.prog 84 (.pointer (some ⟨p, 0, s⟩)) 0 = some { v := .pointer (some ⟨p, 0, s⟩) } := by simp [stepField, foff84_0]
theorem fld84_1 (p : Nat) (s : Option Nat) : stepField Try.prog 84 (.pointer (some ⟨p, 0, s⟩)) 1 = some { v := .pointer (some ⟨p, 1, s⟩) } := by simp [stepField, foff84_1]
theorem fld84_2 (p : Nat) (s : Option Nat) : stepField Try.prog 84 (.pointer (some ⟨p, 0, s⟩)) 2 = some { v := .pointer (some ⟨p, 2, s⟩) } := by simp [stepField, foff84_2]
theorem fld43_0 (p : Nat) (s : Option Nat) : stepField Try.prog 43 (.pointer (some ⟨p, 0, s⟩)) 0 = some { v := .pointer (some ⟨p, 0, s⟩) } := by simp [stepField, foff43_0]
theorem fld43_1 (p : Nat) (s : Option Nat) : stepField Try.prog 43 (.pointer (some ⟨p, 0, s⟩)) 1 = some { v := .pointer (some ⟨p, 1, s⟩) } := by simp [stepField, foff43_1]
theorem binf84 : binf Try.prog 84 = some (#[(0, 1), (1, 1), (2, 1)].toList, [.slice none 0 0, .int .u64 0, .int .u64 0]) := by kernel_rfl
theorem binf43 : binf Try.prog 43 = some (#[(0, 1), (1, 1)].toList, [.slice none 0 0, .int .u64 0]) := by kernel_rfl
theorem mk84 (x : Int) : stepBuild Try.prog 84 [(2, .int .u64 x)] = some { v := .agg #[.slice none 0 0, .int .u64 0, .int .u64 x] } := by
  simp [stepBuild, binf84, fillL, Value.cells, isTup, putAll]
theorem mk43 (a : Addr) (m e : Nat) (x : Int) : stepBuild Try.prog 43 [(0, .slice (some a) m e), (1, .int .u64 x)] = some { v := .agg #[.slice (some a) m e, .int .u64 x] } := by
  simp [stepBuild, binf43, fillL, Value.cells, isTup, putAll]

/-- The bytes but the last four; the number of the last four. -/
def hd4 (N : List Nat) : List Nat := N.take (N.length - 4)
def tl4 (N : List Nat) : Nat := be (N.drop (N.length - 4))
theorem hd4_all4 (b : List Nat) (n : Nat) : hd4 (all4 b n) = b := by
  unfold hd4
  rw [all4_len, Nat.add_sub_cancel, all4, List.take_left']
  rfl
theorem tl4_all4 {b : List Nat} {n : Nat} (hn : n < 2 ^ 32) : tl4 (all4 b n) = n := by
  unfold tl4
  rw [all4_len, Nat.add_sub_cancel, all4, List.drop_left' rfl, be_tob_lt (by rw [show (256 : Nat) ^ 4 = 2 ^ 32 by decide]; exact hn)]
theorem all4_hd {N : List Nat} (hl : 4 ≤ N.length) (hb : ∀ x ∈ N, x < 256) : all4 (hd4 N) (tl4 N) = N := by
  unfold all4 hd4 tl4
  have h1 : (N.drop (N.length - 4)).length = 4 := by simp; omega
  have h2 := tob_be (l := N.drop (N.length - 4)) (fun x hx => hb x (List.mem_of_mem_drop hx))
  rw [h1] at h2
  rw [h2, List.take_append_drop]
theorem tl4_lt {N : List Nat} (hl : 4 ≤ N.length) (hb : ∀ x ∈ N, x < 256) : tl4 N < 2 ^ 32 := by
  unfold tl4
  have h1 : (N.drop (N.length - 4)).length = 4 := by simp; omega
  have := be_lt (l := N.drop (N.length - 4)) (fun x hx => hb x (List.mem_of_mem_drop hx))
  rw [h1] at this
  omega
theorem hd4_len (N : List Nat) : (hd4 N).length = N.length - 4 := by simp [hd4]
theorem hd4_lt {N : List Nat} (hb : ∀ x ∈ N, x < 256) : ∀ x ∈ hd4 N, x < 256 := fun x hx => hb x (List.mem_of_mem_take hx)

/-- The row of bytes of a writer: nil, or the whole of a block. -/
def wv : Option Nat → Nat → Value
  | none, _ => .slice none 0 0
  | some q, m => .slice (some ⟨q, 0, some m⟩) m 1

/-- A writer of the program: its bytes, its 32 bits more, its range. -/
structure Wr (p : Nat) (sl : Option Nat) (b : List Nat) (n r : Nat) (g : Heap) : Prop where
  hp : g p = some ⟨false, 84, [wv sl b.length, .int .u64 (n : Nat), .int .u64 (r : Nat)]⟩
  hq : ∀ q, sl = some q → g q = some ⟨false, 5, bs b⟩
  h0 : sl = none → b = []

/-- A writer of the document. -/
structure Rw (p q : Nat) (N : List Nat) (r : Nat) (g : Heap) : Prop where
  hp : g p = some ⟨false, 43, [.slice (some ⟨q, 0, some N.length⟩) N.length 1, .int .u64 (r : Nat)]⟩
  hq : g q = some ⟨false, 5, bs N⟩

section
variable {p q : Nat} {sl : Option Nat} {b N : List Nat} {n r : Nat} {g g' : Heap}
theorem Wr.ne (h : Wr p sl b n r g) : sl ≠ some p := by
  intro e
  have := h.hp
  rw [h.hq p e] at this
  simp at this
theorem Rw.ne (h : Rw p q N r g) : p ≠ q := by
  intro e
  have := h.hp
  rw [e, h.hq] at this
  simp at this
theorem Wr.congr (h : Wr p sl b n r g) (hp : g' p = g p) (hq : ∀ q, sl = some q → g' q = g q) : Wr p sl b n r g' := ⟨by rw [hp]; exact h.hp, fun q e => by rw [hq q e]; exact h.hq q e, h.h0⟩
theorem Rw.congr (h : Rw p q N r g) (hp : g' p = g p) (hq : g' q = g q) : Rw p q N r g' := ⟨by rw [hp]; exact h.hp, by rw [hq]; exact h.hq⟩
theorem Wr.own (h : Wr p sl b n r g) : OwnI 5 1 g (wv sl b.length) b.length (bs b) sl := by
  cases sl with
  | none => have := h.h0 rfl; subst this; exact .inl ⟨rfl, rfl, rfl, rfl⟩
  | some q => exact .inr ⟨q, rfl, by simp [wv], h.hq q rfl, by simp⟩
theorem Wr.src (h : Wr p sl b n r g) : Src g (wv sl b.length) 1 b.length (bs b) := h.own.toSrc
theorem Wr.ld0 (h : Wr p sl b n r g) : stepLoad Try.prog 24 (.pointer (some ⟨p, 0, some 3⟩)) g = some { v := wv sl b.length, r := [p] } := ld_at h.hp rfl rfl aggT24
theorem Wr.ld1 (h : Wr p sl b n r g) : stepLoad Try.prog 41 (.pointer (some ⟨p, 1, some 3⟩)) g = some { v := .int .u64 (n : Nat), r := [p] } := ld_at h.hp rfl rfl aggT41
theorem Wr.ld2 (h : Wr p sl b n r g) : stepLoad Try.prog 41 (.pointer (some ⟨p, 2, some 3⟩)) g = some { v := .int .u64 (r : Nat), r := [p] } := ld_at h.hp rfl rfl aggT41
theorem Wr.st1 (h : Wr p sl b n r g) (x : Nat) : stepStore Try.prog 41 (.pointer (some ⟨p, 1, some 3⟩)) (.int .u64 (x : Int)) g = some { v := undef, r := [p], w := [(p, ⟨false, 84, [wv sl b.length, .int .u64 (x : Nat), .int .u64 (r : Nat)]⟩)] } := st_at (s := some 3) (d := undef) h.hp rfl (by simp) tsize41 rfl rfl
theorem Wr.st2 (h : Wr p sl b n r g) (x : Nat) : stepStore Try.prog 41 (.pointer (some ⟨p, 2, some 3⟩)) (.int .u64 (x : Int)) g = some { v := undef, r := [p], w := [(p, ⟨false, 84, [wv sl b.length, .int .u64 (n : Nat), .int .u64 (x : Nat)]⟩)] } := st_at (s := some 3) (d := undef) h.hp rfl (by simp) tsize41 rfl rfl
theorem Wr.upd (h : Wr p sl b n r g) (n' r' : Nat) (hp : g' p = some ⟨false, 84, [wv sl b.length, .int .u64 (n' : Nat), .int .u64 (r' : Nat)]⟩) (ho : ∀ i, i ≠ p → g' i = g i) : Wr p sl b n' r' g' :=
  ⟨hp, fun q e => by rw [ho q (fun e' => h.ne (by rw [e, e']))]; exact h.hq q e, h.h0⟩
theorem Rw.ld0 (h : Rw p q N r g) : stepLoad Try.prog 24 (.pointer (some ⟨p, 0, some 2⟩)) g = some { v := .slice (some ⟨q, 0, some N.length⟩) N.length 1, r := [p] } := ld_at h.hp rfl rfl aggT24
theorem Rw.ld1 (h : Rw p q N r g) : stepLoad Try.prog 41 (.pointer (some ⟨p, 1, some 2⟩)) g = some { v := .int .u64 (r : Nat), r := [p] } := ld_at h.hp rfl rfl aggT41
theorem Rw.st1 (h : Rw p q N r g) (x : Nat) : stepStore Try.prog 41 (.pointer (some ⟨p, 1, some 2⟩)) (.int .u64 (x : Int)) g = some { v := undef, r := [p], w := [(p, ⟨false, 43, [.slice (some ⟨q, 0, some N.length⟩) N.length 1, .int .u64 (x : Nat)]⟩)] } := st_at (s := some 2) (d := undef) h.hp rfl (by simp) tsize41 rfl rfl
end
theorem wv_cells (sl : Option Nat) (m : Nat) : (wv sl m).cells = #[wv sl m] ∧ isTup (wv sl m) = false := by cases sl <;> exact ⟨rfl, rfl⟩
theorem wv_len (sl : Option Nat) (m : Nat) (h : sl = none → m = 0) : stepLen Try.prog 24 (wv sl m) = some { v := .int .i64 m } := by
  cases sl with
  | none => rw [h rfl]; simp [wv, stepLen, Try.underlying24]
  | some q => simp [wv, stepLen, Try.underlying24]
theorem len24 (q m : Nat) (s : Option Nat) : stepLen Try.prog 24 (.slice (some ⟨q, 0, s⟩) m 1) = some { v := .int .i64 m } := by simp [stepLen, Try.underlying24]
theorem idx24 (q m i s : Nat) (h : i < m) : stepIndex Try.prog 24 (.slice (some ⟨q, 0, some s⟩) m 1) (.int .i64 (i : Int)) = some { v := .pointer (some ⟨q, i, some s⟩) } := by simp [stepIndex, Try.underlying24, tsize5, h]
theorem ldb {q i m : Nat} {c : List Nat} {g : Heap} (h : g q = some ⟨false, 5, bs c⟩) (hm : c.length = m) (hi : i < c.length) : stepLoad Try.prog 5 (.pointer (some ⟨q, i, some m⟩)) g = some { v := .int .u8 (byt c i), r := [q] } := ld_at h (by simp [hm]) (bs_at hi) aggT5
theorem stb {q i x m : Nat} {c : List Nat} {g : Heap} (h : g q = some ⟨false, 5, bs c⟩) (hm : c.length = m) (hi : i < c.length) : stepStore Try.prog 5 (.pointer (some ⟨q, i, some m⟩)) (.int .u8 (x : Int)) g = some { v := undef, r := [q], w := [(q, ⟨false, 5, bs (c.set i x)⟩)] } := by
  rw [st_at (d := undef) h (by simp [hm]) (by simpa using hi) tsize5 rfl rfl, bs_set]

/-- 'for i := range M', M known. -/
theorem s_rngc {P : Program} {Q : AQ} {id id1 ra rb : Nat} {i c d : Tmp} {ty1 ty2 ty3 T1 T2 T3 T4 : TypeId} {p1 p2 p3 : String} {a1 a2 a3 : Array Edge} {body rest : Code} {t : Nat → Value} {g : Heap} {n : Nat} {MI : Int}
    (M : Nat) (hMI : MI = (M : Int)) (J : Nat → (Nat → Value) → Heap → Nat → Prop) (hM : M ≤ 4611686018427387904) (h0 : t i = .int .i64 0) (hJ0 : ∀ v, J 0 (upd t c v) g n)
    (hd : c ≠ i ∧ d ≠ i)
    (hbody : ∀ k t g n, k < M → t i = .int .i64 k → J k t g n → awp P body (rangePost id id1 (fun t' g' n' => t' i = .int .i64 k ∧ ∀ v1 v2 v3, J (k + 1) (upd (upd (upd t' d v1) i v2) c v3) g' n') (athen (awp P rest Q) Q)) t g n)
    (hend : ∀ t g n, J M t g n → awp P rest Q t g n) :
    awp P (.seq (.block id (.loop (.seq (.region ra #[⟨some c, .binOp .lss T1 (.tmp i) (.const (.int .i64 MI)) T2, ty1, p1, a1, none⟩] false)
      (.seq (.cond (.tmp c) .skip (.exit id)) (.seq (.block id1 body) (.region rb #[⟨some d, .binOp .add T3 (.tmp i) (.const (.int .i64 1)) T4, ty2, p2, a2, none⟩, ⟨some i, .move (.tmp d), ty3, p3, a3, none⟩] false)))))) rest) Q t g n := by
  subst hMI
  obtain ⟨d2, d4⟩ := hd
  refine w_seq (w_block (w_loop (fun t g n => ∃ k, k ≤ M ∧ t i = .int .i64 k ∧ ∀ v, J k (upd t c v) g n) (fun t _ _ => match t i with | .int _ k => M - k.toNat | _ => 0) ⟨0, by omega, h0, hJ0⟩ ?_))
  rintro t g n ⟨k, hk, hi, hJk⟩
  refine s_run (t' := upd t c (.bool (decide ((k : Int) < M)))) (g' := g) (n' := n) (by simp only [runL, awant_none, astep, evl, put, ap_none, List.length_nil, Nat.add_zero, stepBin, abin, hi, if_true]) ?_
  have hJc := hJk (.bool (decide ((k : Int) < M)))
  have hi' : upd t c (.bool (decide ((k : Int) < M))) i = .int .i64 k := by rw [upd_ne _ _ (Ne.symm d2)]; exact hi
  by_cases hlt : k < M
  · refine s_true (by simp only [evl, upd_self]; simp; exact hlt) (s_skip (w_seq (w_block ?_)))
    refine awp_mono ?_ (hbody k _ g n hlt hi' hJc)
    have inc : ∀ t' g' n', (t' i = .int .i64 k ∧ ∀ v1 v2 v3, J (k + 1) (upd (upd (upd t' d v1) i v2) c v3) g' n') → awp P (.region rb #[⟨some d, .binOp .add T3 (.tmp i) (.const (.int .i64 1)) T4, ty2, p2, a2, none⟩, ⟨some i, .move (.tmp d), ty3, p3, a3, none⟩] false)
        (athen (fun t'' g'' n'' => (∃ k, k ≤ M ∧ t'' i = .int .i64 k ∧ ∀ v, J k (upd t'' c v) g'' n'') ∧ (match t'' i with | .int _ k => M - k.toNat | _ => 0) < (match t i with | .int _ k => M - k.toNat | _ => 0)) (ainBlock id (athen (awp P rest Q) Q))) t' g' n' := by
      rintro t' g' n' ⟨q1, q3⟩
      have hw : IntKind.i64.wrap ((k : Int) + 1) = ((k + 1 : Nat) : Int) := wrap_succ (by omega)
      refine region_run (t' := upd (upd t' d (.int .i64 ((k + 1 : Nat) : Int))) i (.int .i64 ((k + 1 : Nat) : Int))) (g' := g') (n' := n') (by simp only [runL, awant_none, astep, evl, put, ap_none, List.length_nil, Nat.add_zero, stepBin, abin, q1, if_true, hw, upd_self]) ?_
      clear hw
      refine ⟨⟨k + 1, by omega, by simp, fun v => q3 _ _ _⟩, ?_⟩
      rw [hi, upd_self]
      show M - ((k + 1 : Nat) : Int).toNat < M - (k : Int).toNat
      rw [Int.toNat_natCast, Int.toNat_natCast]
      exact Nat.sub_lt_sub_left hlt (Nat.lt_succ_self k)
    intro e t' g' n' he
    cases e with
    | normal => exact inc t' g' n' he
    | exit e =>
      simp only [rangePost] at he
      simp only [ainBlock]
      split at he
      · rename_i e1; rw [if_pos e1]; exact inc t' g' n' he
      · rename_i e1
        rw [if_neg e1]
        simp only [athen, ainBlock] at he ⊢
        exact he
    | _ => exact he
  · refine s_false (by simp only [evl, upd_self]; simp; omega) (s_exit ?_)
    have : k = M := by omega
    subst this
    simp only [athen, ainBlock, if_true]
    exact hend _ _ _ hJc

set_option maxRecDepth 10000 in
theorem isSpan_spec (x y z : Int) (hx : -2 ^ 63 ≤ x ∧ x ≤ 2 ^ 63 - 1) (hz : -2 ^ 63 ≤ z ∧ z ≤ 2 ^ 63 - 1) (g : Heap) : FnSpec Try.prog 72 [.int .i64 x, .int .i64 y, .int .i64 z] g { v := .bool (spn x y z) } := by
  refine spec_of_body [6] follows Try.func72 rfl (by kernel_rfl) (by simp [Try.f72]) (by kernel_rfl) rfl ?_
  intro g2 s2 n hg hfr hs hn hwf hsv
  refine s_run (by simp only [runL, awant_none, astep, evl, put, ap_none, List.length_nil, Nat.add_zero, undef] <;> rfl) ?_
  by_cases h1 : z ≤ 65536
  · have d1 : decide (z ≤ 65536) = true := decide_eq_true h1
    by_cases h2 : x ≥ 0
    · have d2 : decide (x ≥ 0) = true := decide_eq_true h2
      by_cases h3 : y ≥ 1
      · have d3 : decide (y ≥ 1) = true := decide_eq_true h3
        by_cases h4 : x ≤ z
        · have d4 : decide (x ≤ z) = true := decide_eq_true h4
          have w1 : IntKind.i64.wrap (z - x) = z - x := wrap64_of (by omega) (by omega)
          by_cases h5 : y ≤ z - x
          · have d5 : decide (y ≤ z - x) = true := decide_eq_true h5
            refine s_run (by simp only [runL, awant_some, Option.getD_some, List.getElem?_toArray, List.getElem?_cons_succ, List.getElem?_cons_zero, Option.bind_some, b_tt, awant_none, astep, evl, put, ap_none, List.length_nil, Nat.add_zero, upd_app, stepBin, abin, stepPick, reduceCtorEq, ↓reduceIte, Nat.reduceEqDiff, d1, d2, d3, d4, w1, d5] <;> rfl) ?_
            exact w_ret ⟨.inr rfl, by simp, [], fin_none (by simp only [resVal, upd_app, if_true]; rw [spn, decide_eq_true ⟨h1, h2, h3, h4, h5⟩]) trivial (fun _ _ h => h)⟩
          · have d5 : decide (y ≤ z - x) = false := decide_eq_false h5
            refine s_run (by simp only [runL, awant_some, Option.getD_some, List.getElem?_toArray, List.getElem?_cons_succ, List.getElem?_cons_zero, Option.bind_some, b_tt, awant_none, astep, evl, put, ap_none, List.length_nil, Nat.add_zero, upd_app, stepBin, abin, stepPick, reduceCtorEq, ↓reduceIte, Nat.reduceEqDiff, d1, d2, d3, d4, w1, d5] <;> rfl) ?_
            exact w_ret ⟨.inr rfl, by simp, [], fin_none (by simp only [resVal, upd_app, if_true]; rw [spn, decide_eq_false (fun h => h5 h.2.2.2.2)]) trivial (fun _ _ h => h)⟩
        · have d4 : decide (x ≤ z) = false := decide_eq_false h4
          refine s_run (by simp only [runL, awant_some, Option.getD_some, List.getElem?_toArray, List.getElem?_cons_succ, List.getElem?_cons_zero, Option.bind_some, b_tt, b_ft, awant_none, astep, evl, put, ap_none, List.length_nil, Nat.add_zero, upd_app, stepBin, abin, stepPick, reduceCtorEq, ↓reduceIte, Nat.reduceEqDiff, Bool.false_eq_true, undef, d1, d2, d3, d4] <;> rfl) ?_
          exact w_ret ⟨.inr rfl, by simp, [], fin_none (by simp only [resVal, upd_app, if_true]; rw [spn, decide_eq_false (fun h => h4 h.2.2.2.1)]) trivial (fun _ _ h => h)⟩
      · have d3 : decide (y ≥ 1) = false := decide_eq_false h3
        refine s_run (by simp only [runL, awant_some, Option.getD_some, List.getElem?_toArray, List.getElem?_cons_succ, List.getElem?_cons_zero, Option.bind_some, b_tt, b_ft, awant_none, astep, evl, put, ap_none, List.length_nil, Nat.add_zero, upd_app, stepBin, abin, stepPick, reduceCtorEq, ↓reduceIte, Nat.reduceEqDiff, Bool.false_eq_true, undef, d1, d2, d3] <;> rfl) ?_
        exact w_ret ⟨.inr rfl, by simp, [], fin_none (by simp only [resVal, upd_app, if_true]; rw [spn, decide_eq_false (fun h => h3 h.2.2.1)]) trivial (fun _ _ h => h)⟩
    · have d2 : decide (x ≥ 0) = false := decide_eq_false h2
      refine s_run (by simp only [runL, awant_some, Option.getD_some, List.getElem?_toArray, List.getElem?_cons_succ, List.getElem?_cons_zero, Option.bind_some, b_tt, b_ft, awant_none, astep, evl, put, ap_none, List.length_nil, Nat.add_zero, upd_app, stepBin, abin, stepPick, reduceCtorEq, ↓reduceIte, Nat.reduceEqDiff, Bool.false_eq_true, undef, d1, d2] <;> rfl) ?_
      exact w_ret ⟨.inr rfl, by simp, [], fin_none (by simp only [resVal, upd_app, if_true]; rw [spn, decide_eq_false (fun h => h2 h.2.1)]) trivial (fun _ _ h => h)⟩
  · have d1 : decide (z ≤ 65536) = false := decide_eq_false h1
    refine s_run (by simp only [runL, awant_some, Option.getD_some, List.getElem?_toArray, List.getElem?_cons_succ, List.getElem?_cons_zero, Option.bind_some, b_ft, awant_none, astep, evl, put, ap_none, List.length_nil, Nat.add_zero, upd_app, stepBin, abin, stepPick, ↓reduceIte, Nat.reduceEqDiff, Bool.false_eq_true, undef, d1] <;> rfl) ?_
    exact w_ret ⟨.inr rfl, by simp, [], fin_none (by simp only [resVal, upd_app, if_true]; rw [spn, decide_eq_false (fun h => h1 h.1)]) trivial (fun _ _ h => h)⟩

set_option maxRecDepth 10000 in
theorem may_spec (x y z : Int) (hx : -2 ^ 63 ≤ x ∧ x ≤ 2 ^ 63 - 1) (hz : -2 ^ 63 ≤ z ∧ z ≤ 2 ^ 63 - 1) (g : Heap) : FnSpec Try.prog 74 [.int .i64 x, .int .i64 y, .int .i64 z] g { v := .bool (spn x y z) } := by
  refine spec_of_body [6] follows Try.func74 rfl (by kernel_rfl) (by simp [Try.f74]) (by kernel_rfl) rfl ?_
  intro g2 s2 n hg hfr hs hn hwf hsv
  refine s_run (by simp only [runL, awant_none, astep, evl, put, ap_none, List.length_nil, Nat.add_zero, undef] <;> rfl) ?_
  by_cases h1 : z ≤ 65536
  · have d1 : decide (z ≤ 65536) = true := decide_eq_true h1
    by_cases h2 : x ≥ 0
    · have d2 : decide (x ≥ 0) = true := decide_eq_true h2
      by_cases h3 : y ≥ 1
      · have d3 : decide (y ≥ 1) = true := decide_eq_true h3
        by_cases h4 : x ≤ z
        · have d4 : decide (x ≤ z) = true := decide_eq_true h4
          have w1 : IntKind.i64.wrap (z - x) = z - x := wrap64_of (by omega) (by omega)
          by_cases h5 : y ≤ z - x
          · have d5 : decide (y ≤ z - x) = true := decide_eq_true h5
            refine s_run (by simp only [runL, awant_some, Option.getD_some, List.getElem?_toArray, List.getElem?_cons_succ, List.getElem?_cons_zero, Option.bind_some, b_tt, awant_none, astep, evl, put, ap_none, List.length_nil, Nat.add_zero, upd_app, stepBin, abin, stepPick, reduceCtorEq, ↓reduceIte, Nat.reduceEqDiff, d1, d2, d3, d4, w1, d5] <;> rfl) ?_
            exact w_ret ⟨.inr rfl, by simp, [], fin_none (by simp only [resVal, upd_app, if_true]; rw [spn, decide_eq_true ⟨h1, h2, h3, h4, h5⟩]) trivial (fun _ _ h => h)⟩
          · have d5 : decide (y ≤ z - x) = false := decide_eq_false h5
            refine s_run (by simp only [runL, awant_some, Option.getD_some, List.getElem?_toArray, List.getElem?_cons_succ, List.getElem?_cons_zero, Option.bind_some, b_tt, awant_none, astep, evl, put, ap_none, List.length_nil, Nat.add_zero, upd_app, stepBin, abin, stepPick, reduceCtorEq, ↓reduceIte, Nat.reduceEqDiff, d1, d2, d3, d4, w1, d5] <;> rfl) ?_
            exact w_ret ⟨.inr rfl, by simp, [], fin_none (by simp only [resVal, upd_app, if_true]; rw [spn, decide_eq_false (fun h => h5 h.2.2.2.2)]) trivial (fun _ _ h => h)⟩
        · have d4 : decide (x ≤ z) = false := decide_eq_false h4
          refine s_run (by simp only [runL, awant_some, Option.getD_some, List.getElem?_toArray, List.getElem?_cons_succ, List.getElem?_cons_zero, Option.bind_some, b_tt, b_ft, awant_none, astep, evl, put, ap_none, List.length_nil, Nat.add_zero, upd_app, stepBin, abin, stepPick, reduceCtorEq, ↓reduceIte, Nat.reduceEqDiff, Bool.false_eq_true, undef, d1, d2, d3, d4] <;> rfl) ?_
          exact w_ret ⟨.inr rfl, by simp, [], fin_none (by simp only [resVal, upd_app, if_true]; rw [spn, decide_eq_false (fun h => h4 h.2.2.2.1)]) trivial (fun _ _ h => h)⟩
      · have d3 : decide (y ≥ 1) = false := decide_eq_false h3
        refine s_run (by simp only [runL, awant_some, Option.getD_some, List.getElem?_toArray, List.getElem?_cons_succ, List.getElem?_cons_zero, Option.bind_some, b_tt, b_ft, awant_none, astep, evl, put, ap_none, List.length_nil, Nat.add_zero, upd_app, stepBin, abin, stepPick, reduceCtorEq, ↓reduceIte, Nat.reduceEqDiff, Bool.false_eq_true, undef, d1, d2, d3] <;> rfl) ?_
        exact w_ret ⟨.inr rfl, by simp, [], fin_none (by simp only [resVal, upd_app, if_true]; rw [spn, decide_eq_false (fun h => h3 h.2.2.1)]) trivial (fun _ _ h => h)⟩
    · have d2 : decide (x ≥ 0) = false := decide_eq_false h2
      refine s_run (by simp only [runL, awant_some, Option.getD_some, List.getElem?_toArray, List.getElem?_cons_succ, List.getElem?_cons_zero, Option.bind_some, b_tt, b_ft, awant_none, astep, evl, put, ap_none, List.length_nil, Nat.add_zero, upd_app, stepBin, abin, stepPick, reduceCtorEq, ↓reduceIte, Nat.reduceEqDiff, Bool.false_eq_true, undef, d1, d2] <;> rfl) ?_
      exact w_ret ⟨.inr rfl, by simp, [], fin_none (by simp only [resVal, upd_app, if_true]; rw [spn, decide_eq_false (fun h => h2 h.2.1)]) trivial (fun _ _ h => h)⟩
  · have d1 : decide (z ≤ 65536) = false := decide_eq_false h1
    refine s_run (by simp only [runL, awant_some, Option.getD_some, List.getElem?_toArray, List.getElem?_cons_succ, List.getElem?_cons_zero, Option.bind_some, b_ft, awant_none, astep, evl, put, ap_none, List.length_nil, Nat.add_zero, upd_app, stepBin, abin, stepPick, ↓reduceIte, Nat.reduceEqDiff, Bool.false_eq_true, undef, d1] <;> rfl) ?_
    exact w_ret ⟨.inr rfl, by simp, [], fin_none (by simp only [resVal, upd_app, if_true]; rw [spn, decide_eq_false (fun h => h1 h.1)]) trivial (fun _ _ h => h)⟩

def newWE (j : Nat) : Eff := { v := ptr3 j, j := j, a := [⟨false, 84, [wv none 0, .int .u64 (0 : Nat), .int .u64 (4294967295 : Nat)]⟩] }
theorem newWE_ap (j : Nat) (g : Heap) : Wr j none [] 0 4294967295 ((newWE j).ap g) := ⟨by simp [newWE, Eff.ap, setAll, addAll], by simp, fun _ => rfl⟩
theorem newWE_v (j : Nat) : (newWE j).v = ptr3 j := rfl

set_option maxRecDepth 10000 in
theorem newW_spec (g : Heap) (j : Nat) : FnSpec Try.prog 31 [] g (newWE j) := by
  refine spec_of_body [0] follows Try.func31 rfl (by kernel_rfl) (by simp [Try.f31]) (by kernel_rfl) rfl ?_
  intro g2 s2 n hg hfr hs hn hwf hsv
  refine s_run (by simp only [runL, awant_none, astep, evl, put, ap_none, List.length_nil, Nat.add_zero, undef] <;> rfl) ?_
  refine s_run (by simp only [runL, awant_none, astep, evl, put, ap_none, ap_new, List.length_nil, List.length_cons, Nat.add_zero, Nat.zero_add, upd_app, ↓reduceIte, List.map_cons, List.map_nil, undef, mk84, stepBox, isTup, Value.cells] <;> rfl) (w_heap fun G1 hG1 => ?_)
  have b1 : G1 n = some ⟨false, 84, [wv none 0, .int .u64 (0 : Nat), .int .u64 (4294967295 : Nat)]⟩ := by rw [hG1]; simp [wv]
  have k1 : Kp n g2 G1 := by rw [hG1]; exact kp_upd (Kp.refl _ _) (Nat.le_refl _)
  refine w_ret ⟨.inr rfl, by simp, [n], ?_⟩
  refine fin_one ?_ (.inr rfl) (Nat.le_refl _) b1 (by intro c hc; simp only [List.mem_cons, List.not_mem_nil, or_false] at hc; rcases hc with rfl | rfl | rfl <;> rfl) (fun i b hb => k1.at (hs i (hwf i b hb).1) hb)
  simp [resVal, renT, renA, ren1]

def rnewWE (j : Nat) : Eff := { v := ptr2 (j + 1), j := j, a := [⟨false, 5, bs [0, 0, 0, 0]⟩, ⟨false, 43, [.slice (some ⟨j, 0, some 4⟩) 4 1, .int .u64 (4294967295 : Nat)]⟩] }
theorem rnewWE_ap (j : Nat) (g : Heap) : Rw (j + 1) j [0, 0, 0, 0] 4294967295 ((rnewWE j).ap g) := ⟨by simp [rnewWE, Eff.ap, setAll, addAll], by simp [rnewWE, Eff.ap, setAll, addAll, upd_app]⟩
theorem rnewWE_v (j : Nat) : (rnewWE j).v = ptr2 (j + 1) := rfl

set_option maxRecDepth 10000 in
theorem rnewW_spec (g : Heap) (j : Nat) : FnSpec Try.prog 32 [] g (rnewWE j) := by
  refine spec_of_body [0] follows Try.func32 rfl (by kernel_rfl) (by simp [Try.f32]) (by kernel_rfl) rfl ?_
  intro g2 s2 n hg hfr hs hn hwf hsv
  refine s_run (by simp only [runL, awant_none, astep, evl, put, ap_none, List.length_nil, Nat.add_zero, undef] <;> rfl) ?_
  have hmk : stepMake Try.prog 24 (.int .i64 4) (.int .i64 4) n = some { v := .slice (some ⟨n, 0, some 4⟩) 4 1, j := n, a := [⟨false, 5, bs [0, 0, 0, 0]⟩] } := mkBytes 4 n (by omega)
  refine s_run (by simp only [runL, awant_none, astep, evl, put, ap_none, ap_new, List.length_nil, List.length_cons, Nat.add_zero, Nat.zero_add, upd_app, ↓reduceIte, List.map_cons, List.map_nil, undef, hmk, mk43, stepBox, isTup, Value.cells] <;> rfl) (w_heap fun G1 hG1 => ?_)
  have b1 : G1 n = some ⟨false, 5, bs [0, 0, 0, 0]⟩ := by rw [hG1]; simp [upd_app]
  have p1 : G1 (n + 1) = some ⟨false, 43, [.slice (some ⟨n, 0, some 4⟩) 4 1, .int .u64 (4294967295 : Nat)]⟩ := by rw [hG1]; simp []
  have k1 : Kp n g2 G1 := by rw [hG1]; exact kp_upd (kp_upd (Kp.refl _ _) (Nat.le_refl _)) (by omega)
  refine w_ret ⟨.inr rfl, by simp, [n, n + 1], ?_⟩
  refine fin_new2 ?_ ?_ (Nat.le_refl _) (by omega) (by omega) ?_ ?_ (fun x hx => SV1_plain (plain_bs _ x hx)) (fun x hx => ?_) (fun i b hb => k1.at (hs i (hwf i b hb).1) hb)
  · simp [resVal, renT, renA, ren1]
  · exact .inr ⟨by simp, by simp⟩
  · rw [renB_plain (plain_bs _)]; simpa only [if_true] using b1
  · rw [p1]; simp [renB, ren1]
  · simp only [List.mem_cons, List.not_mem_nil, or_false] at hx
    rcases hx with rfl | rfl
    · exact .inr (.inr ⟨Nat.le_refl _, by simp⟩)
    · trivial
end Go.Proofs.Ytahinegnblankaa
