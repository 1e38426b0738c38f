import Derived.Test.YtokmmcfnpobldaaU2
import Derived.Test.YtokmmcfnpobldaaAbsC
namespace Go.Proofs.Ytokmmcfnpobldaa
open Go Abs
set_option linter.unusedSimpArgs false
set_option linter.unusedVariables false

/-- Byte i. -/
def byt (s : List Nat) (i : Nat) : Nat := s[i]?.getD 0

/-- k is a border of the first n bytes. -/
def brd (s : List Nat) (n k : Nat) : Prop := k < n ∧ ∀ i, i < k → byt s i = byt s (n - k + i)

instance (s : List Nat) (n k : Nat) : Decidable (brd s n k) := by unfold brd; infer_instance

theorem brd_zero {s : List Nat} {n : Nat} (h : 0 < n) : brd s n 0 := ⟨h, fun i hi => by omega⟩

/-- The greatest border that is at most k. -/
def down (s : List Nat) (n : Nat) : Nat → Nat
  | 0 => 0
  | k + 1 => if brd s n (k + 1) then k + 1 else down s n k

theorem down_brd {s : List Nat} {n : Nat} (h : 0 < n) (k : Nat) : brd s n (down s n k) := by
  induction k with
  | zero => exact brd_zero h
  | succ k ih =>
    rw [down]
    split
    · assumption
    · exact ih

theorem down_max {s : List Nat} {n : Nat} (k : Nat) : ∀ j, j ≤ k → brd s n j → j ≤ down s n k := by
  induction k with
  | zero => intro j hj _; omega
  | succ k ih =>
    intro j hj hb
    rw [down]
    split
    · exact hj
    · rename_i hn
      by_cases e : j = k + 1
      · subst e; exact absurd hb hn
      · exact ih j (by omega) hb

/-- The last border of the first n bytes. -/
def mx (s : List Nat) (n : Nat) : Nat := down s n (n - 1)

theorem mx_brd {s : List Nat} {n : Nat} (h : 0 < n) : brd s n (mx s n) := down_brd h _
theorem mx_lt {s : List Nat} {n : Nat} (h : 0 < n) : mx s n < n := (mx_brd h).1
theorem mx_max {s : List Nat} {n k : Nat} (h : brd s n k) : k ≤ mx s n := down_max _ _ (by have := h.1; omega) h
theorem mx_eq {s : List Nat} {n k : Nat} (h : brd s n k) (hm : ∀ j, brd s n j → j ≤ k) : mx s n = k := Nat.le_antisymm (hm _ (mx_brd (by have := h.1; omega))) (mx_max h)

theorem brd_succ {s : List Nat} {i k : Nat} : brd s (i + 1) (k + 1) ↔ brd s i k ∧ byt s k = byt s i := by
  constructor
  · rintro ⟨h1, h2⟩
    refine ⟨⟨by omega, fun j hj => ?_⟩, ?_⟩
    · have := h2 j (by omega)
      rwa [show i + 1 - (k + 1) + j = i - k + j by omega] at this
    · have := h2 k (by omega)
      rwa [show i + 1 - (k + 1) + k = i by omega] at this
  · rintro ⟨⟨h1, h2⟩, h3⟩
    refine ⟨by omega, fun j hj => ?_⟩
    rw [show i + 1 - (k + 1) + j = i - k + j by omega]
    by_cases e : j = k
    · subst e; rw [show i - j + j = i by omega]; exact h3
    · exact h2 j (by omega)

theorem brd_down {s : List Nat} {i n k : Nat} (h1 : brd s i n) (h2 : brd s i k) (h : k < n) : brd s n k := by
  refine ⟨h, fun j hj => ?_⟩
  rw [h2.2 j hj, h1.2 (n - k + j) (by omega)]
  have := h1.1
  congr 1; omega

theorem brd_trans {s : List Nat} {i n k : Nat} (h1 : brd s i n) (h2 : brd s n k) : brd s i k := by
  have a := h1.1
  have b := h2.1
  refine ⟨by omega, fun j hj => ?_⟩
  rw [h2.2 j hj, h1.2 (n - k + j) (by omega)]
  congr 1; omega

/-- What the search for the next border keeps: n is a border of the first i bytes, and no greater one goes on. -/
def seek (s : List Nat) (i n : Nat) : Prop := brd s i n ∧ ∀ k, brd s (i + 1) (k + 1) → k ≤ n

theorem seek_start {s : List Nat} {i : Nat} (h : 0 < i) : seek s i (mx s i) := ⟨mx_brd h, fun k hk => mx_max (brd_succ.1 hk).1⟩

theorem seek_step {s : List Nat} {i n : Nat} (h : seek s i n) (hn : 0 < n) (hne : byt s i ≠ byt s n) : seek s i (mx s n) := by
  refine ⟨brd_trans h.1 (mx_brd hn), fun k hk => ?_⟩
  have h1 := h.2 k hk
  obtain ⟨h2, h3⟩ := brd_succ.1 hk
  have h4 : k ≠ n := fun e => hne (by rw [← e, h3])
  exact mx_max (brd_down h.1 h2 (by omega))

theorem seek_end {s : List Nat} {i n : Nat} (h : seek s i n) (he : n = 0 ∨ byt s i = byt s n) : mx s (i + 1) = if byt s i = byt s n then n + 1 else 0 := by
  split
  · rename_i e
    refine mx_eq (brd_succ.2 ⟨h.1, e.symm⟩) fun j hj => ?_
    cases j with
    | zero => omega
    | succ j => have := h.2 j hj; omega
  · rename_i e
    have hn : n = 0 := by rcases he with h | h; exact h; exact absurd h e
    subst hn
    refine mx_eq (brd_zero (by omega)) fun j hj => ?_
    cases j with
    | zero => omega
    | succ j =>
      have := h.2 j hj
      have : j = 0 := by omega
      subst this
      exact absurd (brd_succ.1 hj).2.symm e

/-- A border as an equality of bytes. -/
theorem brd_iff {s : List Nat} {n k : Nat} (hn : n ≤ s.length) (hk : k < n) : brd s n k ↔ s.take k = (s.drop (n - k)).take k := by
  constructor
  · intro h
    apply List.ext_getElem?
    intro i
    by_cases hi : i < k
    · have := h.2 i hi
      rw [List.getElem?_take, if_pos hi, List.getElem?_take, if_pos hi, List.getElem?_drop, List.getElem?_eq_getElem (by omega), List.getElem?_eq_getElem (by omega)]
      unfold byt at this
      rw [List.getElem?_eq_getElem (by omega), List.getElem?_eq_getElem (by omega)] at this
      simpa using this
    · rw [List.getElem?_eq_none (by simp; omega), List.getElem?_eq_none (by simp; omega)]
  · intro h
    refine ⟨hk, fun i hi => ?_⟩
    have := congrArg (fun l => l[i]?.getD 0) h
    simp only [List.getElem?_take, if_pos hi, List.getElem?_drop] at this
    exact this

/-- The last borders of all beginnings. -/
def borders (s : List Nat) : List Nat := (List.range s.length).map fun i => mx s (i + 1)

def least (s : List Nat) : Nat := if s.length = 0 then 0 else s.length - mx s s.length

def rootLen (s : List Nat) : Nat := if s.length % least s = 0 then least s else s.length
end Go.Proofs.Ytokmmcfnpobldaa

namespace Go.Proofs.Ytokmmcfnpobldaa
open Go Abs
set_option linter.unusedSimpArgs false
set_option linter.unusedVariables false

theorem tinf3 : tinf Try.prog 3 = some ([.int .i64 0], 1, 8) := by kernel_rfl
theorem tsize3 : tsize Try.prog 3 = some 1 := by kernel_rfl
theorem aggT3 : aggT Try.prog 3 = some false := by kernel_rfl

abbrev ints (l : List Nat) : List Value := l.map fun (b : Nat) => Value.int .i64 (b : Int)

theorem mkInts (n j : Nat) (h : n ≤ 2 ^ 40) : stepMake Try.prog 36 (.int .i64 n) (.int .i64 n) j = some { v := .slice (some ⟨j, 0, some n⟩) n 1, j := j, a := [⟨false, 3, ints (List.replicate n 0)⟩] } := by
  have hz : zcells [Value.int .i64 0] n = ints (List.replicate n 0) := by
    apply List.ext_getElem?
    intro i
    by_cases hi : i < n
    · simp [zcells, hi, List.getElem?_replicate, Nat.mod_one]
    · rw [List.getElem?_eq_none (by simp [zcells]; omega), List.getElem?_eq_none (by simp; omega)]
  simp only [stepMake, Try.underlying36, tinf3, Nat.mul_one, Int.toNat_natCast, hz]
  rw [if_pos ⟨by omega, trivial, by omega, by omega, by omega⟩]

/-- The row of borders after i rounds. -/
def rowAt (s : List Nat) (i : Nat) : List Nat := (List.range s.length).map fun q => if q < i then mx s (q + 1) else 0

theorem rowAt_one (s : List Nat) : rowAt s 1 = List.replicate s.length 0 := by
  apply List.ext_getElem?
  intro i
  by_cases hi : i < s.length
  · simp only [rowAt, List.getElem?_map, List.getElem?_range hi, Option.map_some, List.getElem?_replicate, hi, if_true, Option.some.injEq]
    split
    · have : i = 0 := by omega
      subst this
      have := mx_lt (s := s) (n := 1) (by omega)
      simp; omega
    · rfl
  · rw [List.getElem?_eq_none (by simp [rowAt]; omega), List.getElem?_eq_none (by simp; omega)]

theorem rowAt_len (s : List Nat) (i : Nat) : (rowAt s i).length = s.length := by simp [rowAt]
theorem rowAt_full (s : List Nat) (i : Nat) (h : s.length ≤ i) : rowAt s i = borders s := by
  refine List.map_congr_left fun q hq => ?_
  have := List.mem_range.1 hq
  rw [if_pos (by omega)]

theorem rowAt_get (s : List Nat) {i q : Nat} (hq : q < s.length) (h : q < i) : (rowAt s i)[q]? = some (mx s (q + 1)) := by
  simp [rowAt, hq, h]

theorem rowAt_set (s : List Nat) {i : Nat} (h : i < s.length) : (ints (rowAt s i)).set i (.int .i64 (mx s (i + 1) : Nat)) = ints (rowAt s (i + 1)) := by
  apply List.ext_getElem?
  intro q
  rw [List.getElem?_set]
  by_cases hq : q < s.length
  · by_cases e : i = q
    · subst e
      simp [rowAt, h]
    · simp only [e, if_false, List.getElem?_map, rowAt, List.getElem?_range hq, Option.map_some]
      by_cases h1 : q < i
      · rw [if_pos h1, if_pos (by omega)]
      · rw [if_neg h1, if_neg (by omega)]
  · rw [if_neg (by omega), List.getElem?_eq_none (by simp [rowAt]; omega), List.getElem?_eq_none (by simp [rowAt]; omega)]

theorem ints_at {l : List Nat} {i x : Nat} (h : l[i]? = some x) : (ints l)[i]? = some (.int .i64 x) := by simp [h]
end Go.Proofs.Ytokmmcfnpobldaa

namespace Go.Proofs.Ytokmmcfnpobldaa
open Go Abs
set_option linter.unusedSimpArgs false
set_option linter.unusedVariables false

set_option maxRecDepth 10000 in
theorem borders_spec (v : Value) (l : List Nat) (g : Heap) (j : Nat) (hl : l.length ≤ 2 ^ 40) (hv : Src g v 1 l.length (bs l)) : FnSpec Try.prog 24 [v] g { v := .slice (some ⟨j, 0, some l.length⟩) l.length 1, r := srcBlk v, j := j, a := [⟨false, 3, ints (borders l)⟩] } := by
  refine spec_of_body [2] follows Try.func24 rfl (by kernel_rfl) (by simp [Try.f24]) (by kernel_rfl) rfl ?_
  intro g2 s2 n hg hfr hs hn hwf hsv
  have hv2 : Src g2 v 1 l.length (bs l) := hv.congr fun i hi => hg i (by simp [Eff.fp, hi])
  have hlen := hv2.len Try.underlying23
  have hdom : ∀ i ∈ srcBlk v, i < n := fun i hi => by
    obtain ⟨b, hb⟩ := Option.isSome_iff_exists.1 (hv2.dom i hi)
    exact hs i (hwf i b hb).1
  refine s_run (by simp only [runL, List.drop_succ_cons, List.drop_zero, awant_some, Option.getD_some, List.getElem?_toArray, List.getElem?_cons_succ, List.getElem?_cons_zero, Option.bind_some, b_tt, b_tf, b_ft, b_ff, Bool.not_true, Bool.not_false, List.take_succ_cons, List.take_zero, awant_none, astep, evl, put, ap_none, ap_new, ap_wr, List.length_nil, List.length_cons, Nat.add_zero, Nat.zero_add, upd_app, stepBin, abin, stepUn, stepPick, stepExtract, stepCall, if_true, if_false, reduceCtorEq, ↓reduceIte, Nat.reduceEqDiff, Nat.reduceAdd, List.map_cons, List.map_nil, Option.map_some, Option.map_none, Bool.false_eq_true, Int.reduceLE, Int.reduceToNat, ne_eq, not_false_eq_true, and_self, and_true, true_and, decide_true, decide_false, Int.reduceEq, Int.reduceLT, Int.reduceBEq, Int.reduceBNe, not_true_eq_false, undef] <;> rfl) ?_
  refine s_run (by simp only [runL, List.drop_succ_cons, List.drop_zero, awant_some, Option.getD_some, List.getElem?_toArray, List.getElem?_cons_succ, List.getElem?_cons_zero, Option.bind_some, b_tt, b_tf, b_ft, b_ff, Bool.not_true, Bool.not_false, List.take_succ_cons, List.take_zero, awant_none, astep, evl, put, ap_none, ap_new, ap_wr, List.length_nil, List.length_cons, Nat.add_zero, Nat.zero_add, upd_app, stepBin, abin, stepUn, stepPick, stepExtract, stepCall, if_true, if_false, reduceCtorEq, ↓reduceIte, Nat.reduceEqDiff, Nat.reduceAdd, List.map_cons, List.map_nil, Option.map_some, Option.map_none, Bool.false_eq_true, Int.reduceLE, Int.reduceToNat, ne_eq, not_false_eq_true, and_self, and_true, true_and, decide_true, decide_false, Int.reduceEq, Int.reduceLT, Int.reduceBEq, Int.reduceBNe, not_true_eq_false, undef, hlen, mkInts l.length n hl] <;> rfl) (w_heap fun G hG => ?_)
  refine s_run (by simp only [runL, List.drop_succ_cons, List.drop_zero, awant_some, Option.getD_some, List.getElem?_toArray, List.getElem?_cons_succ, List.getElem?_cons_zero, Option.bind_some, b_tt, b_tf, b_ft, b_ff, Bool.not_true, Bool.not_false, List.take_succ_cons, List.take_zero, awant_none, astep, evl, put, ap_none, ap_new, ap_wr, List.length_nil, List.length_cons, Nat.add_zero, Nat.zero_add, upd_app, stepBin, abin, stepUn, stepPick, stepExtract, stepCall, if_true, if_false, reduceCtorEq, ↓reduceIte, Nat.reduceEqDiff, Nat.reduceAdd, List.map_cons, List.map_nil, Option.map_some, Option.map_none, Bool.false_eq_true, Int.reduceLE, Int.reduceToNat, ne_eq, not_false_eq_true, and_self, and_true, true_and, decide_true, decide_false, Int.reduceEq, Int.reduceLT, Int.reduceBEq, Int.reduceBNe, not_true_eq_false, undef] <;> rfl) ?_
  refine w_assoc (s_run (by simp only [runL, List.drop_succ_cons, List.drop_zero, awant_some, Option.getD_some, List.getElem?_toArray, List.getElem?_cons_succ, List.getElem?_cons_zero, Option.bind_some, b_tt, b_tf, b_ft, b_ff, Bool.not_true, Bool.not_false, List.take_succ_cons, List.take_zero, awant_none, astep, evl, put, ap_none, ap_new, ap_wr, List.length_nil, List.length_cons, Nat.add_zero, Nat.zero_add, upd_app, stepBin, abin, stepUn, stepPick, stepExtract, stepCall, if_true, if_false, reduceCtorEq, ↓reduceIte, Nat.reduceEqDiff, Nat.reduceAdd, List.map_cons, List.map_nil, Option.map_some, Option.map_none, Bool.false_eq_true, Int.reduceLE, Int.reduceToNat, ne_eq, not_false_eq_true, and_self, and_true, true_and, decide_true, decide_false, Int.reduceEq, Int.reduceLT, Int.reduceBEq, Int.reduceBNe, not_true_eq_false, undef] <;> rfl) ?_)
  refine s_block (fun t g n' => t 3 = .slice (some ⟨n, 0, some l.length⟩) l.length 1 ∧ g n = some ⟨false, 3, ints (borders l)⟩ ∧ (∀ i, i < n → g i = g2 i)) ?_ ?_
  · refine w_loop (fun t g n' => ∃ i : Nat, 1 ≤ i ∧ i ≤ l.length + 1 ∧ t 0 = v ∧ t 3 = .slice (some ⟨n, 0, some l.length⟩) l.length 1 ∧ t 4 = .int .i64 (mx l i) ∧ t 5 = .int .i64 i ∧ g n = some ⟨false, 3, ints (rowAt l i)⟩ ∧ (∀ i, i < n → g i = g2 i))
      (fun t _ _ => match t 5 with | .int _ i => l.length + 1 - i.toNat | _ => 0)
      ⟨1, by omega, by omega, by simp [upd_app], by simp [upd_app], by
        have := mx_lt (s := l) (n := 1) (by omega)
        simp [upd_app]; omega, by simp [upd_app], by rw [hG, rowAt_one]; simp [upd_app], fun i hi => by rw [hG]; simp [upd_app]; omega⟩ ?_
    rintro t g n' ⟨i, hi1, hil, t0, t3, t4, t5, hgn, hgo⟩
    have hvg : Src g v 1 l.length (bs l) := hv2.congr fun k hk => hgo k (hdom k hk)
    by_cases hlt : i < l.length
    · have d : decide ((i : Int) < (l.length : Int)) = true := by simp; exact hlt
      refine w_assoc (s_run (by simp only [runL, List.drop_succ_cons, List.drop_zero, awant_some, Option.getD_some, List.getElem?_toArray, List.getElem?_cons_succ, List.getElem?_cons_zero, Option.bind_some, b_tt, b_tf, b_ft, b_ff, Bool.not_true, Bool.not_false, List.take_succ_cons, List.take_zero, awant_none, astep, evl, put, ap_none, ap_new, ap_wr, List.length_nil, List.length_cons, Nat.add_zero, Nat.zero_add, upd_app, stepBin, abin, stepUn, stepPick, stepExtract, stepCall, if_true, if_false, reduceCtorEq, ↓reduceIte, Nat.reduceEqDiff, Nat.reduceAdd, List.map_cons, List.map_nil, Option.map_some, Option.map_none, Bool.false_eq_true, Int.reduceLE, Int.reduceToNat, ne_eq, not_false_eq_true, and_self, and_true, true_and, decide_true, decide_false, Int.reduceEq, Int.reduceLT, Int.reduceBEq, Int.reduceBNe, not_true_eq_false, undef, t0, t5, hlen, d] <;> rfl) ?_)
      refine s_true (by simp [evl, upd_app]) (s_skip (w_seq (w_block ?_)))
      refine s_block (fun t g n' => ∃ m : Nat, seek l i m ∧ (m = 0 ∨ byt l i = byt l m) ∧ t 0 = v ∧ t 3 = .slice (some ⟨n, 0, some l.length⟩) l.length 1 ∧ t 4 = .int .i64 m ∧ t 5 = .int .i64 i ∧ g n = some ⟨false, 3, ints (rowAt l i)⟩ ∧ (∀ i, i < n → g i = g2 i)) ?_ ?_
      · refine w_loop (fun t g n' => ∃ m : Nat, seek l i m ∧ t 0 = v ∧ t 3 = .slice (some ⟨n, 0, some l.length⟩) l.length 1 ∧ t 4 = .int .i64 m ∧ t 5 = .int .i64 i ∧ g n = some ⟨false, 3, ints (rowAt l i)⟩ ∧ (∀ i, i < n → g i = g2 i))
          (fun t _ _ => match t 4 with | .int _ m => m.toNat | _ => 0) ⟨mx l i, seek_start (by omega), by simp [upd_app, t0], by simp [upd_app, t3], by simp [upd_app, t4], by simp [upd_app, t5], hgn, hgo⟩ ?_
        clear t0 t3 t4 t5 hgn hgo hvg
        rintro t g n' ⟨m, hsk, t0, t3, t4, t5, hgn, hgo⟩
        have hvg : Src g v 1 l.length (bs l) := hv2.congr fun k hk => hgo k (hdom k hk)
        have hmi := hsk.1.1
        obtain ⟨p, hp1, hp2, _⟩ := hvg.at1 (P := Try.prog) (bs_at hlt) Try.underlying23 tsize5 aggT5
        obtain ⟨q, hq1, hq2, _⟩ := hvg.at1 (P := Try.prog) (bs_at (show m < l.length by omega)) Try.underlying23 tsize5 aggT5
        by_cases h0 : m = 0
        · subst h0
          refine w_assoc (s_draw #[0, 1, 3, 7, 7, 31, 63, 7, 7, 391, 903, 2047, 4095] (by decide +kernel) (by simp only [runR, List.drop_succ_cons, List.drop_zero, awant_some, Option.getD_some, List.getElem?_toArray, List.getElem?_cons_succ, List.getElem?_cons_zero, Option.bind_some, b_tt, b_tf, b_ft, b_ff, Bool.not_true, Bool.not_false, List.take_succ_cons, List.take_zero, awant_none, astep, evl, put, ap_none, ap_new, ap_wr, List.length_nil, List.length_cons, Nat.add_zero, Nat.zero_add, upd_app, stepBin, abin, stepUn, stepPick, stepExtract, stepCall, if_true, if_false, reduceCtorEq, ↓reduceIte, Nat.reduceEqDiff, Nat.reduceAdd, List.map_cons, List.map_nil, Option.map_some, Option.map_none, Bool.false_eq_true, Int.reduceLE, Int.reduceToNat, ne_eq, not_false_eq_true, and_self, and_true, true_and, decide_true, decide_false, Int.reduceEq, Int.reduceLT, Int.reduceBEq, Int.reduceBNe, not_true_eq_false, undef, List.isEmpty_nil, Bool.and_self, Bool.and_true, t0, t4, t5, show decide (((0 : Nat) : Int) > 0) = false from rfl] <;> rfl) ?_)
          refine s_false (by simp [evl, upd_app]) (s_exit ?_)
          exact ⟨0, hsk, .inl rfl, by simpa [upd_app] using t0, by simpa [upd_app] using t3, by simpa [upd_app] using t4, by simpa [upd_app] using t5, hgn, hgo⟩
        · have d0 : decide ((m : Int) > 0) = true := by simp; omega
          by_cases he : byt l i = byt l m
          · have d1 : (((l[i]?.getD 0 : Nat) : Int) != ((l[m]?.getD 0 : Nat) : Int)) = false := by
              unfold byt at he; rw [he]; simp
            refine w_assoc (s_draw #[0, 1, 3, 7, 7, 31, 63, 7, 7, 391, 903, 2047, 4095] (by decide +kernel) (by simp only [runR, List.drop_succ_cons, List.drop_zero, awant_some, Option.getD_some, List.getElem?_toArray, List.getElem?_cons_succ, List.getElem?_cons_zero, Option.bind_some, b_tt, b_tf, b_ft, b_ff, Bool.not_true, Bool.not_false, List.take_succ_cons, List.take_zero, awant_none, astep, evl, put, ap_none, ap_new, ap_wr, List.length_nil, List.length_cons, Nat.add_zero, Nat.zero_add, upd_app, stepBin, abin, stepUn, stepPick, stepExtract, stepCall, if_true, if_false, reduceCtorEq, ↓reduceIte, Nat.reduceEqDiff, Nat.reduceAdd, List.map_cons, List.map_nil, Option.map_some, Option.map_none, Bool.false_eq_true, Int.reduceLE, Int.reduceToNat, ne_eq, not_false_eq_true, and_self, and_true, true_and, decide_true, decide_false, Int.reduceEq, Int.reduceLT, Int.reduceBEq, Int.reduceBNe, not_true_eq_false, undef, List.isEmpty_nil, Bool.and_self, Bool.and_true, t0, t4, t5, d0, hp1, hp2, hq1, hq2, d1] <;> rfl) ?_)
            refine s_false (by simp [evl, upd_app]) (s_exit ?_)
            exact ⟨m, hsk, .inr he, by simpa [upd_app] using t0, by simpa [upd_app] using t3, by simpa [upd_app] using t4, by simpa [upd_app] using t5, hgn, hgo⟩
          · have d1 : (((l[i]?.getD 0 : Nat) : Int) != ((l[m]?.getD 0 : Nat) : Int)) = true := by
              unfold byt at he; simp; omega
            refine w_assoc (s_draw #[0, 1, 3, 7, 7, 31, 63, 7, 7, 391, 903, 2047, 4095] (by decide +kernel) (by simp only [runR, List.drop_succ_cons, List.drop_zero, awant_some, Option.getD_some, List.getElem?_toArray, List.getElem?_cons_succ, List.getElem?_cons_zero, Option.bind_some, b_tt, b_tf, b_ft, b_ff, Bool.not_true, Bool.not_false, List.take_succ_cons, List.take_zero, awant_none, astep, evl, put, ap_none, ap_new, ap_wr, List.length_nil, List.length_cons, Nat.add_zero, Nat.zero_add, upd_app, stepBin, abin, stepUn, stepPick, stepExtract, stepCall, if_true, if_false, reduceCtorEq, ↓reduceIte, Nat.reduceEqDiff, Nat.reduceAdd, List.map_cons, List.map_nil, Option.map_some, Option.map_none, Bool.false_eq_true, Int.reduceLE, Int.reduceToNat, ne_eq, not_false_eq_true, and_self, and_true, true_and, decide_true, decide_false, Int.reduceEq, Int.reduceLT, Int.reduceBEq, Int.reduceBNe, not_true_eq_false, undef, List.isEmpty_nil, Bool.and_self, Bool.and_true, t0, t4, t5, d0, hp1, hp2, hq1, hq2, d1] <;> rfl) ?_)
            refine s_true (by simp [evl, upd_app]) (s_skip (w_block ?_))
            have w1 : IntKind.i64.wrap ((m : Int) - 1) = ((m - 1 : Nat) : Int) := by rw [wrap64_of (by omega) (by omega)]; omega
            have hat := ints_at (rowAt_get l (i := i) (q := m - 1) (by omega) (by omega))
            obtain ⟨i1, i2, _⟩ := own_at (P := Try.prog) (T := 36) hgn hat Try.underlying36 tsize3 aggT3
            have hrl : (ints (rowAt l i)).length = l.length := by simp [rowAt]
            rw [hrl] at i1 i2
            rw [show m - 1 + 1 = m by omega] at i2
            refine region_run (id := 7) (by simp only [runL, List.drop_succ_cons, List.drop_zero, awant_some, Option.getD_some, List.getElem?_toArray, List.getElem?_cons_succ, List.getElem?_cons_zero, Option.bind_some, b_tt, b_tf, b_ft, b_ff, Bool.not_true, Bool.not_false, List.take_succ_cons, List.take_zero, awant_none, astep, evl, put, ap_none, ap_new, ap_wr, List.length_nil, List.length_cons, Nat.add_zero, Nat.zero_add, upd_app, stepBin, abin, stepUn, stepPick, stepExtract, stepCall, if_true, if_false, reduceCtorEq, ↓reduceIte, Nat.reduceEqDiff, Nat.reduceAdd, List.map_cons, List.map_nil, Option.map_some, Option.map_none, Bool.false_eq_true, Int.reduceLE, Int.reduceToNat, ne_eq, not_false_eq_true, and_self, and_true, true_and, decide_true, decide_false, Int.reduceEq, Int.reduceLT, Int.reduceBEq, Int.reduceBNe, not_true_eq_false, undef, t3, t4, w1, i1, i2] <;> rfl) ?_
            refine ⟨⟨mx l m, seek_step hsk (by omega) he, by simp [upd_app, t0], by simp [upd_app, t3], by simp [upd_app], by simp [upd_app, t5], hgn, hgo⟩, ?_⟩
            have := mx_lt (s := l) (n := m) (by omega)
            simp [upd_app, t4]
            exact this
      · have ot5 := t5
        clear t0 t3 t4 t5 hgn hgo hvg
        rintro t g n' ⟨m, hsk, hend, t0, t3, t4, t5, hgn, hgo⟩
        have hvg : Src g v 1 l.length (bs l) := hv2.congr fun k hk => hgo k (hdom k hk)
        have hmi := hsk.1.1
        obtain ⟨p, hp1, hp2, _⟩ := hvg.at1 (P := Try.prog) (bs_at hlt) Try.underlying23 tsize5 aggT5
        obtain ⟨q, hq1, hq2, _⟩ := hvg.at1 (P := Try.prog) (bs_at (show m < l.length by omega)) Try.underlying23 tsize5 aggT5
        have hnext := seek_end hsk hend
        refine s_cut (fun t g n' => t 0 = v ∧ t 3 = .slice (some ⟨n, 0, some l.length⟩) l.length 1 ∧ t 4 = .int .i64 (mx l (i + 1)) ∧ t 5 = .int .i64 i ∧ g n = some ⟨false, 3, ints (rowAt l i)⟩ ∧ (∀ i, i < n → g i = g2 i)) ?_ ?_
        · by_cases he : byt l i = byt l m
          · rw [if_pos he] at hnext
            have d1 : (((l[i]?.getD 0 : Nat) : Int) == ((l[m]?.getD 0 : Nat) : Int)) = true := by
              unfold byt at he; rw [he]; simp
            have w1 : IntKind.i64.wrap ((m : Int) + 1) = ((m + 1 : Nat) : Int) := by rw [wrap64_of (by omega) (by omega)]; simp
            refine s_draw #[0, 0, 3, 7, 0, 0, 48, 112, 255] (by decide +kernel) (by simp only [runR, List.drop_succ_cons, List.drop_zero, awant_some, Option.getD_some, List.getElem?_toArray, List.getElem?_cons_succ, List.getElem?_cons_zero, Option.bind_some, b_tt, b_tf, b_ft, b_ff, Bool.not_true, Bool.not_false, List.take_succ_cons, List.take_zero, awant_none, astep, evl, put, ap_none, ap_new, ap_wr, List.length_nil, List.length_cons, Nat.add_zero, Nat.zero_add, upd_app, stepBin, abin, stepUn, stepPick, stepExtract, stepCall, if_true, if_false, reduceCtorEq, ↓reduceIte, Nat.reduceEqDiff, Nat.reduceAdd, List.map_cons, List.map_nil, Option.map_some, Option.map_none, Bool.false_eq_true, Int.reduceLE, Int.reduceToNat, ne_eq, not_false_eq_true, and_self, and_true, true_and, decide_true, decide_false, Int.reduceEq, Int.reduceLT, Int.reduceBEq, Int.reduceBNe, not_true_eq_false, undef, List.isEmpty_nil, Bool.and_self, Bool.and_true, t0, t4, t5, hp1, hp2, hq1, hq2, d1] <;> rfl) ?_
            refine w_true (by simp [evl, upd_app]) ?_
            refine region_run (id := 9) (by simp only [runL, List.drop_succ_cons, List.drop_zero, awant_some, Option.getD_some, List.getElem?_toArray, List.getElem?_cons_succ, List.getElem?_cons_zero, Option.bind_some, b_tt, b_tf, b_ft, b_ff, Bool.not_true, Bool.not_false, List.take_succ_cons, List.take_zero, awant_none, astep, evl, put, ap_none, ap_new, ap_wr, List.length_nil, List.length_cons, Nat.add_zero, Nat.zero_add, upd_app, stepBin, abin, stepUn, stepPick, stepExtract, stepCall, if_true, if_false, reduceCtorEq, ↓reduceIte, Nat.reduceEqDiff, Nat.reduceAdd, List.map_cons, List.map_nil, Option.map_some, Option.map_none, Bool.false_eq_true, Int.reduceLE, Int.reduceToNat, ne_eq, not_false_eq_true, and_self, and_true, true_and, decide_true, decide_false, Int.reduceEq, Int.reduceLT, Int.reduceBEq, Int.reduceBNe, not_true_eq_false, undef, t4, w1] <;> rfl) ⟨rfl, ?_⟩
            exact ⟨by simp [upd_app, t0], by simp [upd_app, t3], by simp [upd_app, hnext], by simp [upd_app, t5], hgn, hgo⟩
          · rw [if_neg he] at hnext
            have hm0 : m = 0 := by rcases hend with h | h; exact h; exact absurd h he
            subst hm0
            have d1 : (((l[i]?.getD 0 : Nat) : Int) == ((l[0]?.getD 0 : Nat) : Int)) = false := by
              unfold byt at he; simp; omega
            refine s_draw #[0, 0, 3, 7, 0, 0, 48, 112, 255] (by decide +kernel) (by simp only [runR, List.drop_succ_cons, List.drop_zero, awant_some, Option.getD_some, List.getElem?_toArray, List.getElem?_cons_succ, List.getElem?_cons_zero, Option.bind_some, b_tt, b_tf, b_ft, b_ff, Bool.not_true, Bool.not_false, List.take_succ_cons, List.take_zero, awant_none, astep, evl, put, ap_none, ap_new, ap_wr, List.length_nil, List.length_cons, Nat.add_zero, Nat.zero_add, upd_app, stepBin, abin, stepUn, stepPick, stepExtract, stepCall, if_true, if_false, reduceCtorEq, ↓reduceIte, Nat.reduceEqDiff, Nat.reduceAdd, List.map_cons, List.map_nil, Option.map_some, Option.map_none, Bool.false_eq_true, Int.reduceLE, Int.reduceToNat, ne_eq, not_false_eq_true, and_self, and_true, true_and, decide_true, decide_false, Int.reduceEq, Int.reduceLT, Int.reduceBEq, Int.reduceBNe, not_true_eq_false, undef, List.isEmpty_nil, Bool.and_self, Bool.and_true, t0, t4, t5, hp1, hp2, hq1, hq2, d1] <;> rfl) ?_
            refine w_false (by simp [evl, upd_app]) (w_skip ⟨rfl, ?_⟩)
            exact ⟨by simp [upd_app, t0], by simp [upd_app, t3], by simp [upd_app, hnext, t4], by simp [upd_app, t5], hgn, hgo⟩
        · clear t0 t3 t4 t5 hgn hgo hvg hp2 hq2
          rintro t g n' ⟨t0, t3, t4, t5, hgn, hgo⟩
          have hat : (ints (rowAt l i))[i]? = some (.int .i64 ((rowAt l i)[i]?.getD 0 : Nat)) := by
            have : i < (rowAt l i).length := by rw [rowAt_len]; exact hlt
            simp [this]
          obtain ⟨i1, _, i4⟩ := own_at (P := Try.prog) (T := 36) hgn hat Try.underlying36 tsize3 aggT3
          have hrl : (ints (rowAt l i)).length = l.length := by simp [rowAt]
          rw [hrl] at i1 i4
          have w2 : IntKind.i64.wrap ((i : Int) + 1) = ((i + 1 : Nat) : Int) := by rw [wrap64_of (by omega) (by omega)]; simp
          refine region_run (id := 10) (by simp only [runL, List.drop_succ_cons, List.drop_zero, awant_some, Option.getD_some, List.getElem?_toArray, List.getElem?_cons_succ, List.getElem?_cons_zero, Option.bind_some, b_tt, b_tf, b_ft, b_ff, Bool.not_true, Bool.not_false, List.take_succ_cons, List.take_zero, awant_none, astep, evl, put, ap_none, ap_new, ap_wr, List.length_nil, List.length_cons, Nat.add_zero, Nat.zero_add, upd_app, stepBin, abin, stepUn, stepPick, stepExtract, stepCall, if_true, if_false, reduceCtorEq, ↓reduceIte, Nat.reduceEqDiff, Nat.reduceAdd, List.map_cons, List.map_nil, Option.map_some, Option.map_none, Bool.false_eq_true, Int.reduceLE, Int.reduceToNat, ne_eq, not_false_eq_true, and_self, and_true, true_and, decide_true, decide_false, Int.reduceEq, Int.reduceLT, Int.reduceBEq, Int.reduceBNe, not_true_eq_false, undef, t3, t4, t5, i1, i4, rowAt_set l hlt] <;> rfl) ?_
          refine region_run (id := 5) (by simp only [runL, List.drop_succ_cons, List.drop_zero, awant_some, Option.getD_some, List.getElem?_toArray, List.getElem?_cons_succ, List.getElem?_cons_zero, Option.bind_some, b_tt, b_tf, b_ft, b_ff, Bool.not_true, Bool.not_false, List.take_succ_cons, List.take_zero, awant_none, astep, evl, put, ap_none, ap_new, ap_wr, List.length_nil, List.length_cons, Nat.add_zero, Nat.zero_add, upd_app, stepBin, abin, stepUn, stepPick, stepExtract, stepCall, if_true, if_false, reduceCtorEq, ↓reduceIte, Nat.reduceEqDiff, Nat.reduceAdd, List.map_cons, List.map_nil, Option.map_some, Option.map_none, Bool.false_eq_true, Int.reduceLE, Int.reduceToNat, ne_eq, not_false_eq_true, and_self, and_true, true_and, decide_true, decide_false, Int.reduceEq, Int.reduceLT, Int.reduceBEq, Int.reduceBNe, not_true_eq_false, undef, t5, w2] <;> rfl) ?_
          refine ⟨⟨i + 1, by omega, by omega, by simp [upd_app, t0], by simp [upd_app, t3], by simp [upd_app, t4], by simp [upd_app], by simp [upd_app], fun k hk => ?_⟩, ?_⟩
          · simp only [upd_app, if_neg (show k ≠ n by omega)]
            exact hgo k hk
          · rw [ot5]
            simp only [upd_app, if_true, Int.toNat_natCast]
            omega
    · have d : decide ((i : Int) < (l.length : Int)) = false := by simp; omega
      refine w_assoc (s_run (by simp only [runL, List.drop_succ_cons, List.drop_zero, awant_some, Option.getD_some, List.getElem?_toArray, List.getElem?_cons_succ, List.getElem?_cons_zero, Option.bind_some, b_tt, b_tf, b_ft, b_ff, Bool.not_true, Bool.not_false, List.take_succ_cons, List.take_zero, awant_none, astep, evl, put, ap_none, ap_new, ap_wr, List.length_nil, List.length_cons, Nat.add_zero, Nat.zero_add, upd_app, stepBin, abin, stepUn, stepPick, stepExtract, stepCall, if_true, if_false, reduceCtorEq, ↓reduceIte, Nat.reduceEqDiff, Nat.reduceAdd, List.map_cons, List.map_nil, Option.map_some, Option.map_none, Bool.false_eq_true, Int.reduceLE, Int.reduceToNat, ne_eq, not_false_eq_true, and_self, and_true, true_and, decide_true, decide_false, Int.reduceEq, Int.reduceLT, Int.reduceBEq, Int.reduceBNe, not_true_eq_false, undef, t0, t5, hlen, d] <;> rfl) ?_)
      refine s_false (by simp [evl, upd_app]) (s_exit ?_)
      exact ⟨by simpa [upd_app] using t3, by rw [hgn, rowAt_full l i (by omega)], hgo⟩
  · rintro t g n' ⟨t3, hgn, hgo⟩
    refine s_run (by simp only [runL, List.drop_succ_cons, List.drop_zero, awant_some, Option.getD_some, List.getElem?_toArray, List.getElem?_cons_succ, List.getElem?_cons_zero, Option.bind_some, b_tt, b_tf, b_ft, b_ff, Bool.not_true, Bool.not_false, List.take_succ_cons, List.take_zero, awant_none, astep, evl, put, ap_none, ap_new, ap_wr, List.length_nil, List.length_cons, Nat.add_zero, Nat.zero_add, upd_app, stepBin, abin, stepUn, stepPick, stepExtract, stepCall, if_true, if_false, reduceCtorEq, ↓reduceIte, Nat.reduceEqDiff, Nat.reduceAdd, List.map_cons, List.map_nil, Option.map_some, Option.map_none, Bool.false_eq_true, Int.reduceLE, Int.reduceToNat, ne_eq, not_false_eq_true, and_self, and_true, true_and, decide_true, decide_false, Int.reduceEq, Int.reduceLT, Int.reduceBEq, Int.reduceBNe, not_true_eq_false, undef, t3] <;> rfl) ?_
    refine w_ret ⟨.inr rfl, by simp, [n], ?_⟩
    have hbl : (ints (borders l)).length = l.length := by simp [borders]
    have := fin_slice (s2 := s2) (g2 := g2) (n := n) (j := j) (r := srcBlk v) (k := n) (e := 3) (cs := ints (borders l)) (m := l.length) (esz := 1) (v' := .slice (some ⟨n, 0, some l.length⟩) l.length 1) (by rw [hbl]) (Nat.le_refl _) hgn plain_ints (fun i b hb => by
      rw [hgo i (hs i (hwf i b hb).1)]; exact hb)
    rw [hbl] at this
    simpa [resVal, upd_app] using this
end Go.Proofs.Ytokmmcfnpobldaa

namespace Go.Proofs.Ytokmmcfnpobldaa
open Go Abs
set_option linter.unusedSimpArgs false
set_option linter.unusedVariables false

theorem borders_get (l : List Nat) {q : Nat} (hq : q < l.length) : (borders l)[q]? = some (mx l (q + 1)) := by simp [borders, hq]

set_option maxRecDepth 10000 in
theorem least_spec (v : Value) (l : List Nat) (g : Heap) (hl : l.length ≤ 2 ^ 40) (hv : Src g v 1 l.length (bs l)) : FnSpec Try.prog 26 [v] g { v := .int .i64 (least l), r := srcBlk v } := by
  refine spec_of_body [2] follows Try.func26 rfl (by kernel_rfl) (by simp [Try.f26]) (by kernel_rfl) rfl ?_
  intro g2 s2 n hg hfr hs hn hwf hsv
  have hv2 : Src g2 v 1 l.length (bs l) := hv.congr fun i hi => hg i (by simp [Eff.fp, hi])
  have hlen := hv2.len Try.underlying23
  refine s_run (by simp only [runL, List.drop_succ_cons, List.drop_zero, awant_some, Option.getD_some, List.getElem?_toArray, List.getElem?_cons_succ, List.getElem?_cons_zero, Option.bind_some, b_tt, b_tf, b_ft, b_ff, Bool.not_true, Bool.not_false, List.take_succ_cons, List.take_zero, awant_none, astep, evl, put, ap_none, ap_new, ap_wr, List.length_nil, List.length_cons, Nat.add_zero, Nat.zero_add, upd_app, stepBin, abin, stepUn, stepPick, stepExtract, stepCall, if_true, if_false, reduceCtorEq, ↓reduceIte, Nat.reduceEqDiff, Nat.reduceAdd, List.map_cons, List.map_nil, Option.map_some, Option.map_none, Bool.false_eq_true, Int.reduceLE, Int.reduceToNat, ne_eq, not_false_eq_true, and_self, and_true, true_and, decide_true, decide_false, Int.reduceEq, Int.reduceLT, Int.reduceBEq, Int.reduceBNe, not_true_eq_false, undef] <;> rfl) ?_
  by_cases h0 : l.length = 0
  · have d : ((l.length : Int) == 0) = true := by simp [h0]
    refine w_assoc (s_run (by simp only [runL, List.drop_succ_cons, List.drop_zero, awant_some, Option.getD_some, List.getElem?_toArray, List.getElem?_cons_succ, List.getElem?_cons_zero, Option.bind_some, b_tt, b_tf, b_ft, b_ff, Bool.not_true, Bool.not_false, List.take_succ_cons, List.take_zero, awant_none, astep, evl, put, ap_none, ap_new, ap_wr, List.length_nil, List.length_cons, Nat.add_zero, Nat.zero_add, upd_app, stepBin, abin, stepUn, stepPick, stepExtract, stepCall, if_true, if_false, reduceCtorEq, ↓reduceIte, Nat.reduceEqDiff, Nat.reduceAdd, List.map_cons, List.map_nil, Option.map_some, Option.map_none, Bool.false_eq_true, Int.reduceLE, Int.reduceToNat, ne_eq, not_false_eq_true, and_self, and_true, true_and, decide_true, decide_false, Int.reduceEq, Int.reduceLT, Int.reduceBEq, Int.reduceBNe, not_true_eq_false, undef, hlen, d] <;> rfl) ?_)
    refine s_true (by simp [evl, upd_app]) (w_assoc (s_run (by simp only [runL, List.drop_succ_cons, List.drop_zero, awant_some, Option.getD_some, List.getElem?_toArray, List.getElem?_cons_succ, List.getElem?_cons_zero, Option.bind_some, b_tt, b_tf, b_ft, b_ff, Bool.not_true, Bool.not_false, List.take_succ_cons, List.take_zero, awant_none, astep, evl, put, ap_none, ap_new, ap_wr, List.length_nil, List.length_cons, Nat.add_zero, Nat.zero_add, upd_app, stepBin, abin, stepUn, stepPick, stepExtract, stepCall, if_true, if_false, reduceCtorEq, ↓reduceIte, Nat.reduceEqDiff, Nat.reduceAdd, List.map_cons, List.map_nil, Option.map_some, Option.map_none, Bool.false_eq_true, Int.reduceLE, Int.reduceToNat, ne_eq, not_false_eq_true, and_self, and_true, true_and, decide_true, decide_false, Int.reduceEq, Int.reduceLT, Int.reduceBEq, Int.reduceBNe, not_true_eq_false, undef] <;> rfl) ?_))
    refine s_ret ⟨.inr rfl, by simp, [], fin_none ?_ trivial (fun _ _ h => h)⟩
    simp [resVal, upd_app, least, h0]
  · have d : ((l.length : Int) == 0) = false := by rw [beq_eq_false_iff_ne]; omega
    refine w_assoc (s_run (by simp only [runL, List.drop_succ_cons, List.drop_zero, awant_some, Option.getD_some, List.getElem?_toArray, List.getElem?_cons_succ, List.getElem?_cons_zero, Option.bind_some, b_tt, b_tf, b_ft, b_ff, Bool.not_true, Bool.not_false, List.take_succ_cons, List.take_zero, awant_none, astep, evl, put, ap_none, ap_new, ap_wr, List.length_nil, List.length_cons, Nat.add_zero, Nat.zero_add, upd_app, stepBin, abin, stepUn, stepPick, stepExtract, stepCall, if_true, if_false, reduceCtorEq, ↓reduceIte, Nat.reduceEqDiff, Nat.reduceAdd, List.map_cons, List.map_nil, Option.map_some, Option.map_none, Bool.false_eq_true, Int.reduceLE, Int.reduceToNat, ne_eq, not_false_eq_true, and_self, and_true, true_and, decide_true, decide_false, Int.reduceEq, Int.reduceLT, Int.reduceBEq, Int.reduceBNe, not_true_eq_false, undef, hlen, d] <;> rfl) ?_)
    refine s_false (by simp [evl, upd_app]) (s_skip ?_)
    refine w_gen (fun t => t 0 = v) (by simp [upd_app]) ?_
    intro t t0
    refine s_take 3 (by simp only [runL, List.drop_succ_cons, List.drop_zero, awant_some, Option.getD_some, List.getElem?_toArray, List.getElem?_cons_succ, List.getElem?_cons_zero, Option.bind_some, b_tt, b_tf, b_ft, b_ff, Bool.not_true, Bool.not_false, List.take_succ_cons, List.take_zero, awant_none, astep, evl, put, ap_none, ap_new, ap_wr, List.length_nil, List.length_cons, Nat.add_zero, Nat.zero_add, upd_app, stepBin, abin, stepUn, stepPick, stepExtract, stepCall, if_true, if_false, reduceCtorEq, ↓reduceIte, Nat.reduceEqDiff, Nat.reduceAdd, List.map_cons, List.map_nil, Option.map_some, Option.map_none, Bool.false_eq_true, Int.reduceLE, Int.reduceToNat, ne_eq, not_false_eq_true, and_self, and_true, true_and, decide_true, decide_false, Int.reduceEq, Int.reduceLT, Int.reduceBEq, Int.reduceBNe, not_true_eq_false, undef, t0, hlen] <;> rfl) ?_
    refine ops_call 24 _ rfl (borders_spec v l g2 _ hl hv2) (by intro _; rfl) (ops_heap fun G hG => ?_)
    have hGn : G n = some ⟨false, 3, ints (borders l)⟩ := by simp [hG, ap_new, upd_app]
    have hat := ints_at (borders_get l (q := l.length - 1) (by omega))
    obtain ⟨i1, i2, _⟩ := own_at (P := Try.prog) (T := 36) hGn hat Try.underlying36 tsize3 aggT3
    have hbl : (ints (borders l)).length = l.length := by simp [borders]
    rw [hbl] at i1 i2
    rw [show l.length - 1 + 1 = l.length by omega] at i2
    have hm := mx_lt (s := l) (n := l.length) (by omega)
    have w1 : IntKind.i64.wrap ((l.length : Int) - 1) = ((l.length - 1 : Nat) : Int) := by rw [wrap64_of (by omega) (by omega)]; omega
    have w2 : IntKind.i64.wrap ((l.length : Int) - (mx l l.length : Int)) = ((least l : Nat) : Int) := by
      rw [wrap64_of (by omega) (by omega), least, if_neg h0]; omega
    refine ops_run (by simp only [runL, List.drop_succ_cons, List.drop_zero, awant_some, Option.getD_some, List.getElem?_toArray, List.getElem?_cons_succ, List.getElem?_cons_zero, Option.bind_some, b_tt, b_tf, b_ft, b_ff, Bool.not_true, Bool.not_false, List.take_succ_cons, List.take_zero, awant_none, astep, evl, put, ap_none, ap_new, ap_wr, List.length_nil, List.length_cons, Nat.add_zero, Nat.zero_add, upd_app, stepBin, abin, stepUn, stepPick, stepExtract, stepCall, if_true, if_false, reduceCtorEq, ↓reduceIte, Nat.reduceEqDiff, Nat.reduceAdd, List.map_cons, List.map_nil, Option.map_some, Option.map_none, Bool.false_eq_true, Int.reduceLE, Int.reduceToNat, ne_eq, not_false_eq_true, and_self, and_true, true_and, decide_true, decide_false, Int.reduceEq, Int.reduceLT, Int.reduceBEq, Int.reduceBNe, not_true_eq_false, undef, t0, hlen, w1, w2, i1, i2] <;> rfl) ?_
    refine w_ret ⟨.inr rfl, by simp, [], fin_none ?_ trivial ?_⟩
    · simp [resVal, upd_app, put]
    · intro i b hb
      have := hs i (hwf i b hb).1
      rw [hG]
      simp [ap_new, upd_app, show i ≠ n by omega, hb]

def isNil : Value → Bool
  | .slice none _ _ => true
  | _ => false

/-- The copy of bytes: nil of nil. -/
def cloneE (v : Value) (l : List Nat) (j : Nat) : Eff :=
  if isNil v then { v := .slice none 0 0, r := srcBlk v, j := j } else { v := .slice (some ⟨j, 0, some l.length⟩) l.length 1, r := srcBlk v, j := j, a := [⟨false, 5, bs l⟩] }

theorem nil_cmp {g : Heap} {v : Value} {m : Nat} {cs : List Value} (h : Src g v 1 m cs) : stepBin Try.prog .eql 23 v (.slice none 0 0) = some { v := .bool (isNil v) } := by
  rcases h with ⟨rfl, _, _⟩ | ⟨a, rfl, _, _⟩ | ⟨a, b, rfl, _⟩ <;> simp [stepBin, abin, Try.underlying23, isNil]

set_option maxRecDepth 10000 in
theorem clone_spec (v : Value) (l : List Nat) (g : Heap) (j : Nat) (hl : l.length ≤ 2 ^ 40) (hv : Src g v 1 l.length (bs l)) : FnSpec Try.prog 44 [v] g (cloneE v l j) := by
  refine spec_of_body [2] follows Try.func44 rfl (by kernel_rfl) (by simp [Try.f44]) (by kernel_rfl) rfl ?_
  intro g2 s2 n hg hfr hs hn hwf hsv
  have hv2 : Src g2 v 1 l.length (bs l) := hv.congr fun i hi => hg i (by
    unfold cloneE
    split <;> simp [Eff.fp, hi])
  have hcmp := nil_cmp hv2
  refine s_run (by simp only [runL, List.drop_succ_cons, List.drop_zero, awant_some, Option.getD_some, List.getElem?_toArray, List.getElem?_cons_succ, List.getElem?_cons_zero, Option.bind_some, b_tt, b_tf, b_ft, b_ff, Bool.not_true, Bool.not_false, List.take_succ_cons, List.take_zero, awant_none, astep, evl, put, ap_none, ap_new, ap_wr, List.length_nil, List.length_cons, Nat.add_zero, Nat.zero_add, upd_app, stepBin, abin, stepUn, stepPick, stepExtract, stepCall, if_true, if_false, reduceCtorEq, ↓reduceIte, Nat.reduceEqDiff, Nat.reduceAdd, List.map_cons, List.map_nil, Option.map_some, Option.map_none, Bool.false_eq_true, Int.reduceLE, Int.reduceToNat, ne_eq, not_false_eq_true, and_self, and_true, true_and, decide_true, decide_false, Int.reduceEq, Int.reduceLT, Int.reduceBEq, Int.reduceBNe, not_true_eq_false, undef] <;> rfl) ?_
  have hdom : ∀ i ∈ srcBlk v, i < n := fun i hi => by
    obtain ⟨b, hb⟩ := Option.isSome_iff_exists.1 (hv2.dom i hi)
    exact hs i (hwf i b hb).1
  by_cases h0 : isNil v = true
  · have e : cloneE v l j = { v := .slice none 0 0, r := srcBlk v, j := j } := by rw [cloneE, if_pos h0]
    rw [e]
    refine w_assoc (s_take 1 (by simp only [runL, List.drop_succ_cons, List.drop_zero, awant_some, Option.getD_some, List.getElem?_toArray, List.getElem?_cons_succ, List.getElem?_cons_zero, Option.bind_some, b_tt, b_tf, b_ft, b_ff, Bool.not_true, Bool.not_false, List.take_succ_cons, List.take_zero, awant_none, astep, evl, put, ap_none, ap_new, ap_wr, List.length_nil, List.length_cons, Nat.add_zero, Nat.zero_add, upd_app, stepBin, abin, stepUn, stepPick, stepExtract, stepCall, if_true, if_false, reduceCtorEq, ↓reduceIte, Nat.reduceEqDiff, Nat.reduceAdd, List.map_cons, List.map_nil, Option.map_some, Option.map_none, Bool.false_eq_true, Int.reduceLE, Int.reduceToNat, ne_eq, not_false_eq_true, and_self, and_true, true_and, decide_true, decide_false, Int.reduceEq, Int.reduceLT, Int.reduceBEq, Int.reduceBNe, not_true_eq_false, undef] <;> rfl) ?_)
    refine ops_step _ hcmp rfl ?_
    refine s_true (by simp [evl, upd_app, put, h0]) (w_assoc (s_run (by simp only [runL, List.drop_succ_cons, List.drop_zero, awant_some, Option.getD_some, List.getElem?_toArray, List.getElem?_cons_succ, List.getElem?_cons_zero, Option.bind_some, b_tt, b_tf, b_ft, b_ff, Bool.not_true, Bool.not_false, List.take_succ_cons, List.take_zero, awant_none, astep, evl, put, ap_none, ap_new, ap_wr, List.length_nil, List.length_cons, Nat.add_zero, Nat.zero_add, upd_app, stepBin, abin, stepUn, stepPick, stepExtract, stepCall, if_true, if_false, reduceCtorEq, ↓reduceIte, Nat.reduceEqDiff, Nat.reduceAdd, List.map_cons, List.map_nil, Option.map_some, Option.map_none, Bool.false_eq_true, Int.reduceLE, Int.reduceToNat, ne_eq, not_false_eq_true, and_self, and_true, true_and, decide_true, decide_false, Int.reduceEq, Int.reduceLT, Int.reduceBEq, Int.reduceBNe, not_true_eq_false, undef] <;> rfl) ?_))
    refine s_ret ⟨.inr rfl, by simp, [], fin_none ?_ trivial (fun _ _ h => h)⟩
    simp [resVal, upd_app]
  · have e : cloneE v l j = { v := .slice (some ⟨j, 0, some l.length⟩) l.length 1, r := srcBlk v, j := j, a := [⟨false, 5, bs l⟩] } := by rw [cloneE, if_neg h0]
    rw [e]
    refine w_assoc (s_take 1 (by simp only [runL, List.drop_succ_cons, List.drop_zero, awant_some, Option.getD_some, List.getElem?_toArray, List.getElem?_cons_succ, List.getElem?_cons_zero, Option.bind_some, b_tt, b_tf, b_ft, b_ff, Bool.not_true, Bool.not_false, List.take_succ_cons, List.take_zero, awant_none, astep, evl, put, ap_none, ap_new, ap_wr, List.length_nil, List.length_cons, Nat.add_zero, Nat.zero_add, upd_app, stepBin, abin, stepUn, stepPick, stepExtract, stepCall, if_true, if_false, reduceCtorEq, ↓reduceIte, Nat.reduceEqDiff, Nat.reduceAdd, List.map_cons, List.map_nil, Option.map_some, Option.map_none, Bool.false_eq_true, Int.reduceLE, Int.reduceToNat, ne_eq, not_false_eq_true, and_self, and_true, true_and, decide_true, decide_false, Int.reduceEq, Int.reduceLT, Int.reduceBEq, Int.reduceBNe, not_true_eq_false, undef] <;> rfl) ?_)
    refine ops_step _ hcmp rfl ?_
    refine s_false (by simp [evl, upd_app, put, h0]) (s_skip ?_)
    refine w_gen (fun t => t 0 = v) (by simp [upd_app, put]) ?_
    intro t t0
    refine s_take 2 (by simp only [runL, List.drop_succ_cons, List.drop_zero, awant_some, Option.getD_some, List.getElem?_toArray, List.getElem?_cons_succ, List.getElem?_cons_zero, Option.bind_some, b_tt, b_tf, b_ft, b_ff, Bool.not_true, Bool.not_false, List.take_succ_cons, List.take_zero, awant_none, astep, evl, put, ap_none, ap_new, ap_wr, List.length_nil, List.length_cons, Nat.add_zero, Nat.zero_add, upd_app, stepBin, abin, stepUn, stepPick, stepExtract, stepCall, if_true, if_false, reduceCtorEq, ↓reduceIte, Nat.reduceEqDiff, Nat.reduceAdd, List.map_cons, List.map_nil, Option.map_some, Option.map_none, Bool.false_eq_true, Int.reduceLE, Int.reduceToNat, ne_eq, not_false_eq_true, and_self, and_true, true_and, decide_true, decide_false, Int.reduceEq, Int.reduceLT, Int.reduceBEq, Int.reduceBNe, not_true_eq_false, undef, t0, lit0] <;> rfl) (ops_heap fun G hG => ?_)
    have e1 : ∀ k, k < n → G k = g2 k := fun k hk => by rw [hG]; simp [upd_app, ap_none]; omega
    have hv3 : Src G v 1 l.length (bs l) := hv2.congr fun k hk => e1 k (hdom k hk)
    have o2 : OwnI 5 1 G (.slice (some ⟨n, 0, some 0⟩) 0 1) 0 [] (some n) := .inr ⟨n, rfl, rfl, by rw [hG]; simp [upd_app], rfl⟩
    obtain ⟨f3, i3, hf3, o3, hi3, hk3⟩ := own_append (P := Try.prog) (n := n + 1) (T := 23) o2 hv3.cells (by simp) Try.underlying23 tinf5 (by omega) (by omega) (by omega)
    rcases hi3 with ⟨rfl, ha3⟩ | ⟨h, _⟩
    case inr => cases h
    refine ops_step f3 (by simp only [runL, List.drop_succ_cons, List.drop_zero, awant_some, Option.getD_some, List.getElem?_toArray, List.getElem?_cons_succ, List.getElem?_cons_zero, Option.bind_some, b_tt, b_tf, b_ft, b_ff, Bool.not_true, Bool.not_false, List.take_succ_cons, List.take_zero, awant_none, astep, evl, put, ap_none, ap_new, ap_wr, List.length_nil, List.length_cons, Nat.add_zero, Nat.zero_add, upd_app, stepBin, abin, stepUn, stepPick, stepExtract, stepCall, if_true, if_false, reduceCtorEq, ↓reduceIte, Nat.reduceEqDiff, Nat.reduceAdd, List.map_cons, List.map_nil, Option.map_some, Option.map_none, Bool.false_eq_true, Int.reduceLE, Int.reduceToNat, ne_eq, not_false_eq_true, and_self, and_true, true_and, decide_true, decide_false, Int.reduceEq, Int.reduceLT, Int.reduceBEq, Int.reduceBNe, not_true_eq_false, undef, hf3]) rfl (ops_heap fun G3 hG3 => ?_)
    rw [← hG3] at o3 hk3
    refine ops_run (by simp only [runL, List.drop_succ_cons, List.drop_zero, awant_some, Option.getD_some, List.getElem?_toArray, List.getElem?_cons_succ, List.getElem?_cons_zero, Option.bind_some, b_tt, b_tf, b_ft, b_ff, Bool.not_true, Bool.not_false, List.take_succ_cons, List.take_zero, awant_none, astep, evl, put, ap_none, ap_new, ap_wr, List.length_nil, List.length_cons, Nat.add_zero, Nat.zero_add, upd_app, stepBin, abin, stepUn, stepPick, stepExtract, stepCall, if_true, if_false, reduceCtorEq, ↓reduceIte, Nat.reduceEqDiff, Nat.reduceAdd, List.map_cons, List.map_nil, Option.map_some, Option.map_none, Bool.false_eq_true, Int.reduceLE, Int.reduceToNat, ne_eq, not_false_eq_true, and_self, and_true, true_and, decide_true, decide_false, Int.reduceEq, Int.reduceLT, Int.reduceBEq, Int.reduceBNe, not_true_eq_false, undef] <;> rfl) ?_
    rcases o3 with ⟨h, _⟩ | ⟨k3, h3, hv4, hg3, hl3⟩
    · cases h
    cases h3
    rw [List.nil_append] at hv4 hg3
    rw [Nat.zero_add] at hv4
    have hbl : (bs l).length = l.length := by simp
    refine w_ret ⟨.inr rfl, by simp, [n], ?_⟩
    have := fin_slice (s2 := s2) (g2 := g2) (n := n) (j := j) (r := srcBlk v) (k := n) (e := 5) (cs := bs l) (m := l.length) (esz := 1) (v' := f3.v) hv4 (Nat.le_refl _) hg3 plain_ints (fun i b hb => by
      have := hs i (hwf i b hb).1
      rw [hk3 i (by omega) (by simp; omega), e1 i this, hb])
    rw [hbl] at this
    simpa [resVal, upd_app, put] using this
end Go.Proofs.Ytokmmcfnpobldaa

namespace Go.Proofs.Ytokmmcfnpobldaa
open Go Abs
set_option linter.unusedSimpArgs false
set_option linter.unusedVariables false

theorem wrap64_nat {p : Nat} (h : p < 2 ^ 63) : IntKind.i64.wrap (p : Int) = (p : Int) := wrap64_of (by omega) (by omega)

/-- A root and how often: what both functions come to. -/
def rootE (v : Value) (l : List Nat) (j : Nat) : Eff :=
  if l.length = 0 then { v := .tuple #[.slice none 0 0, .int .i64 0], r := srcBlk v, j := j }
  else { v := .tuple #[.slice (some ⟨j, 0, some (rootLen l)⟩) (rootLen l) 1, .int .i64 (l.length / rootLen l : Nat)], r := srcBlk v, j := j, a := [⟨false, 5, bs (l.take (rootLen l))⟩] }

theorem least_pos (l : List Nat) (h : l.length ≠ 0) : 1 ≤ least l ∧ least l ≤ l.length := by
  have := mx_lt (s := l) (n := l.length) (by omega)
  rw [least, if_neg h]; omega

theorem rootLen_pos (l : List Nat) (h : l.length ≠ 0) : 1 ≤ rootLen l ∧ rootLen l ≤ l.length := by
  have := least_pos l h
  unfold rootLen
  split <;> omega

theorem src_notnil {g : Heap} {v : Value} {m : Nat} {cs : List Value} (h : Src g v 1 m cs) (hm : 0 < m) : isNil v = false := by
  rcases h with ⟨_, rfl, _⟩ | ⟨a, _, rfl, _⟩ | ⟨a, b, rfl, _⟩
  · omega
  · omega
  · rfl

set_option maxRecDepth 10000 in
theorem root_spec (v : Value) (l : List Nat) (g : Heap) (j : Nat) (hl : l.length ≤ 2 ^ 40) (hv : Src g v 1 l.length (bs l)) : FnSpec Try.prog 21 [v] g (rootE v l j) := by
  refine spec_of_body [2, 3] follows Try.func21 rfl (by kernel_rfl) (by simp [Try.f21]) (by kernel_rfl) rfl ?_
  intro g2 s2 n hg hfr hs hn hwf hsv
  have hv2 : Src g2 v 1 l.length (bs l) := hv.congr fun i hi => hg i (by
    unfold rootE
    split <;> simp [Eff.fp, hi])
  have hlen := hv2.len Try.underlying23
  have hdom : ∀ i ∈ srcBlk v, i < n := fun i hi => by
    obtain ⟨b, hb⟩ := Option.isSome_iff_exists.1 (hv2.dom i hi)
    exact hs i (hwf i b hb).1
  refine s_run (by simp only [runL, List.drop_succ_cons, List.drop_zero, awant_some, Option.getD_some, List.getElem?_toArray, List.getElem?_cons_succ, List.getElem?_cons_zero, Option.bind_some, b_tt, b_tf, b_ft, b_ff, Bool.not_true, Bool.not_false, List.take_succ_cons, List.take_zero, awant_none, astep, evl, put, ap_none, ap_new, ap_wr, List.length_nil, List.length_cons, Nat.add_zero, Nat.zero_add, upd_app, stepBin, abin, stepUn, stepPick, stepExtract, stepCall, if_true, if_false, reduceCtorEq, ↓reduceIte, Nat.reduceEqDiff, Nat.reduceAdd, List.map_cons, List.map_nil, Option.map_some, Option.map_none, Bool.false_eq_true, Int.reduceLE, Int.reduceToNat, ne_eq, not_false_eq_true, and_self, and_true, true_and, decide_true, decide_false, Int.reduceEq, Int.reduceLT, Int.reduceBEq, Int.reduceBNe, not_true_eq_false, undef] <;> rfl) ?_
  by_cases h0 : l.length = 0
  · have e : rootE v l j = { v := .tuple #[.slice none 0 0, .int .i64 0], r := srcBlk v, j := j } := by rw [rootE, if_pos h0]
    rw [e]
    have d : ((l.length : Int) == 0) = true := by simp [h0]
    refine w_assoc (s_run (by simp only [runL, List.drop_succ_cons, List.drop_zero, awant_some, Option.getD_some, List.getElem?_toArray, List.getElem?_cons_succ, List.getElem?_cons_zero, Option.bind_some, b_tt, b_tf, b_ft, b_ff, Bool.not_true, Bool.not_false, List.take_succ_cons, List.take_zero, awant_none, astep, evl, put, ap_none, ap_new, ap_wr, List.length_nil, List.length_cons, Nat.add_zero, Nat.zero_add, upd_app, stepBin, abin, stepUn, stepPick, stepExtract, stepCall, if_true, if_false, reduceCtorEq, ↓reduceIte, Nat.reduceEqDiff, Nat.reduceAdd, List.map_cons, List.map_nil, Option.map_some, Option.map_none, Bool.false_eq_true, Int.reduceLE, Int.reduceToNat, ne_eq, not_false_eq_true, and_self, and_true, true_and, decide_true, decide_false, Int.reduceEq, Int.reduceLT, Int.reduceBEq, Int.reduceBNe, not_true_eq_false, undef, hlen, d] <;> rfl) ?_)
    refine s_true (by simp [evl, upd_app]) (w_assoc (s_run (by simp only [runL, List.drop_succ_cons, List.drop_zero, awant_some, Option.getD_some, List.getElem?_toArray, List.getElem?_cons_succ, List.getElem?_cons_zero, Option.bind_some, b_tt, b_tf, b_ft, b_ff, Bool.not_true, Bool.not_false, List.take_succ_cons, List.take_zero, awant_none, astep, evl, put, ap_none, ap_new, ap_wr, List.length_nil, List.length_cons, Nat.add_zero, Nat.zero_add, upd_app, stepBin, abin, stepUn, stepPick, stepExtract, stepCall, if_true, if_false, reduceCtorEq, ↓reduceIte, Nat.reduceEqDiff, Nat.reduceAdd, List.map_cons, List.map_nil, Option.map_some, Option.map_none, Bool.false_eq_true, Int.reduceLE, Int.reduceToNat, ne_eq, not_false_eq_true, and_self, and_true, true_and, decide_true, decide_false, Int.reduceEq, Int.reduceLT, Int.reduceBEq, Int.reduceBNe, not_true_eq_false, undef] <;> rfl) ?_))
    refine s_ret ⟨.inr rfl, fun _ r hr => ?_, [], fin_none ?_ (by intro c hc; simp at hc; rcases hc with rfl | rfl <;> trivial) (fun _ _ h => h)⟩
    · simp only [List.mem_cons, List.not_mem_nil, or_false] at hr
      rcases hr with rfl | rfl <;> simp [upd_app, isTup]
    · simp [resVal, upd_app]
  · have e : rootE v l j = { v := .tuple #[.slice (some ⟨j, 0, some (rootLen l)⟩) (rootLen l) 1, .int .i64 (l.length / rootLen l : Nat)], r := srcBlk v, j := j, a := [⟨false, 5, bs (l.take (rootLen l))⟩] } := by rw [rootE, if_neg h0]
    rw [e]
    have d : ((l.length : Int) == 0) = false := by rw [beq_eq_false_iff_ne]; omega
    refine w_assoc (s_run (by simp only [runL, List.drop_succ_cons, List.drop_zero, awant_some, Option.getD_some, List.getElem?_toArray, List.getElem?_cons_succ, List.getElem?_cons_zero, Option.bind_some, b_tt, b_tf, b_ft, b_ff, Bool.not_true, Bool.not_false, List.take_succ_cons, List.take_zero, awant_none, astep, evl, put, ap_none, ap_new, ap_wr, List.length_nil, List.length_cons, Nat.add_zero, Nat.zero_add, upd_app, stepBin, abin, stepUn, stepPick, stepExtract, stepCall, if_true, if_false, reduceCtorEq, ↓reduceIte, Nat.reduceEqDiff, Nat.reduceAdd, List.map_cons, List.map_nil, Option.map_some, Option.map_none, Bool.false_eq_true, Int.reduceLE, Int.reduceToNat, ne_eq, not_false_eq_true, and_self, and_true, true_and, decide_true, decide_false, Int.reduceEq, Int.reduceLT, Int.reduceBEq, Int.reduceBNe, not_true_eq_false, undef, hlen, d] <;> rfl) ?_)
    refine s_false (by simp [evl, upd_app]) (s_skip ?_)
    refine w_gen (fun t => t 0 = v) (by simp [upd_app]) ?_
    intro t t0
    refine s_take 1 (by simp only [runL, List.drop_succ_cons, List.drop_zero, awant_some, Option.getD_some, List.getElem?_toArray, List.getElem?_cons_succ, List.getElem?_cons_zero, Option.bind_some, b_tt, b_tf, b_ft, b_ff, Bool.not_true, Bool.not_false, List.take_succ_cons, List.take_zero, awant_none, astep, evl, put, ap_none, ap_new, ap_wr, List.length_nil, List.length_cons, Nat.add_zero, Nat.zero_add, upd_app, stepBin, abin, stepUn, stepPick, stepExtract, stepCall, if_true, if_false, reduceCtorEq, ↓reduceIte, Nat.reduceEqDiff, Nat.reduceAdd, List.map_cons, List.map_nil, Option.map_some, Option.map_none, Bool.false_eq_true, Int.reduceLE, Int.reduceToNat, ne_eq, not_false_eq_true, and_self, and_true, true_and, decide_true, decide_false, Int.reduceEq, Int.reduceLT, Int.reduceBEq, Int.reduceBNe, not_true_eq_false, undef, t0] <;> rfl) ?_
    refine ops_call 26 _ rfl (least_spec v l g2 hl hv2) (by simp) ?_
    refine ops_run (by simp only [runL, List.drop_succ_cons, List.drop_zero, awant_some, Option.getD_some, List.getElem?_toArray, List.getElem?_cons_succ, List.getElem?_cons_zero, Option.bind_some, b_tt, b_tf, b_ft, b_ff, Bool.not_true, Bool.not_false, List.take_succ_cons, List.take_zero, awant_none, astep, evl, put, ap_none, ap_new, ap_wr, List.length_nil, List.length_cons, Nat.add_zero, Nat.zero_add, upd_app, stepBin, abin, stepUn, stepPick, stepExtract, stepCall, if_true, if_false, reduceCtorEq, ↓reduceIte, Nat.reduceEqDiff, Nat.reduceAdd, List.map_cons, List.map_nil, Option.map_some, Option.map_none, Bool.false_eq_true, Int.reduceLE, Int.reduceToNat, ne_eq, not_false_eq_true, and_self, and_true, true_and, decide_true, decide_false, Int.reduceEq, Int.reduceLT, Int.reduceBEq, Int.reduceBNe, not_true_eq_false, undef] <;> rfl) ?_
    have hlp := least_pos l h0
    have hrp := rootLen_pos l h0
    have hz : (((least l : Nat) : Int) = 0) = False := by simp; omega
    have hz' : (((rootLen l : Nat) : Int) = 0) = False := by simp; omega
    have hmod : (l.length : Int).tmod (least l : Int) = ((l.length % least l : Nat) : Int) := by rw [Int.tmod_eq_emod_of_nonneg (by omega)]; simp
    have hdiv : IntKind.i64.wrap ((l.length : Int).tdiv (rootLen l : Int)) = ((l.length / rootLen l : Nat) : Int) := by
      have := Nat.div_le_self l.length (rootLen l)
      rw [Int.tdiv_eq_ediv_of_nonneg (by omega), ← Int.natCast_ediv, wrap64_nat (by omega)]
    refine w_gen (fun t => t 0 = v ∧ t 4 = .int .i64 (least l)) (by simp [upd_app, put, t0]) ?_
    clear t0
    rintro t ⟨t0, t4⟩
    refine s_cut (fun t g n' => t 0 = v ∧ t 4 = .int .i64 (rootLen l) ∧ g2 = g ∧ n = n') ?_ ?_
    · by_cases hm : l.length % least l = 0
      · have d1 : (((l.length % least l : Nat) : Int) != 0) = false := by simp [hm]
        refine s_run (by simp only [runL, List.drop_succ_cons, List.drop_zero, awant_some, Option.getD_some, List.getElem?_toArray, List.getElem?_cons_succ, List.getElem?_cons_zero, Option.bind_some, b_tt, b_tf, b_ft, b_ff, Bool.not_true, Bool.not_false, List.take_succ_cons, List.take_zero, awant_none, astep, evl, put, ap_none, ap_new, ap_wr, List.length_nil, List.length_cons, Nat.add_zero, Nat.zero_add, upd_app, stepBin, abin, stepUn, stepPick, stepExtract, stepCall, if_true, if_false, reduceCtorEq, ↓reduceIte, Nat.reduceEqDiff, Nat.reduceAdd, List.map_cons, List.map_nil, Option.map_some, Option.map_none, Bool.false_eq_true, Int.reduceLE, Int.reduceToNat, ne_eq, not_false_eq_true, and_self, and_true, true_and, decide_true, decide_false, Int.reduceEq, Int.reduceLT, Int.reduceBEq, Int.reduceBNe, not_true_eq_false, undef, t0, t4, hlen, hz, hmod, d1] <;> rfl) ?_
        refine w_false (by simp [evl, upd_app]) (w_skip ⟨rfl, by simp [upd_app, t0], ?_, rfl, rfl⟩)
        simp [upd_app, t4, rootLen, hm]
      · have d1 : (((l.length % least l : Nat) : Int) != 0) = true := by simp; omega
        refine s_run (by simp only [runL, List.drop_succ_cons, List.drop_zero, awant_some, Option.getD_some, List.getElem?_toArray, List.getElem?_cons_succ, List.getElem?_cons_zero, Option.bind_some, b_tt, b_tf, b_ft, b_ff, Bool.not_true, Bool.not_false, List.take_succ_cons, List.take_zero, awant_none, astep, evl, put, ap_none, ap_new, ap_wr, List.length_nil, List.length_cons, Nat.add_zero, Nat.zero_add, upd_app, stepBin, abin, stepUn, stepPick, stepExtract, stepCall, if_true, if_false, reduceCtorEq, ↓reduceIte, Nat.reduceEqDiff, Nat.reduceAdd, List.map_cons, List.map_nil, Option.map_some, Option.map_none, Bool.false_eq_true, Int.reduceLE, Int.reduceToNat, ne_eq, not_false_eq_true, and_self, and_true, true_and, decide_true, decide_false, Int.reduceEq, Int.reduceLT, Int.reduceBEq, Int.reduceBNe, not_true_eq_false, undef, t0, t4, hlen, hz, hmod, d1] <;> rfl) ?_
        refine w_true (by simp [evl, upd_app]) (region_run (id := 5) (by simp only [runL, List.drop_succ_cons, List.drop_zero, awant_some, Option.getD_some, List.getElem?_toArray, List.getElem?_cons_succ, List.getElem?_cons_zero, Option.bind_some, b_tt, b_tf, b_ft, b_ff, Bool.not_true, Bool.not_false, List.take_succ_cons, List.take_zero, awant_none, astep, evl, put, ap_none, ap_new, ap_wr, List.length_nil, List.length_cons, Nat.add_zero, Nat.zero_add, upd_app, stepBin, abin, stepUn, stepPick, stepExtract, stepCall, if_true, if_false, reduceCtorEq, ↓reduceIte, Nat.reduceEqDiff, Nat.reduceAdd, List.map_cons, List.map_nil, Option.map_some, Option.map_none, Bool.false_eq_true, Int.reduceLE, Int.reduceToNat, ne_eq, not_false_eq_true, and_self, and_true, true_and, decide_true, decide_false, Int.reduceEq, Int.reduceLT, Int.reduceBEq, Int.reduceBNe, not_true_eq_false, undef, t0, hlen] <;> rfl) ⟨rfl, by simp [upd_app, t0], ?_, rfl, rfl⟩)
        simp [upd_app, rootLen, hm]
    · clear t0 t4
      rintro t g n' ⟨t0, t4, rfl, rfl⟩
      obtain ⟨v', hs1, hs2, hs3, hs4⟩ := hv2.slice Try.underlying23 tsize5 none (some (.int .i64 (rootLen l : Int))) 0 (rootLen l) rfl rfl (by omega) hrp.2
      have hlt : (l.take (rootLen l)).length = rootLen l := by simp; omega
      have hs5 : Src g2 v' 1 (l.take (rootLen l)).length (bs (l.take (rootLen l))) := by rw [hlt]; simpa using hs2
      have hcl := clone_spec v' (l.take (rootLen l)) g2 n (by omega) hs5
      have hce : cloneE v' (l.take (rootLen l)) n = { v := .slice (some ⟨n, 0, some (rootLen l)⟩) (rootLen l) 1, r := srcBlk v', j := n, a := [⟨false, 5, bs (l.take (rootLen l))⟩] } := by
        rw [cloneE, src_notnil hs5 (by omega), hlt]; rfl
      rw [hce] at hcl
      refine s_drawn #[0, 0, 3, 7, 0, 16, 0, 112, 15, 511] (by decide +kernel) ?_
      refine d_pure 3 (by simp only [runP, List.drop_succ_cons, List.drop_zero, awant_some, Option.getD_some, List.getElem?_toArray, List.getElem?_cons_succ, List.getElem?_cons_zero, Option.bind_some, b_tt, b_tf, b_ft, b_ff, Bool.not_true, Bool.not_false, List.take_succ_cons, List.take_zero, awant_none, astep, evl, put, ap_none, ap_new, ap_wr, List.length_nil, List.length_cons, Nat.add_zero, Nat.zero_add, upd_app, stepBin, abin, stepUn, stepPick, stepExtract, stepCall, if_true, if_false, reduceCtorEq, ↓reduceIte, Nat.reduceEqDiff, Nat.reduceAdd, List.map_cons, List.map_nil, Option.map_some, Option.map_none, Bool.false_eq_true, Int.reduceLE, Int.reduceToNat, ne_eq, not_false_eq_true, and_self, and_true, true_and, decide_true, decide_false, Int.reduceEq, Int.reduceLT, Int.reduceBEq, Int.reduceBNe, not_true_eq_false, undef, List.isEmpty_nil, Bool.and_self, Bool.and_true, t0, t4, hs1] <;> rfl) ?_
      refine d_call 44 _ rfl rfl rfl rfl hcl (by intro _; rfl) (by simp) (d_heap fun G hG => ?_)
      refine d_pure 6 (by simp only [runP, List.drop_succ_cons, List.drop_zero, awant_some, Option.getD_some, List.getElem?_toArray, List.getElem?_cons_succ, List.getElem?_cons_zero, Option.bind_some, b_tt, b_tf, b_ft, b_ff, Bool.not_true, Bool.not_false, List.take_succ_cons, List.take_zero, awant_none, astep, evl, put, ap_none, ap_new, ap_wr, List.length_nil, List.length_cons, Nat.add_zero, Nat.zero_add, upd_app, stepBin, abin, stepUn, stepPick, stepExtract, stepCall, if_true, if_false, reduceCtorEq, ↓reduceIte, Nat.reduceEqDiff, Nat.reduceAdd, List.map_cons, List.map_nil, Option.map_some, Option.map_none, Bool.false_eq_true, Int.reduceLE, Int.reduceToNat, ne_eq, not_false_eq_true, and_self, and_true, true_and, decide_true, decide_false, Int.reduceEq, Int.reduceLT, Int.reduceBEq, Int.reduceBNe, not_true_eq_false, undef, List.isEmpty_nil, Bool.and_self, Bool.and_true, t0, t4, hlen, hz', hdiv] <;> rfl) ?_
      refine w_ret ⟨.inr rfl, fun _ r hr => ?_, [n], fin_one ?_ ?_ (Nat.le_refl _) (by rw [hG]; simp [ap_new, upd_app]) plain_ints ?_⟩
      · simp only [List.mem_cons, List.not_mem_nil, or_false] at hr
        rcases hr with rfl | rfl <;> simp [upd_app, isTup]
      · simp [resVal, upd_app, renT, renA, ren1]
      · intro c hc
        simp at hc
        rcases hc with rfl | rfl
        · exact .inr (.inr rfl)
        · trivial
      · intro i b hb
        have := hs i (hwf i b hb).1
        rw [hG]
        simp [ap_new, upd_app, show i ≠ n by omega, hb]
end Go.Proofs.Ytokmmcfnpobldaa

namespace Go.Proofs.Ytokmmcfnpobldaa
open Go Abs
set_option linter.unusedSimpArgs false
set_option linter.unusedVariables false

set_option maxRecDepth 10000 in
/-- Two rows of ints, compared. -/
theorem ints_spec (v w : Value) (l m : List Int) (g : Heap) (hl : l.length ≤ 2 ^ 40) (hm : m.length ≤ 2 ^ 40) (hv : Src g v 1 l.length (l.map (Value.int .i64))) (hw : Src g w 1 m.length (m.map (Value.int .i64))) :
    FnSpec Try.prog 23 [v, w] g { v := .bool (decide (l = m)), r := srcBlk v ++ srcBlk w } := by
  refine spec_of_body [4] follows Try.func23 rfl (by kernel_rfl) (by simp [Try.f23]) (by kernel_rfl) rfl ?_
  intro g2 s2 n hg hfr hs hn hwf hsv
  have hv2 : Src g2 v 1 l.length (l.map (Value.int .i64)) := hv.congr fun i hi => hg i (by simp [Eff.fp, hi])
  have hw2 : Src g2 w 1 m.length (m.map (Value.int .i64)) := hw.congr fun i hi => hg i (by simp [Eff.fp, hi])
  have hlen := hv2.len Try.underlying36
  have hlen' := hw2.len Try.underlying36
  refine s_run (by simp only [runL, List.drop_succ_cons, List.drop_zero, awant_some, Option.getD_some, List.getElem?_toArray, List.getElem?_cons_succ, List.getElem?_cons_zero, Option.bind_some, b_tt, b_tf, b_ft, b_ff, Bool.not_true, Bool.not_false, List.take_succ_cons, List.take_zero, awant_none, astep, evl, put, ap_none, ap_new, ap_wr, List.length_nil, List.length_cons, Nat.add_zero, Nat.zero_add, upd_app, stepBin, abin, stepUn, stepPick, stepExtract, stepCall, if_true, if_false, reduceCtorEq, ↓reduceIte, Nat.reduceEqDiff, Nat.reduceAdd, List.map_cons, List.map_nil, Option.map_some, Option.map_none, Bool.false_eq_true, Int.reduceLE, Int.reduceToNat, ne_eq, not_false_eq_true, and_self, and_true, true_and, decide_true, decide_false, Int.reduceEq, Int.reduceLT, Int.reduceBEq, Int.reduceBNe, not_true_eq_false, undef] <;> rfl) ?_
  by_cases h0 : l.length = m.length
  · have d : ((l.length : Int) != (m.length : Int)) = false := by simp [h0]
    refine w_assoc (s_run (by simp only [runL, List.drop_succ_cons, List.drop_zero, awant_some, Option.getD_some, List.getElem?_toArray, List.getElem?_cons_succ, List.getElem?_cons_zero, Option.bind_some, b_tt, b_tf, b_ft, b_ff, Bool.not_true, Bool.not_false, List.take_succ_cons, List.take_zero, awant_none, astep, evl, put, ap_none, ap_new, ap_wr, List.length_nil, List.length_cons, Nat.add_zero, Nat.zero_add, upd_app, stepBin, abin, stepUn, stepPick, stepExtract, stepCall, if_true, if_false, reduceCtorEq, ↓reduceIte, Nat.reduceEqDiff, Nat.reduceAdd, List.map_cons, List.map_nil, Option.map_some, Option.map_none, Bool.false_eq_true, Int.reduceLE, Int.reduceToNat, ne_eq, not_false_eq_true, and_self, and_true, true_and, decide_true, decide_false, Int.reduceEq, Int.reduceLT, Int.reduceBEq, Int.reduceBNe, not_true_eq_false, undef, hlen, hlen', d] <;> rfl) ?_)
    refine s_false (by simp [evl, upd_app]) (s_skip ?_)
    refine w_assoc (s_run (by simp only [runL, List.drop_succ_cons, List.drop_zero, awant_some, Option.getD_some, List.getElem?_toArray, List.getElem?_cons_succ, List.getElem?_cons_zero, Option.bind_some, b_tt, b_tf, b_ft, b_ff, Bool.not_true, Bool.not_false, List.take_succ_cons, List.take_zero, awant_none, astep, evl, put, ap_none, ap_new, ap_wr, List.length_nil, List.length_cons, Nat.add_zero, Nat.zero_add, upd_app, stepBin, abin, stepUn, stepPick, stepExtract, stepCall, if_true, if_false, reduceCtorEq, ↓reduceIte, Nat.reduceEqDiff, Nat.reduceAdd, List.map_cons, List.map_nil, Option.map_some, Option.map_none, Bool.false_eq_true, Int.reduceLE, Int.reduceToNat, ne_eq, not_false_eq_true, and_self, and_true, true_and, decide_true, decide_false, Int.reduceEq, Int.reduceLT, Int.reduceBEq, Int.reduceBNe, not_true_eq_false, undef] <;> rfl) ?_)
    refine s_block (fun t g n' => l = m ∧ g2 = g) ?_ ?_
    · refine w_loop (fun t g n' => ∃ i : Nat, i ≤ l.length ∧ t 0 = v ∧ t 1 = w ∧ t 5 = .int .i64 i ∧ l.take i = m.take i ∧ g2 = g)
        (fun t _ _ => match t 5 with | .int _ i => l.length - i.toNat | _ => 0) ⟨0, by omega, by simp [upd_app], by simp [upd_app], by simp [upd_app], by simp, rfl⟩ ?_
      rintro t g n' ⟨i, hi, t0, t1, t5, heq, rfl⟩
      by_cases hlt : i < l.length
      · have d : decide ((i : Int) < (l.length : Int)) = true := by simp; exact hlt
        refine w_assoc (s_run (by simp only [runL, List.drop_succ_cons, List.drop_zero, awant_some, Option.getD_some, List.getElem?_toArray, List.getElem?_cons_succ, List.getElem?_cons_zero, Option.bind_some, b_tt, b_tf, b_ft, b_ff, Bool.not_true, Bool.not_false, List.take_succ_cons, List.take_zero, awant_none, astep, evl, put, ap_none, ap_new, ap_wr, List.length_nil, List.length_cons, Nat.add_zero, Nat.zero_add, upd_app, stepBin, abin, stepUn, stepPick, stepExtract, stepCall, if_true, if_false, reduceCtorEq, ↓reduceIte, Nat.reduceEqDiff, Nat.reduceAdd, List.map_cons, List.map_nil, Option.map_some, Option.map_none, Bool.false_eq_true, Int.reduceLE, Int.reduceToNat, ne_eq, not_false_eq_true, and_self, and_true, true_and, decide_true, decide_false, Int.reduceEq, Int.reduceLT, Int.reduceBEq, Int.reduceBNe, not_true_eq_false, undef, t0, t5, hlen, d] <;> rfl) ?_)
        refine s_true (by simp [evl, upd_app]) (s_skip (w_seq (w_block ?_)))
        have hlm : i < m.length := by omega
        obtain ⟨p, hp1, hp2, _⟩ := hv2.at1 (P := Try.prog) (i := i) (c := .int .i64 l[i]) (by simp [hlt]) Try.underlying36 tsize3 aggT3
        obtain ⟨q, hq1, hq2, _⟩ := hw2.at1 (P := Try.prog) (i := i) (c := .int .i64 m[i]) (by simp [hlm]) Try.underlying36 tsize3 aggT3
        have w2 : IntKind.i64.wrap ((i : Int) + 1) = ((i + 1 : Nat) : Int) := by rw [wrap64_of (by omega) (by omega)]; simp
        by_cases he : l[i] = m[i]
        · have d1 : (l[i] != m[i]) = false := by simp [he]
          refine s_draw #[0, 0, 3, 7, 0, 0, 48, 112, 255] (by decide +kernel) (by simp only [runR, List.drop_succ_cons, List.drop_zero, awant_some, Option.getD_some, List.getElem?_toArray, List.getElem?_cons_succ, List.getElem?_cons_zero, Option.bind_some, b_tt, b_tf, b_ft, b_ff, Bool.not_true, Bool.not_false, List.take_succ_cons, List.take_zero, awant_none, astep, evl, put, ap_none, ap_new, ap_wr, List.length_nil, List.length_cons, Nat.add_zero, Nat.zero_add, upd_app, stepBin, abin, stepUn, stepPick, stepExtract, stepCall, if_true, if_false, reduceCtorEq, ↓reduceIte, Nat.reduceEqDiff, Nat.reduceAdd, List.map_cons, List.map_nil, Option.map_some, Option.map_none, Bool.false_eq_true, Int.reduceLE, Int.reduceToNat, ne_eq, not_false_eq_true, and_self, and_true, true_and, decide_true, decide_false, Int.reduceEq, Int.reduceLT, Int.reduceBEq, Int.reduceBNe, not_true_eq_false, undef, List.isEmpty_nil, Bool.and_self, Bool.and_true, t0, t1, t5, hp1, hp2, hq1, hq2, d1] <;> rfl) ?_
          refine w_false (by simp [evl, upd_app]) (w_skip ?_)
          refine region_run (id := 5) (by simp only [runL, List.drop_succ_cons, List.drop_zero, awant_some, Option.getD_some, List.getElem?_toArray, List.getElem?_cons_succ, List.getElem?_cons_zero, Option.bind_some, b_tt, b_tf, b_ft, b_ff, Bool.not_true, Bool.not_false, List.take_succ_cons, List.take_zero, awant_none, astep, evl, put, ap_none, ap_new, ap_wr, List.length_nil, List.length_cons, Nat.add_zero, Nat.zero_add, upd_app, stepBin, abin, stepUn, stepPick, stepExtract, stepCall, if_true, if_false, reduceCtorEq, ↓reduceIte, Nat.reduceEqDiff, Nat.reduceAdd, List.map_cons, List.map_nil, Option.map_some, Option.map_none, Bool.false_eq_true, Int.reduceLE, Int.reduceToNat, ne_eq, not_false_eq_true, and_self, and_true, true_and, decide_true, decide_false, Int.reduceEq, Int.reduceLT, Int.reduceBEq, Int.reduceBNe, not_true_eq_false, undef, t5, w2] <;> rfl) ?_
          refine ⟨⟨i + 1, by omega, by simp [upd_app, t0], by simp [upd_app, t1], by simp [upd_app], ?_, rfl⟩, ?_⟩
          · rw [List.take_succ_eq_append_getElem hlt, List.take_succ_eq_append_getElem hlm, heq, he]
          · rw [t5]
            simp only [upd_app, if_true, Int.toNat_natCast]
            omega
        · have d1 : (l[i] != m[i]) = true := by simp [he]
          refine s_draw #[0, 0, 3, 7, 0, 0, 48, 112, 255] (by decide +kernel) (by simp only [runR, List.drop_succ_cons, List.drop_zero, awant_some, Option.getD_some, List.getElem?_toArray, List.getElem?_cons_succ, List.getElem?_cons_zero, Option.bind_some, b_tt, b_tf, b_ft, b_ff, Bool.not_true, Bool.not_false, List.take_succ_cons, List.take_zero, awant_none, astep, evl, put, ap_none, ap_new, ap_wr, List.length_nil, List.length_cons, Nat.add_zero, Nat.zero_add, upd_app, stepBin, abin, stepUn, stepPick, stepExtract, stepCall, if_true, if_false, reduceCtorEq, ↓reduceIte, Nat.reduceEqDiff, Nat.reduceAdd, List.map_cons, List.map_nil, Option.map_some, Option.map_none, Bool.false_eq_true, Int.reduceLE, Int.reduceToNat, ne_eq, not_false_eq_true, and_self, and_true, true_and, decide_true, decide_false, Int.reduceEq, Int.reduceLT, Int.reduceBEq, Int.reduceBNe, not_true_eq_false, undef, List.isEmpty_nil, Bool.and_self, Bool.and_true, t0, t1, t5, hp1, hp2, hq1, hq2, d1] <;> rfl) ?_
          refine w_true (by simp [evl, upd_app]) ?_
          refine s_run (by simp only [runL, List.drop_succ_cons, List.drop_zero, awant_some, Option.getD_some, List.getElem?_toArray, List.getElem?_cons_succ, List.getElem?_cons_zero, Option.bind_some, b_tt, b_tf, b_ft, b_ff, Bool.not_true, Bool.not_false, List.take_succ_cons, List.take_zero, awant_none, astep, evl, put, ap_none, ap_new, ap_wr, List.length_nil, List.length_cons, Nat.add_zero, Nat.zero_add, upd_app, stepBin, abin, stepUn, stepPick, stepExtract, stepCall, if_true, if_false, reduceCtorEq, ↓reduceIte, Nat.reduceEqDiff, Nat.reduceAdd, List.map_cons, List.map_nil, Option.map_some, Option.map_none, Bool.false_eq_true, Int.reduceLE, Int.reduceToNat, ne_eq, not_false_eq_true, and_self, and_true, true_and, decide_true, decide_false, Int.reduceEq, Int.reduceLT, Int.reduceBEq, Int.reduceBNe, not_true_eq_false, undef] <;> rfl) ?_
          refine w_ret ⟨.inr rfl, by simp, [], fin_none ?_ trivial (fun _ _ h => h)⟩
          have : l ≠ m := fun e => he (by subst e; rfl)
          simp [resVal, upd_app, this]
      · have d : decide ((i : Int) < (l.length : Int)) = false := by simp; omega
        refine w_assoc (s_run (by simp only [runL, List.drop_succ_cons, List.drop_zero, awant_some, Option.getD_some, List.getElem?_toArray, List.getElem?_cons_succ, List.getElem?_cons_zero, Option.bind_some, b_tt, b_tf, b_ft, b_ff, Bool.not_true, Bool.not_false, List.take_succ_cons, List.take_zero, awant_none, astep, evl, put, ap_none, ap_new, ap_wr, List.length_nil, List.length_cons, Nat.add_zero, Nat.zero_add, upd_app, stepBin, abin, stepUn, stepPick, stepExtract, stepCall, if_true, if_false, reduceCtorEq, ↓reduceIte, Nat.reduceEqDiff, Nat.reduceAdd, List.map_cons, List.map_nil, Option.map_some, Option.map_none, Bool.false_eq_true, Int.reduceLE, Int.reduceToNat, ne_eq, not_false_eq_true, and_self, and_true, true_and, decide_true, decide_false, Int.reduceEq, Int.reduceLT, Int.reduceBEq, Int.reduceBNe, not_true_eq_false, undef, t0, t5, hlen, d] <;> rfl) ?_)
        refine s_false (by simp [evl, upd_app]) (s_exit ?_)
        refine ⟨?_, rfl⟩
        rwa [List.take_of_length_le (by omega), List.take_of_length_le (by omega)] at heq
    · rintro t g n' ⟨h1, rfl⟩
      refine s_run (by simp only [runL, List.drop_succ_cons, List.drop_zero, awant_some, Option.getD_some, List.getElem?_toArray, List.getElem?_cons_succ, List.getElem?_cons_zero, Option.bind_some, b_tt, b_tf, b_ft, b_ff, Bool.not_true, Bool.not_false, List.take_succ_cons, List.take_zero, awant_none, astep, evl, put, ap_none, ap_new, ap_wr, List.length_nil, List.length_cons, Nat.add_zero, Nat.zero_add, upd_app, stepBin, abin, stepUn, stepPick, stepExtract, stepCall, if_true, if_false, reduceCtorEq, ↓reduceIte, Nat.reduceEqDiff, Nat.reduceAdd, List.map_cons, List.map_nil, Option.map_some, Option.map_none, Bool.false_eq_true, Int.reduceLE, Int.reduceToNat, ne_eq, not_false_eq_true, and_self, and_true, true_and, decide_true, decide_false, Int.reduceEq, Int.reduceLT, Int.reduceBEq, Int.reduceBNe, not_true_eq_false, undef] <;> rfl) ?_
      refine w_ret ⟨.inr rfl, by simp, [], fin_none ?_ trivial (fun _ _ h => h)⟩
      simp [resVal, upd_app, h1]
  · have d : ((l.length : Int) != (m.length : Int)) = true := by simp; omega
    refine w_assoc (s_run (by simp only [runL, List.drop_succ_cons, List.drop_zero, awant_some, Option.getD_some, List.getElem?_toArray, List.getElem?_cons_succ, List.getElem?_cons_zero, Option.bind_some, b_tt, b_tf, b_ft, b_ff, Bool.not_true, Bool.not_false, List.take_succ_cons, List.take_zero, awant_none, astep, evl, put, ap_none, ap_new, ap_wr, List.length_nil, List.length_cons, Nat.add_zero, Nat.zero_add, upd_app, stepBin, abin, stepUn, stepPick, stepExtract, stepCall, if_true, if_false, reduceCtorEq, ↓reduceIte, Nat.reduceEqDiff, Nat.reduceAdd, List.map_cons, List.map_nil, Option.map_some, Option.map_none, Bool.false_eq_true, Int.reduceLE, Int.reduceToNat, ne_eq, not_false_eq_true, and_self, and_true, true_and, decide_true, decide_false, Int.reduceEq, Int.reduceLT, Int.reduceBEq, Int.reduceBNe, not_true_eq_false, undef, hlen, hlen', d] <;> rfl) ?_)
    refine s_true (by simp [evl, upd_app]) (w_assoc (s_run (by simp only [runL, List.drop_succ_cons, List.drop_zero, awant_some, Option.getD_some, List.getElem?_toArray, List.getElem?_cons_succ, List.getElem?_cons_zero, Option.bind_some, b_tt, b_tf, b_ft, b_ff, Bool.not_true, Bool.not_false, List.take_succ_cons, List.take_zero, awant_none, astep, evl, put, ap_none, ap_new, ap_wr, List.length_nil, List.length_cons, Nat.add_zero, Nat.zero_add, upd_app, stepBin, abin, stepUn, stepPick, stepExtract, stepCall, if_true, if_false, reduceCtorEq, ↓reduceIte, Nat.reduceEqDiff, Nat.reduceAdd, List.map_cons, List.map_nil, Option.map_some, Option.map_none, Bool.false_eq_true, Int.reduceLE, Int.reduceToNat, ne_eq, not_false_eq_true, and_self, and_true, true_and, decide_true, decide_false, Int.reduceEq, Int.reduceLT, Int.reduceBEq, Int.reduceBNe, not_true_eq_false, undef] <;> rfl) ?_))
    refine s_ret ⟨.inr rfl, by simp, [], fin_none ?_ trivial (fun _ _ h => h)⟩
    have : l ≠ m := fun e => h0 (by rw [e])
    simp [resVal, upd_app, this]
end Go.Proofs.Ytokmmcfnpobldaa

namespace Go.Proofs.Ytokmmcfnpobldaa
open Go Abs
set_option linter.unusedSimpArgs false
set_option linter.unusedVariables false

theorem brd_drop {l : List Nat} {p : Nat} (h1 : 1 ≤ p) (h2 : p ≤ l.length) : brd l l.length (l.length - p) ↔ l.drop p = l.take (l.length - p) := by
  rw [brd_iff (Nat.le_refl _) (by omega), show l.length - (l.length - p) = p by omega, List.take_of_length_le (l := l.drop p) (by simp)]
  exact eq_comm

theorem least_eq {l : List Nat} {p : Nat} (h1 : 1 ≤ p) (h2 : p ≤ l.length) (hb : brd l l.length (l.length - p)) (hn : ∀ q, 1 ≤ q → q < p → ¬ brd l l.length (l.length - q)) : least l = p := by
  have : mx l l.length = l.length - p := mx_eq hb fun j hj => by
    have h3 := hj.1
    rcases Nat.lt_or_ge (l.length - p) j with h4 | h4
    · exfalso
      refine hn (l.length - j) (by omega) (by omega) ?_
      rw [show l.length - (l.length - j) = j by omega]
      exact hj
    · exact h4
  rw [least, if_neg (by omega), this]; omega

set_option maxRecDepth 10000 in
theorem rleast_spec (v : Value) (l : List Nat) (g : Heap) (hl : l.length ≤ 2 ^ 40) (hb : ∀ x ∈ l, x < 256) (hv : Src g v 1 l.length (bs l)) : FnSpec Try.prog 27 [v] g { v := .int .i64 (least l), r := srcBlk v } := by
  refine spec_of_body [2] follows Try.func27 rfl (by kernel_rfl) (by simp [Try.f27]) (by kernel_rfl) rfl ?_
  intro g2 s2 n hg hfr hs hn hwf hsv
  have hv2 : Src g2 v 1 l.length (bs l) := hv.congr fun i hi => hg i (by simp [Eff.fp, hi])
  have hlen := hv2.len Try.underlying23
  refine s_run (by simp only [runL, List.drop_succ_cons, List.drop_zero, awant_some, Option.getD_some, List.getElem?_toArray, List.getElem?_cons_succ, List.getElem?_cons_zero, Option.bind_some, b_tt, b_tf, b_ft, b_ff, Bool.not_true, Bool.not_false, List.take_succ_cons, List.take_zero, awant_none, astep, evl, put, ap_none, ap_new, ap_wr, List.length_nil, List.length_cons, Nat.add_zero, Nat.zero_add, upd_app, stepBin, abin, stepUn, stepPick, stepExtract, stepCall, if_true, if_false, reduceCtorEq, ↓reduceIte, Nat.reduceEqDiff, Nat.reduceAdd, List.map_cons, List.map_nil, Option.map_some, Option.map_none, Bool.false_eq_true, Int.reduceLE, Int.reduceToNat, ne_eq, not_false_eq_true, and_self, and_true, true_and, decide_true, decide_false, Int.reduceEq, Int.reduceLT, Int.reduceBEq, Int.reduceBNe, not_true_eq_false, undef] <;> rfl) ?_
  refine w_assoc (s_run (by simp only [runL, List.drop_succ_cons, List.drop_zero, awant_some, Option.getD_some, List.getElem?_toArray, List.getElem?_cons_succ, List.getElem?_cons_zero, Option.bind_some, b_tt, b_tf, b_ft, b_ff, Bool.not_true, Bool.not_false, List.take_succ_cons, List.take_zero, awant_none, astep, evl, put, ap_none, ap_new, ap_wr, List.length_nil, List.length_cons, Nat.add_zero, Nat.zero_add, upd_app, stepBin, abin, stepUn, stepPick, stepExtract, stepCall, if_true, if_false, reduceCtorEq, ↓reduceIte, Nat.reduceEqDiff, Nat.reduceAdd, List.map_cons, List.map_nil, Option.map_some, Option.map_none, Bool.false_eq_true, Int.reduceLE, Int.reduceToNat, ne_eq, not_false_eq_true, and_self, and_true, true_and, decide_true, decide_false, Int.reduceEq, Int.reduceLT, Int.reduceBEq, Int.reduceBNe, not_true_eq_false, undef] <;> rfl) ?_)
  refine s_block (fun t g n' => l.length = 0 ∧ g2 = g) ?_ ?_
  · refine w_loop (fun t g n' => ∃ p : Nat, 1 ≤ p ∧ p ≤ l.length + 1 ∧ t 0 = v ∧ t 3 = .int .i64 p ∧ (∀ q, 1 ≤ q → q < p → ¬ brd l l.length (l.length - q)) ∧ g2 = g)
      (fun t _ _ => match t 3 with | .int _ i => l.length + 1 - i.toNat | _ => 0) ⟨1, by omega, by omega, by simp [upd_app], by simp [upd_app], fun q h1 h2 => by omega, rfl⟩ ?_
    rintro t g n' ⟨p, hp1, hp2, t0, t3, hno, rfl⟩
    by_cases hle : p ≤ l.length
    · have d : decide ((p : Int) ≤ (l.length : Int)) = true := by simp; exact hle
      refine w_assoc (s_run (by simp only [runL, List.drop_succ_cons, List.drop_zero, awant_some, Option.getD_some, List.getElem?_toArray, List.getElem?_cons_succ, List.getElem?_cons_zero, Option.bind_some, b_tt, b_tf, b_ft, b_ff, Bool.not_true, Bool.not_false, List.take_succ_cons, List.take_zero, awant_none, astep, evl, put, ap_none, ap_new, ap_wr, List.length_nil, List.length_cons, Nat.add_zero, Nat.zero_add, upd_app, stepBin, abin, stepUn, stepPick, stepExtract, stepCall, if_true, if_false, reduceCtorEq, ↓reduceIte, Nat.reduceEqDiff, Nat.reduceAdd, List.map_cons, List.map_nil, Option.map_some, Option.map_none, Bool.false_eq_true, Int.reduceLE, Int.reduceToNat, ne_eq, not_false_eq_true, and_self, and_true, true_and, decide_true, decide_false, Int.reduceEq, Int.reduceLT, Int.reduceBEq, Int.reduceBNe, not_true_eq_false, undef, t0, t3, hlen, d] <;> rfl) ?_)
      refine s_true (by simp [evl, upd_app]) (s_skip (w_seq (w_block ?_)))
      obtain ⟨v1, a1, a2, _, _⟩ := hv2.slice Try.underlying23 tsize5 (some (.int .i64 (p : Int))) none p l.length rfl rfl hle (Nat.le_refl _)
      obtain ⟨v2, b1, b2, _, _⟩ := hv2.slice Try.underlying23 tsize5 none (some (.int .i64 ((l.length - p : Nat) : Int))) 0 (l.length - p) rfl rfl (by omega) (by omega)
      have a3 : Src g2 v1 1 (l.drop p).length (bs (l.drop p)) := by
        have h1 : (bs l).drop p = bs (l.drop p) := List.map_drop.symm
        have h2 : (bs (l.drop p)).take (l.length - p) = bs (l.drop p) := List.take_of_length_le (by simp)
        rw [Nat.mul_one, Nat.mul_one, h1, h2] at a2
        rw [List.length_drop]
        exact a2
      have b3 : Src g2 v2 1 (l.take (l.length - p)).length (bs (l.take (l.length - p))) := by
        have : (l.take (l.length - p)).length = l.length - p := by simp
        rw [this]; simpa using b2
      obtain ⟨r1, x1, _⟩ := src_str a3
      obtain ⟨r2, x2, _⟩ := src_str b3
      have w1 : IntKind.i64.wrap ((l.length : Int) - (p : Int)) = ((l.length - p : Nat) : Int) := by rw [wrap64_of (by omega) (by omega)]; omega
      have w2 : IntKind.i64.wrap ((p : Int) + 1) = ((p + 1 : Nat) : Int) := by rw [wrap64_of (by omega) (by omega)]; simp
      have hq := nstr_beq (a := l.drop p) (b := l.take (l.length - p)) (fun x hx => hb x (List.mem_of_mem_drop hx)) (fun x hx => hb x (List.mem_of_mem_take hx))
      by_cases he : l.drop p = l.take (l.length - p)
      · rw [decide_eq_true he] at hq
        refine s_draw #[0, 0, 3, 7, 0, 0, 32, 0, 224, 496, 1008, 2047] (by decide +kernel) (by simp only [runR, List.drop_succ_cons, List.drop_zero, awant_some, Option.getD_some, List.getElem?_toArray, List.getElem?_cons_succ, List.getElem?_cons_zero, Option.bind_some, b_tt, b_tf, b_ft, b_ff, Bool.not_true, Bool.not_false, List.take_succ_cons, List.take_zero, awant_none, astep, evl, put, ap_none, ap_new, ap_wr, List.length_nil, List.length_cons, Nat.add_zero, Nat.zero_add, upd_app, stepBin, abin, stepUn, stepPick, stepExtract, stepCall, if_true, if_false, reduceCtorEq, ↓reduceIte, Nat.reduceEqDiff, Nat.reduceAdd, List.map_cons, List.map_nil, Option.map_some, Option.map_none, Bool.false_eq_true, Int.reduceLE, Int.reduceToNat, ne_eq, not_false_eq_true, and_self, and_true, true_and, decide_true, decide_false, Int.reduceEq, Int.reduceLT, Int.reduceBEq, Int.reduceBNe, not_true_eq_false, undef, List.isEmpty_nil, Bool.and_self, Bool.and_true, t0, t3, hlen, a1, x1, w1, b1, x2, hq] <;> rfl) ?_
        refine w_true (by simp [evl, upd_app]) ?_
        refine s_run (by simp only [runL, List.drop_succ_cons, List.drop_zero, awant_some, Option.getD_some, List.getElem?_toArray, List.getElem?_cons_succ, List.getElem?_cons_zero, Option.bind_some, b_tt, b_tf, b_ft, b_ff, Bool.not_true, Bool.not_false, List.take_succ_cons, List.take_zero, awant_none, astep, evl, put, ap_none, ap_new, ap_wr, List.length_nil, List.length_cons, Nat.add_zero, Nat.zero_add, upd_app, stepBin, abin, stepUn, stepPick, stepExtract, stepCall, if_true, if_false, reduceCtorEq, ↓reduceIte, Nat.reduceEqDiff, Nat.reduceAdd, List.map_cons, List.map_nil, Option.map_some, Option.map_none, Bool.false_eq_true, Int.reduceLE, Int.reduceToNat, ne_eq, not_false_eq_true, and_self, and_true, true_and, decide_true, decide_false, Int.reduceEq, Int.reduceLT, Int.reduceBEq, Int.reduceBNe, not_true_eq_false, undef, t3] <;> rfl) ?_
        refine w_ret ⟨.inr rfl, by simp, [], fin_none ?_ trivial (fun _ _ h => h)⟩
        simp [resVal, upd_app, least_eq hp1 hle ((brd_drop hp1 hle).2 he) hno]
      · rw [decide_eq_false he] at hq
        refine s_draw #[0, 0, 3, 7, 0, 0, 32, 0, 224, 496, 1008, 2047] (by decide +kernel) (by simp only [runR, List.drop_succ_cons, List.drop_zero, awant_some, Option.getD_some, List.getElem?_toArray, List.getElem?_cons_succ, List.getElem?_cons_zero, Option.bind_some, b_tt, b_tf, b_ft, b_ff, Bool.not_true, Bool.not_false, List.take_succ_cons, List.take_zero, awant_none, astep, evl, put, ap_none, ap_new, ap_wr, List.length_nil, List.length_cons, Nat.add_zero, Nat.zero_add, upd_app, stepBin, abin, stepUn, stepPick, stepExtract, stepCall, if_true, if_false, reduceCtorEq, ↓reduceIte, Nat.reduceEqDiff, Nat.reduceAdd, List.map_cons, List.map_nil, Option.map_some, Option.map_none, Bool.false_eq_true, Int.reduceLE, Int.reduceToNat, ne_eq, not_false_eq_true, and_self, and_true, true_and, decide_true, decide_false, Int.reduceEq, Int.reduceLT, Int.reduceBEq, Int.reduceBNe, not_true_eq_false, undef, List.isEmpty_nil, Bool.and_self, Bool.and_true, t0, t3, hlen, a1, x1, w1, b1, x2, hq] <;> rfl) ?_
        refine w_false (by simp [evl, upd_app]) (w_skip ?_)
        refine region_run (id := 3) (by simp only [runL, List.drop_succ_cons, List.drop_zero, awant_some, Option.getD_some, List.getElem?_toArray, List.getElem?_cons_succ, List.getElem?_cons_zero, Option.bind_some, b_tt, b_tf, b_ft, b_ff, Bool.not_true, Bool.not_false, List.take_succ_cons, List.take_zero, awant_none, astep, evl, put, ap_none, ap_new, ap_wr, List.length_nil, List.length_cons, Nat.add_zero, Nat.zero_add, upd_app, stepBin, abin, stepUn, stepPick, stepExtract, stepCall, if_true, if_false, reduceCtorEq, ↓reduceIte, Nat.reduceEqDiff, Nat.reduceAdd, List.map_cons, List.map_nil, Option.map_some, Option.map_none, Bool.false_eq_true, Int.reduceLE, Int.reduceToNat, ne_eq, not_false_eq_true, and_self, and_true, true_and, decide_true, decide_false, Int.reduceEq, Int.reduceLT, Int.reduceBEq, Int.reduceBNe, not_true_eq_false, undef, t3, w2] <;> rfl) ?_
        refine ⟨⟨p + 1, by omega, by omega, by simp [upd_app, t0], by simp [upd_app], fun q h1 h2 => ?_, rfl⟩, ?_⟩
        · by_cases e : q = p
          · rw [e]; exact fun h => he ((brd_drop hp1 hle).1 h)
          · exact hno q h1 (by omega)
        · rw [t3]
          simp only [upd_app, if_true, Int.toNat_natCast]
          omega
    · have d : decide ((p : Int) ≤ (l.length : Int)) = false := by simp; omega
      refine w_assoc (s_run (by simp only [runL, List.drop_succ_cons, List.drop_zero, awant_some, Option.getD_some, List.getElem?_toArray, List.getElem?_cons_succ, List.getElem?_cons_zero, Option.bind_some, b_tt, b_tf, b_ft, b_ff, Bool.not_true, Bool.not_false, List.take_succ_cons, List.take_zero, awant_none, astep, evl, put, ap_none, ap_new, ap_wr, List.length_nil, List.length_cons, Nat.add_zero, Nat.zero_add, upd_app, stepBin, abin, stepUn, stepPick, stepExtract, stepCall, if_true, if_false, reduceCtorEq, ↓reduceIte, Nat.reduceEqDiff, Nat.reduceAdd, List.map_cons, List.map_nil, Option.map_some, Option.map_none, Bool.false_eq_true, Int.reduceLE, Int.reduceToNat, ne_eq, not_false_eq_true, and_self, and_true, true_and, decide_true, decide_false, Int.reduceEq, Int.reduceLT, Int.reduceBEq, Int.reduceBNe, not_true_eq_false, undef, t0, t3, hlen, d] <;> rfl) ?_)
      refine s_false (by simp [evl, upd_app]) (s_exit ?_)
      refine ⟨?_, rfl⟩
      rcases Nat.eq_zero_or_pos l.length with h | h
      · exact h
      · exfalso
        refine hno l.length (by omega) (by omega) ?_
        rw [Nat.sub_self]
        exact brd_zero h
  · rintro t g n' ⟨h1, rfl⟩
    refine s_run (by simp only [runL, List.drop_succ_cons, List.drop_zero, awant_some, Option.getD_some, List.getElem?_toArray, List.getElem?_cons_succ, List.getElem?_cons_zero, Option.bind_some, b_tt, b_tf, b_ft, b_ff, Bool.not_true, Bool.not_false, List.take_succ_cons, List.take_zero, awant_none, astep, evl, put, ap_none, ap_new, ap_wr, List.length_nil, List.length_cons, Nat.add_zero, Nat.zero_add, upd_app, stepBin, abin, stepUn, stepPick, stepExtract, stepCall, if_true, if_false, reduceCtorEq, ↓reduceIte, Nat.reduceEqDiff, Nat.reduceAdd, List.map_cons, List.map_nil, Option.map_some, Option.map_none, Bool.false_eq_true, Int.reduceLE, Int.reduceToNat, ne_eq, not_false_eq_true, and_self, and_true, true_and, decide_true, decide_false, Int.reduceEq, Int.reduceLT, Int.reduceBEq, Int.reduceBNe, not_true_eq_false, undef] <;> rfl) ?_
    refine w_ret ⟨.inr rfl, by simp, [], fin_none ?_ trivial (fun _ _ h => h)⟩
    simp [resVal, upd_app, least, h1]
end Go.Proofs.Ytokmmcfnpobldaa
