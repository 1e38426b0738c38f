import Derived.Test.YtokmmcfnpobldaaV19
namespace Go.Proofs.Ytokmmcfnpobldaa
open Go Abs
set_option linter.unusedSimpArgs false
set_option linter.unusedVariables false

set_option maxRecDepth 10000 in
theorem borders_spec (v : Value) (l : List Nat) (g : Heap) (j : Nat) (hl : l.length ≤ 2 ^ 40) (hv : Src g v 1 l.length (bs l)) : FnSpec Try.prog 24 [v] g { v := .slice (some ⟨j, 0, some l.length⟩) l.length 1, r := srcBlk v, j := j, a := [⟨false, 3, ints (borders l)⟩] } := by
  refine spec_of_body [2] follows Try.func24 rfl (by kernel_rfl) (by simp [Try.f24]) (by kernel_rfl) rfl ?_
  intro g2 s2 n hg hfr hs hn hwf hsv
  have hv2 : Src g2 v 1 l.length (bs l) := hv.congr fun i hi => hg i (by simp [Eff.fp, hi])
  have hlen := hv2.len Try.underlying23
  have hdom : ∀ i ∈ srcBlk v, i < n := fun i hi => by
    obtain ⟨b, hb⟩ := Option.isSome_iff_exists.1 (hv2.dom i hi)
    exact hs i (hwf i b hb).1
  refine s_run (by simp only [runL, List.drop_succ_cons, List.drop_zero, awant_some, Option.getD_some, List.getElem?_toArray, List.getElem?_cons_succ, List.getElem?_cons_zero, Option.bind_some, b_tt, b_tf, b_ft, b_ff, Bool.not_true, Bool.not_false, List.take_succ_cons, List.take_zero, awant_none, astep, evl, put, ap_none, ap_new, ap_wr, List.length_nil, List.length_cons, Nat.add_zero, Nat.zero_add, upd_app, stepBin, abin, stepUn, stepPick, stepExtract, stepCall, if_true, if_false, reduceCtorEq, ↓reduceIte, Nat.reduceEqDiff, Nat.reduceAdd, List.map_cons, List.map_nil, Option.map_some, Option.map_none, Bool.false_eq_true, Int.reduceLE, Int.reduceToNat, ne_eq, not_false_eq_true, and_self, and_true, true_and, decide_true, decide_false] <;> rfl) ?_
  refine s_run (by simp only [runL, List.drop_succ_cons, List.drop_zero, awant_some, Option.getD_some, List.getElem?_toArray, List.getElem?_cons_succ, List.getElem?_cons_zero, Option.bind_some, b_tt, b_tf, b_ft, b_ff, Bool.not_true, Bool.not_false, List.take_succ_cons, List.take_zero, awant_none, astep, evl, put, ap_none, ap_new, ap_wr, List.length_nil, List.length_cons, Nat.add_zero, Nat.zero_add, upd_app, stepBin, abin, stepUn, stepPick, stepExtract, stepCall, if_true, if_false, reduceCtorEq, ↓reduceIte, Nat.reduceEqDiff, Nat.reduceAdd, List.map_cons, List.map_nil, Option.map_some, Option.map_none, Bool.false_eq_true, Int.reduceLE, Int.reduceToNat, ne_eq, not_false_eq_true, and_self, and_true, true_and, decide_true, decide_false, hlen, mkInts l.length n hl] <;> rfl) (w_heap fun G hG => ?_)
  refine s_run (by simp only [runL, List.drop_succ_cons, List.drop_zero, awant_some, Option.getD_some, List.getElem?_toArray, List.getElem?_cons_succ, List.getElem?_cons_zero, Option.bind_some, b_tt, b_tf, b_ft, b_ff, Bool.not_true, Bool.not_false, List.take_succ_cons, List.take_zero, awant_none, astep, evl, put, ap_none, ap_new, ap_wr, List.length_nil, List.length_cons, Nat.add_zero, Nat.zero_add, upd_app, stepBin, abin, stepUn, stepPick, stepExtract, stepCall, if_true, if_false, reduceCtorEq, ↓reduceIte, Nat.reduceEqDiff, Nat.reduceAdd, List.map_cons, List.map_nil, Option.map_some, Option.map_none, Bool.false_eq_true, Int.reduceLE, Int.reduceToNat, ne_eq, not_false_eq_true, and_self, and_true, true_and, decide_true, decide_false] <;> rfl) ?_
  refine w_assoc (s_run (by simp only [runL, List.drop_succ_cons, List.drop_zero, awant_some, Option.getD_some, List.getElem?_toArray, List.getElem?_cons_succ, List.getElem?_cons_zero, Option.bind_some, b_tt, b_tf, b_ft, b_ff, Bool.not_true, Bool.not_false, List.take_succ_cons, List.take_zero, awant_none, astep, evl, put, ap_none, ap_new, ap_wr, List.length_nil, List.length_cons, Nat.add_zero, Nat.zero_add, upd_app, stepBin, abin, stepUn, stepPick, stepExtract, stepCall, if_true, if_false, reduceCtorEq, ↓reduceIte, Nat.reduceEqDiff, Nat.reduceAdd, List.map_cons, List.map_nil, Option.map_some, Option.map_none, Bool.false_eq_true, Int.reduceLE, Int.reduceToNat, ne_eq, not_false_eq_true, and_self, and_true, true_and, decide_true, decide_false] <;> rfl) ?_)
  refine s_block (fun t g n' => t 3 = .slice (some ⟨n, 0, some l.length⟩) l.length 1 ∧ g n = some ⟨false, 3, ints (borders l)⟩ ∧ (∀ i, i < n → g i = g2 i)) ?_ ?_
  · refine w_loop (fun t g n' => ∃ i : Nat, 1 ≤ i ∧ i ≤ l.length + 1 ∧ t 0 = v ∧ t 3 = .slice (some ⟨n, 0, some l.length⟩) l.length 1 ∧ t 4 = .int .i64 (mx l i) ∧ t 5 = .int .i64 i ∧ g n = some ⟨false, 3, ints (rowAt l i)⟩ ∧ (∀ i, i < n → g i = g2 i))
      (fun t _ _ => match t 5 with | .int _ i => l.length + 1 - i.toNat | _ => 0)
      ⟨1, by omega, by omega, by simp [upd_app], by simp [upd_app], by
        have := mx_lt (s := l) (n := 1) (by omega)
        simp [upd_app]; omega, by simp [upd_app], by rw [hG, rowAt_one]; simp [upd_app], fun i hi => by rw [hG]; simp [upd_app]; omega⟩ ?_
    rintro t g n' ⟨i, hi1, hil, t0, t3, t4, t5, hgn, hgo⟩
    have hvg : Src g v 1 l.length (bs l) := hv2.congr fun k hk => hgo k (hdom k hk)
    by_cases hlt : i < l.length
    · have d : decide ((i : Int) < (l.length : Int)) = true := by simp; exact hlt
      refine w_assoc (s_run (by simp only [runL, List.drop_succ_cons, List.drop_zero, awant_some, Option.getD_some, List.getElem?_toArray, List.getElem?_cons_succ, List.getElem?_cons_zero, Option.bind_some, b_tt, b_tf, b_ft, b_ff, Bool.not_true, Bool.not_false, List.take_succ_cons, List.take_zero, awant_none, astep, evl, put, ap_none, ap_new, ap_wr, List.length_nil, List.length_cons, Nat.add_zero, Nat.zero_add, upd_app, stepBin, abin, stepUn, stepPick, stepExtract, stepCall, if_true, if_false, reduceCtorEq, ↓reduceIte, Nat.reduceEqDiff, Nat.reduceAdd, List.map_cons, List.map_nil, Option.map_some, Option.map_none, Bool.false_eq_true, Int.reduceLE, Int.reduceToNat, ne_eq, not_false_eq_true, and_self, and_true, true_and, decide_true, decide_false, t0, t5, hlen, d] <;> rfl) ?_)
      refine s_true (by simp [evl, upd_app]) (s_skip (w_seq (w_block ?_)))
      refine s_block (fun t g n' => ∃ m : Nat, seek l i m ∧ (m = 0 ∨ byt l i = byt l m) ∧ t 0 = v ∧ t 3 = .slice (some ⟨n, 0, some l.length⟩) l.length 1 ∧ t 4 = .int .i64 m ∧ t 5 = .int .i64 i ∧ g n = some ⟨false, 3, ints (rowAt l i)⟩ ∧ (∀ i, i < n → g i = g2 i)) ?_ ?_
      · refine w_loop (fun t g n' => ∃ m : Nat, seek l i m ∧ t 0 = v ∧ t 3 = .slice (some ⟨n, 0, some l.length⟩) l.length 1 ∧ t 4 = .int .i64 m ∧ t 5 = .int .i64 i ∧ g n = some ⟨false, 3, ints (rowAt l i)⟩ ∧ (∀ i, i < n → g i = g2 i))
          (fun t _ _ => match t 4 with | .int _ m => m.toNat | _ => 0) ⟨mx l i, seek_start (by omega), by simp [upd_app, t0], by simp [upd_app, t3], by simp [upd_app, t4], by simp [upd_app, t5], hgn, hgo⟩ ?_
        clear t0 t3 t4 t5 hgn hgo hvg
        rintro t g n' ⟨m, hsk, t0, t3, t4, t5, hgn, hgo⟩
        have hvg : Src g v 1 l.length (bs l) := hv2.congr fun k hk => hgo k (hdom k hk)
        have hmi := hsk.1.1
        obtain ⟨p, hp1, hp2, _⟩ := hvg.at1 (P := Try.prog) (bs_at hlt) Try.underlying23 tsize5 aggT5
        obtain ⟨q, hq1, hq2, _⟩ := hvg.at1 (P := Try.prog) (bs_at (show m < l.length by omega)) Try.underlying23 tsize5 aggT5
        by_cases h0 : m = 0
        · subst h0
          refine w_assoc (s_draw #[0, 1, 3, 7, 7, 31, 63, 7, 7, 391, 903, 2047, 4095] (by decide +kernel) (by simp only [runR, List.drop_succ_cons, List.drop_zero, awant_some, Option.getD_some, List.getElem?_toArray, List.getElem?_cons_succ, List.getElem?_cons_zero, Option.bind_some, b_tt, b_tf, b_ft, b_ff, Bool.not_true, Bool.not_false, List.take_succ_cons, List.take_zero, awant_none, astep, evl, put, ap_none, ap_new, ap_wr, List.length_nil, List.length_cons, Nat.add_zero, Nat.zero_add, upd_app, stepBin, abin, stepUn, stepPick, stepExtract, stepCall, if_true, if_false, reduceCtorEq, ↓reduceIte, Nat.reduceEqDiff, Nat.reduceAdd, List.map_cons, List.map_nil, Option.map_some, Option.map_none, Bool.false_eq_true, Int.reduceLE, Int.reduceToNat, ne_eq, not_false_eq_true, and_self, and_true, true_and, decide_true, decide_false, List.isEmpty_nil, Bool.and_self, Bool.and_true, t0, t4, t5, show decide (((0 : Nat) : Int) > 0) = false from rfl] <;> rfl) ?_)
          refine s_false (by simp [evl, upd_app]) (s_exit ?_)
          exact ⟨0, hsk, .inl rfl, by simpa [upd_app] using t0, by simpa [upd_app] using t3, by simpa [upd_app] using t4, by simpa [upd_app] using t5, hgn, hgo⟩
        · have d0 : decide ((m : Int) > 0) = true := by simp; omega
          by_cases he : byt l i = byt l m
          · have d1 : (((l[i]?.getD 0 : Nat) : Int) != ((l[m]?.getD 0 : Nat) : Int)) = false := by
              unfold byt at he; rw [he]; simp
            refine w_assoc (s_draw #[0, 1, 3, 7, 7, 31, 63, 7, 7, 391, 903, 2047, 4095] (by decide +kernel) (by simp only [runR, List.drop_succ_cons, List.drop_zero, awant_some, Option.getD_some, List.getElem?_toArray, List.getElem?_cons_succ, List.getElem?_cons_zero, Option.bind_some, b_tt, b_tf, b_ft, b_ff, Bool.not_true, Bool.not_false, List.take_succ_cons, List.take_zero, awant_none, astep, evl, put, ap_none, ap_new, ap_wr, List.length_nil, List.length_cons, Nat.add_zero, Nat.zero_add, upd_app, stepBin, abin, stepUn, stepPick, stepExtract, stepCall, if_true, if_false, reduceCtorEq, ↓reduceIte, Nat.reduceEqDiff, Nat.reduceAdd, List.map_cons, List.map_nil, Option.map_some, Option.map_none, Bool.false_eq_true, Int.reduceLE, Int.reduceToNat, ne_eq, not_false_eq_true, and_self, and_true, true_and, decide_true, decide_false, List.isEmpty_nil, Bool.and_self, Bool.and_true, t0, t4, t5, d0, hp1, hp2, hq1, hq2, d1] <;> rfl) ?_)
            refine s_false (by simp [evl, upd_app]) (s_exit ?_)
            exact ⟨m, hsk, .inr he, by simpa [upd_app] using t0, by simpa [upd_app] using t3, by simpa [upd_app] using t4, by simpa [upd_app] using t5, hgn, hgo⟩
          · have d1 : (((l[i]?.getD 0 : Nat) : Int) != ((l[m]?.getD 0 : Nat) : Int)) = true := by
              unfold byt at he; simp; omega
            refine w_assoc (s_draw #[0, 1, 3, 7, 7, 31, 63, 7, 7, 391, 903, 2047, 4095] (by decide +kernel) (by simp only [runR, List.drop_succ_cons, List.drop_zero, awant_some, Option.getD_some, List.getElem?_toArray, List.getElem?_cons_succ, List.getElem?_cons_zero, Option.bind_some, b_tt, b_tf, b_ft, b_ff, Bool.not_true, Bool.not_false, List.take_succ_cons, List.take_zero, awant_none, astep, evl, put, ap_none, ap_new, ap_wr, List.length_nil, List.length_cons, Nat.add_zero, Nat.zero_add, upd_app, stepBin, abin, stepUn, stepPick, stepExtract, stepCall, if_true, if_false, reduceCtorEq, ↓reduceIte, Nat.reduceEqDiff, Nat.reduceAdd, List.map_cons, List.map_nil, Option.map_some, Option.map_none, Bool.false_eq_true, Int.reduceLE, Int.reduceToNat, ne_eq, not_false_eq_true, and_self, and_true, true_and, decide_true, decide_false, List.isEmpty_nil, Bool.and_self, Bool.and_true, t0, t4, t5, d0, hp1, hp2, hq1, hq2, d1] <;> rfl) ?_)
            refine s_true (by simp [evl, upd_app]) (s_skip (w_block ?_))
            have w1 : IntKind.i64.wrap ((m : Int) - 1) = ((m - 1 : Nat) : Int) := by rw [wrap64_of (by omega) (by omega)]; omega
            have hat := ints_at (rowAt_get l (i := i) (q := m - 1) (by omega) (by omega))
            obtain ⟨i1, i2, _⟩ := own_at (P := Try.prog) (T := 36) hgn hat Try.underlying36 tsize3 aggT3
            have hrl : (ints (rowAt l i)).length = l.length := by simp [rowAt]
            rw [hrl] at i1 i2
            rw [show m - 1 + 1 = m by omega] at i2
            refine region_run (id := 7) (by simp only [runL, List.drop_succ_cons, List.drop_zero, awant_some, Option.getD_some, List.getElem?_toArray, List.getElem?_cons_succ, List.getElem?_cons_zero, Option.bind_some, b_tt, b_tf, b_ft, b_ff, Bool.not_true, Bool.not_false, List.take_succ_cons, List.take_zero, awant_none, astep, evl, put, ap_none, ap_new, ap_wr, List.length_nil, List.length_cons, Nat.add_zero, Nat.zero_add, upd_app, stepBin, abin, stepUn, stepPick, stepExtract, stepCall, if_true, if_false, reduceCtorEq, ↓reduceIte, Nat.reduceEqDiff, Nat.reduceAdd, List.map_cons, List.map_nil, Option.map_some, Option.map_none, Bool.false_eq_true, Int.reduceLE, Int.reduceToNat, ne_eq, not_false_eq_true, and_self, and_true, true_and, decide_true, decide_false, t3, t4, w1, i1, i2] <;> rfl) ?_
            refine ⟨⟨mx l m, seek_step hsk (by omega) he, by simp [upd_app, t0], by simp [upd_app, t3], by simp [upd_app], by simp [upd_app, t5], hgn, hgo⟩, ?_⟩
            have := mx_lt (s := l) (n := m) (by omega)
            simp [upd_app, t4]
            exact this
      · have ot5 := t5
        clear t0 t3 t4 t5 hgn hgo hvg
        rintro t g n' ⟨m, hsk, hend, t0, t3, t4, t5, hgn, hgo⟩
        have hvg : Src g v 1 l.length (bs l) := hv2.congr fun k hk => hgo k (hdom k hk)
        have hmi := hsk.1.1
        obtain ⟨p, hp1, hp2, _⟩ := hvg.at1 (P := Try.prog) (bs_at hlt) Try.underlying23 tsize5 aggT5
        obtain ⟨q, hq1, hq2, _⟩ := hvg.at1 (P := Try.prog) (bs_at (show m < l.length by omega)) Try.underlying23 tsize5 aggT5
        have hnext := seek_end hsk hend
        refine s_cut (fun t g n' => t 0 = v ∧ t 3 = .slice (some ⟨n, 0, some l.length⟩) l.length 1 ∧ t 4 = .int .i64 (mx l (i + 1)) ∧ t 5 = .int .i64 i ∧ g n = some ⟨false, 3, ints (rowAt l i)⟩ ∧ (∀ i, i < n → g i = g2 i)) ?_ ?_
        · by_cases he : byt l i = byt l m
          · rw [if_pos he] at hnext
            have d1 : (((l[i]?.getD 0 : Nat) : Int) == ((l[m]?.getD 0 : Nat) : Int)) = true := by
              unfold byt at he; rw [he]; simp
            have w1 : IntKind.i64.wrap ((m : Int) + 1) = ((m + 1 : Nat) : Int) := by rw [wrap64_of (by omega) (by omega)]; simp
            refine s_draw #[0, 0, 3, 7, 0, 0, 48, 112, 255] (by decide +kernel) (by simp only [runR, List.drop_succ_cons, List.drop_zero, awant_some, Option.getD_some, List.getElem?_toArray, List.getElem?_cons_succ, List.getElem?_cons_zero, Option.bind_some, b_tt, b_tf, b_ft, b_ff, Bool.not_true, Bool.not_false, List.take_succ_cons, List.take_zero, awant_none, astep, evl, put, ap_none, ap_new, ap_wr, List.length_nil, List.length_cons, Nat.add_zero, Nat.zero_add, upd_app, stepBin, abin, stepUn, stepPick, stepExtract, stepCall, if_true, if_false, reduceCtorEq, ↓reduceIte, Nat.reduceEqDiff, Nat.reduceAdd, List.map_cons, List.map_nil, Option.map_some, Option.map_none, Bool.false_eq_true, Int.reduceLE, Int.reduceToNat, ne_eq, not_false_eq_true, and_self, and_true, true_and, decide_true, decide_false, List.isEmpty_nil, Bool.and_self, Bool.and_true, t0, t4, t5, hp1, hp2, hq1, hq2, d1] <;> rfl) ?_
            refine w_true (by simp [evl, upd_app]) ?_
            refine region_run (id := 9) (by simp only [runL, List.drop_succ_cons, List.drop_zero, awant_some, Option.getD_some, List.getElem?_toArray, List.getElem?_cons_succ, List.getElem?_cons_zero, Option.bind_some, b_tt, b_tf, b_ft, b_ff, Bool.not_true, Bool.not_false, List.take_succ_cons, List.take_zero, awant_none, astep, evl, put, ap_none, ap_new, ap_wr, List.length_nil, List.length_cons, Nat.add_zero, Nat.zero_add, upd_app, stepBin, abin, stepUn, stepPick, stepExtract, stepCall, if_true, if_false, reduceCtorEq, ↓reduceIte, Nat.reduceEqDiff, Nat.reduceAdd, List.map_cons, List.map_nil, Option.map_some, Option.map_none, Bool.false_eq_true, Int.reduceLE, Int.reduceToNat, ne_eq, not_false_eq_true, and_self, and_true, true_and, decide_true, decide_false, t4, w1] <;> rfl) ⟨rfl, ?_⟩
            exact ⟨by simp [upd_app, t0], by simp [upd_app, t3], by simp [upd_app, hnext], by simp [upd_app, t5], hgn, hgo⟩
          · rw [if_neg he] at hnext
            have hm0 : m = 0 := by rcases hend with h | h; exact h; exact absurd h he
            subst hm0
            have d1 : (((l[i]?.getD 0 : Nat) : Int) == ((l[0]?.getD 0 : Nat) : Int)) = false := by
              unfold byt at he; simp; omega
            refine s_draw #[0, 0, 3, 7, 0, 0, 48, 112, 255] (by decide +kernel) (by simp only [runR, List.drop_succ_cons, List.drop_zero, awant_some, Option.getD_some, List.getElem?_toArray, List.getElem?_cons_succ, List.getElem?_cons_zero, Option.bind_some, b_tt, b_tf, b_ft, b_ff, Bool.not_true, Bool.not_false, List.take_succ_cons, List.take_zero, awant_none, astep, evl, put, ap_none, ap_new, ap_wr, List.length_nil, List.length_cons, Nat.add_zero, Nat.zero_add, upd_app, stepBin, abin, stepUn, stepPick, stepExtract, stepCall, if_true, if_false, reduceCtorEq, ↓reduceIte, Nat.reduceEqDiff, Nat.reduceAdd, List.map_cons, List.map_nil, Option.map_some, Option.map_none, Bool.false_eq_true, Int.reduceLE, Int.reduceToNat, ne_eq, not_false_eq_true, and_self, and_true, true_and, decide_true, decide_false, List.isEmpty_nil, Bool.and_self, Bool.and_true, t0, t4, t5, hp1, hp2, hq1, hq2, d1] <;> rfl) ?_
            refine w_false (by simp [evl, upd_app]) (w_skip ⟨rfl, ?_⟩)
            exact ⟨by simp [upd_app, t0], by simp [upd_app, t3], by simp [upd_app, hnext, t4], by simp [upd_app, t5], hgn, hgo⟩
        · clear t0 t3 t4 t5 hgn hgo hvg hp2 hq2
          rintro t g n' ⟨t0, t3, t4, t5, hgn, hgo⟩
          have hat : (ints (rowAt l i))[i]? = some (.int .i64 ((rowAt l i)[i]?.getD 0 : Nat)) := by
            have : i < (rowAt l i).length := by rw [rowAt_len]; exact hlt
            simp [this]
          obtain ⟨i1, _, i4⟩ := own_at (P := Try.prog) (T := 36) hgn hat Try.underlying36 tsize3 aggT3
          have hrl : (ints (rowAt l i)).length = l.length := by simp [rowAt]
          rw [hrl] at i1 i4
          have w2 : IntKind.i64.wrap ((i : Int) + 1) = ((i + 1 : Nat) : Int) := by rw [wrap64_of (by omega) (by omega)]; simp
          refine region_run (id := 10) (by simp only [runL, List.drop_succ_cons, List.drop_zero, awant_some, Option.getD_some, List.getElem?_toArray, List.getElem?_cons_succ, List.getElem?_cons_zero, Option.bind_some, b_tt, b_tf, b_ft, b_ff, Bool.not_true, Bool.not_false, List.take_succ_cons, List.take_zero, awant_none, astep, evl, put, ap_none, ap_new, ap_wr, List.length_nil, List.length_cons, Nat.add_zero, Nat.zero_add, upd_app, stepBin, abin, stepUn, stepPick, stepExtract, stepCall, if_true, if_false, reduceCtorEq, ↓reduceIte, Nat.reduceEqDiff, Nat.reduceAdd, List.map_cons, List.map_nil, Option.map_some, Option.map_none, Bool.false_eq_true, Int.reduceLE, Int.reduceToNat, ne_eq, not_false_eq_true, and_self, and_true, true_and, decide_true, decide_false, t3, t4, t5, i1, i4, rowAt_set l hlt] <;> rfl) ?_
          refine region_run (id := 5) (by simp only [runL, List.drop_succ_cons, List.drop_zero, awant_some, Option.getD_some, List.getElem?_toArray, List.getElem?_cons_succ, List.getElem?_cons_zero, Option.bind_some, b_tt, b_tf, b_ft, b_ff, Bool.not_true, Bool.not_false, List.take_succ_cons, List.take_zero, awant_none, astep, evl, put, ap_none, ap_new, ap_wr, List.length_nil, List.length_cons, Nat.add_zero, Nat.zero_add, upd_app, stepBin, abin, stepUn, stepPick, stepExtract, stepCall, if_true, if_false, reduceCtorEq, ↓reduceIte, Nat.reduceEqDiff, Nat.reduceAdd, List.map_cons, List.map_nil, Option.map_some, Option.map_none, Bool.false_eq_true, Int.reduceLE, Int.reduceToNat, ne_eq, not_false_eq_true, and_self, and_true, true_and, decide_true, decide_false, t5, w2] <;> rfl) ?_
          refine ⟨⟨i + 1, by omega, by omega, by simp [upd_app, t0], by simp [upd_app, t3], by simp [upd_app, t4], by simp [upd_app], by simp [upd_app], fun k hk => ?_⟩, ?_⟩
          · simp only [upd_app, if_neg (show k ≠ n by omega)]
            exact hgo k hk
          · rw [ot5]
            simp only [upd_app, if_true, Int.toNat_natCast]
            omega
    · have d : decide ((i : Int) < (l.length : Int)) = false := by simp; omega
      refine w_assoc (s_run (by simp only [runL, List.drop_succ_cons, List.drop_zero, awant_some, Option.getD_some, List.getElem?_toArray, List.getElem?_cons_succ, List.getElem?_cons_zero, Option.bind_some, b_tt, b_tf, b_ft, b_ff, Bool.not_true, Bool.not_false, List.take_succ_cons, List.take_zero, awant_none, astep, evl, put, ap_none, ap_new, ap_wr, List.length_nil, List.length_cons, Nat.add_zero, Nat.zero_add, upd_app, stepBin, abin, stepUn, stepPick, stepExtract, stepCall, if_true, if_false, reduceCtorEq, ↓reduceIte, Nat.reduceEqDiff, Nat.reduceAdd, List.map_cons, List.map_nil, Option.map_some, Option.map_none, Bool.false_eq_true, Int.reduceLE, Int.reduceToNat, ne_eq, not_false_eq_true, and_self, and_true, true_and, decide_true, decide_false, t0, t5, hlen, d] <;> rfl) ?_)
      refine s_false (by simp [evl, upd_app]) (s_exit ?_)
      exact ⟨by simpa [upd_app] using t3, by rw [hgn, rowAt_full l i (by omega)], hgo⟩
  · rintro t g n' ⟨t3, hgn, hgo⟩
    refine s_run (by simp only [runL, List.drop_succ_cons, List.drop_zero, awant_some, Option.getD_some, List.getElem?_toArray, List.getElem?_cons_succ, List.getElem?_cons_zero, Option.bind_some, b_tt, b_tf, b_ft, b_ff, Bool.not_true, Bool.not_false, List.take_succ_cons, List.take_zero, awant_none, astep, evl, put, ap_none, ap_new, ap_wr, List.length_nil, List.length_cons, Nat.add_zero, Nat.zero_add, upd_app, stepBin, abin, stepUn, stepPick, stepExtract, stepCall, if_true, if_false, reduceCtorEq, ↓reduceIte, Nat.reduceEqDiff, Nat.reduceAdd, List.map_cons, List.map_nil, Option.map_some, Option.map_none, Bool.false_eq_true, Int.reduceLE, Int.reduceToNat, ne_eq, not_false_eq_true, and_self, and_true, true_and, decide_true, decide_false, t3] <;> rfl) ?_
    refine w_ret ⟨.inr rfl, by simp, [n], ?_⟩
    have hbl : (ints (borders l)).length = l.length := by simp [borders]
    have := fin_slice (s2 := s2) (g2 := g2) (n := n) (j := j) (r := srcBlk v) (k := n) (e := 3) (cs := ints (borders l)) (m := l.length) (esz := 1) (v' := .slice (some ⟨n, 0, some l.length⟩) l.length 1) (by rw [hbl]) (Nat.le_refl _) hgn plain_ints (fun i b hb => by
      rw [hgo i (hs i (hwf i b hb).1)]; exact hb)
    rw [hbl] at this
    simpa [resVal, upd_app] using this
end Go.Proofs.Ytokmmcfnpobldaa
