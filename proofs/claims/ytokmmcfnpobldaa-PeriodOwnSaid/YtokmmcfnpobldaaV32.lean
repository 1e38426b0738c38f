import Derived.Test.YtokmmcfnpobldaaV31
namespace Go.Proofs.Ytokmmcfnpobldaa
open Go Abs
set_option linter.unusedSimpArgs false
set_option linter.unusedVariables false

theorem ieq_t {a b : Int} (h : a = b) : (a == b) = true := by simp [h]
theorem ieq_f {a b : Int} (h : a ≠ b) : (a == b) = false := by simp [h]
theorem ine_t {a b : Int} (h : a ≠ b) : (a != b) = true := by simp [h]
theorem ine_f {a b : Int} (h : a = b) : (a != b) = false := by simp [h]

/-- Below n nothing is changed. -/
def Kp (n : Nat) (g g' : Heap) : Prop := ∀ k, k < n → g' k = g k

theorem Kp.refl (n : Nat) (g : Heap) : Kp n g g := fun _ _ => rfl
theorem Kp.trans {n m : Nat} {g g' g'' : Heap} (h : Kp n g g') (h2 : Kp m g' g'') (hm : n ≤ m) : Kp n g g'' := fun k hk => by rw [h2 k (by omega), h k hk]
theorem Kp.le {n m : Nat} {g g' : Heap} (h : Kp n g g') (hm : m ≤ n) : Kp m g g' := fun k hk => h k (by omega)
theorem Kp.src {n : Nat} {g g' : Heap} {v : Value} {esz m : Nat} {cs : List Value} (h : Kp n g g') (hs : Src g v esz m cs) (hd : ∀ i ∈ srcBlk v, i < n) : Src g' v esz m cs := hs.congr fun i hi => h i (hd i hi)
theorem Kp.at {n : Nat} {g g' : Heap} {k : Nat} {b : Blk} (h : Kp n g g') (hk : k < n) (hb : g k = some b) : g' k = some b := by rw [h k hk]; exact hb

theorem kp_upd {n k : Nat} {g g' : Heap} {b : Option Blk} (h : Kp n g g') (hk : n ≤ k) : Kp n g (upd g' k b) := fun i hi => by rw [upd_ne _ _ (by omega)]; exact h i hi

/-- An effect that writes nothing. -/
theorem kp_ap {n : Nat} {g g' : Heap} {f : Eff} (h : Kp n g g') (hw : f.w = []) (hj : f.a ≠ [] → n ≤ f.j) : Kp n g (f.ap g') := by
  intro i hi
  unfold Eff.ap
  rw [hw, setAll]
  cases ha : f.a with
  | nil => exact h i hi
  | cons b l =>
    have := hj (by simp [ha])
    rw [addAll_out (by omega)]
    exact h i hi

theorem root_ne (v : Value) (l : List Nat) (g : Heap) (j : Nat) (hl : l.length ≤ 2 ^ 40) (h0 : l.length ≠ 0) (hv : Src g v 1 l.length (bs l)) :
    FnSpec Try.prog 21 [v] g { v := .tuple #[.slice (some ⟨j, 0, some (rootLen l)⟩) (rootLen l) 1, .int .i64 (l.length / rootLen l : Nat)], r := srcBlk v, j := j, a := [⟨false, 5, bs (l.take (rootLen l))⟩] } := by
  have := root_spec v l g j hl hv
  rw [rootE, if_neg h0] at this
  exact this

theorem src_own1 {g : Heap} {k e : Nat} {ro : Bool} {l : List Nat} {m : Nat} (h : g k = some ⟨ro, e, bs l⟩) (hm : m = l.length) : Src g (.slice (some ⟨k, 0, some m⟩) m 1) 1 l.length (bs l) := by subst hm; exact src_blk h

theorem srcBlk_own {k m o : Nat} {sp : Option Nat} {e : Nat} : ∀ i ∈ srcBlk (.slice (some ⟨k, o, sp⟩) m e), i = k := by intro i hi; simp [srcBlk] at hi; exact hi.2

set_option maxRecDepth 10000 in
theorem lawAll_spec (v : Value) (l : List Nat) (g : Heap) (hb : ∀ x ∈ l, x < 256) (hv : Src g v 1 l.length (bs l)) : FnSpec Try.prog 11 [v] g { v := .bool true, r := srcBlk v } := by
  refine spec_of_body [2] follows Try.func11 rfl (by kernel_rfl) (by simp [Try.f11]) (by kernel_rfl) rfl ?_
  intro g2 s2 n hg hfr hs hn hwf hsv
  have hv2 : Src g2 v 1 l.length (bs l) := hv.congr fun i hi => hg i (by simp [Eff.fp, hi])
  have hlen := hv2.len Try.underlying23
  refine s_run (by simp only [runL, List.drop_succ_cons, List.drop_zero, awant_some, Option.getD_some, List.getElem?_toArray, List.getElem?_cons_succ, List.getElem?_cons_zero, Option.bind_some, b_tt, b_tf, b_ft, b_ff, Bool.not_true, Bool.not_false, List.take_succ_cons, List.take_zero, awant_none, astep, evl, put, ap_none, ap_new, ap_wr, List.length_nil, List.length_cons, Nat.add_zero, Nat.zero_add, upd_app, stepBin, abin, stepUn, stepPick, stepExtract, stepCall, if_true, if_false, reduceCtorEq, ↓reduceIte, Nat.reduceEqDiff, Nat.reduceAdd, List.map_cons, List.map_nil, Option.map_some, Option.map_none, Bool.false_eq_true, Int.reduceLE, Int.reduceToNat, ne_eq, not_false_eq_true, and_self, and_true, true_and, decide_true, decide_false] <;> rfl) ?_
  by_cases ea1 : (l.length : Int) > 300
  · have ed1 : decide ((l.length : Int) > 300) = true := decide_eq_true ea1
    refine w_assoc (s_run (by simp only [runL, List.drop_succ_cons, List.drop_zero, awant_some, Option.getD_some, List.getElem?_toArray, List.getElem?_cons_succ, List.getElem?_cons_zero, Option.bind_some, b_tt, b_tf, b_ft, b_ff, Bool.not_true, Bool.not_false, List.take_succ_cons, List.take_zero, awant_none, astep, evl, put, ap_none, ap_new, ap_wr, List.length_nil, List.length_cons, Nat.add_zero, Nat.zero_add, upd_app, stepBin, abin, stepUn, stepPick, stepExtract, stepCall, if_true, if_false, reduceCtorEq, ↓reduceIte, Nat.reduceEqDiff, Nat.reduceAdd, List.map_cons, List.map_nil, Option.map_some, Option.map_none, Bool.false_eq_true, Int.reduceLE, Int.reduceToNat, ne_eq, not_false_eq_true, and_self, and_true, true_and, decide_true, decide_false, hlen, ed1] <;> rfl) ?_)
    refine s_true (by simp [evl, upd_app]) (w_assoc (s_run (by simp only [runL, List.drop_succ_cons, List.drop_zero, awant_some, Option.getD_some, List.getElem?_toArray, List.getElem?_cons_succ, List.getElem?_cons_zero, Option.bind_some, b_tt, b_tf, b_ft, b_ff, Bool.not_true, Bool.not_false, List.take_succ_cons, List.take_zero, awant_none, astep, evl, put, ap_none, ap_new, ap_wr, List.length_nil, List.length_cons, Nat.add_zero, Nat.zero_add, upd_app, stepBin, abin, stepUn, stepPick, stepExtract, stepCall, if_true, if_false, reduceCtorEq, ↓reduceIte, Nat.reduceEqDiff, Nat.reduceAdd, List.map_cons, List.map_nil, Option.map_some, Option.map_none, Bool.false_eq_true, Int.reduceLE, Int.reduceToNat, ne_eq, not_false_eq_true, and_self, and_true, true_and, decide_true, decide_false] <;> rfl) ?_))
    refine s_ret ⟨.inr rfl, by simp, [], fin_none ?_ trivial (fun _ _ h => h)⟩
    simp [resVal, upd_app]
  have ed1 : decide ((l.length : Int) > 300) = false := decide_eq_false ea1
  refine w_assoc (s_run (by simp only [runL, List.drop_succ_cons, List.drop_zero, awant_some, Option.getD_some, List.getElem?_toArray, List.getElem?_cons_succ, List.getElem?_cons_zero, Option.bind_some, b_tt, b_tf, b_ft, b_ff, Bool.not_true, Bool.not_false, List.take_succ_cons, List.take_zero, awant_none, astep, evl, put, ap_none, ap_new, ap_wr, List.length_nil, List.length_cons, Nat.add_zero, Nat.zero_add, upd_app, stepBin, abin, stepUn, stepPick, stepExtract, stepCall, if_true, if_false, reduceCtorEq, ↓reduceIte, Nat.reduceEqDiff, Nat.reduceAdd, List.map_cons, List.map_nil, Option.map_some, Option.map_none, Bool.false_eq_true, Int.reduceLE, Int.reduceToNat, ne_eq, not_false_eq_true, and_self, and_true, true_and, decide_true, decide_false, hlen, ed1] <;> rfl) ?_)
  refine s_false (by simp [evl, upd_app]) (s_skip ?_)
  refine w_gen (fun t => t 0 = v) (by simp [upd_app]) ?_
  intro t t0
  refine s_take 1 (by simp only [runL, List.drop_succ_cons, List.drop_zero, awant_some, Option.getD_some, List.getElem?_toArray, List.getElem?_cons_succ, List.getElem?_cons_zero, Option.bind_some, b_tt, b_tf, b_ft, b_ff, Bool.not_true, Bool.not_false, List.take_succ_cons, List.take_zero, awant_none, astep, evl, put, ap_none, ap_new, ap_wr, List.length_nil, List.length_cons, Nat.add_zero, Nat.zero_add, upd_app, stepBin, abin, stepUn, stepPick, stepExtract, stepCall, if_true, if_false, reduceCtorEq, ↓reduceIte, Nat.reduceEqDiff, Nat.reduceAdd, List.map_cons, List.map_nil, Option.map_some, Option.map_none, Bool.false_eq_true, Int.reduceLE, Int.reduceToNat, ne_eq, not_false_eq_true, and_self, and_true, true_and, decide_true, decide_false, t0] <;> rfl) ?_
  refine ops_call 26 _ rfl (least_spec v l g2 (by omega) hv2) (by simp) ?_
  refine ops_run (by simp only [runL, List.drop_succ_cons, List.drop_zero, awant_some, Option.getD_some, List.getElem?_toArray, List.getElem?_cons_succ, List.getElem?_cons_zero, Option.bind_some, b_tt, b_tf, b_ft, b_ff, Bool.not_true, Bool.not_false, List.take_succ_cons, List.take_zero, awant_none, astep, evl, put, ap_none, ap_new, ap_wr, List.length_nil, List.length_cons, Nat.add_zero, Nat.zero_add, upd_app, stepBin, abin, stepUn, stepPick, stepExtract, stepCall, if_true, if_false, reduceCtorEq, ↓reduceIte, Nat.reduceEqDiff, Nat.reduceAdd, List.map_cons, List.map_nil, Option.map_some, Option.map_none, Bool.false_eq_true, Int.reduceLE, Int.reduceToNat, ne_eq, not_false_eq_true, and_self, and_true, true_and, decide_true, decide_false] <;> rfl) ?_
  refine w_gen (fun t => t 0 = v ∧ t 3 = .int .i64 (least l)) (by simp [upd_app, put, t0]) ?_
  clear t0
  rintro t ⟨t0, t3⟩
  by_cases h0 : l.length = 0
  · have hz : least l = 0 := by rw [least, if_pos h0]
    have d : ((l.length : Int) == 0) = true := by simp [h0]
    have d2 : (((0 : Nat) : Int) == 0) = true := rfl
    refine w_assoc (s_run (by simp only [runL, List.drop_succ_cons, List.drop_zero, awant_some, Option.getD_some, List.getElem?_toArray, List.getElem?_cons_succ, List.getElem?_cons_zero, Option.bind_some, b_tt, b_tf, b_ft, b_ff, Bool.not_true, Bool.not_false, List.take_succ_cons, List.take_zero, awant_none, astep, evl, put, ap_none, ap_new, ap_wr, List.length_nil, List.length_cons, Nat.add_zero, Nat.zero_add, upd_app, stepBin, abin, stepUn, stepPick, stepExtract, stepCall, if_true, if_false, reduceCtorEq, ↓reduceIte, Nat.reduceEqDiff, Nat.reduceAdd, List.map_cons, List.map_nil, Option.map_some, Option.map_none, Bool.false_eq_true, Int.reduceLE, Int.reduceToNat, ne_eq, not_false_eq_true, and_self, and_true, true_and, decide_true, decide_false, t0, hlen, d] <;> rfl) ?_)
    refine s_true (by simp [evl, upd_app]) (w_assoc (s_take 3 (by simp only [runL, List.drop_succ_cons, List.drop_zero, awant_some, Option.getD_some, List.getElem?_toArray, List.getElem?_cons_succ, List.getElem?_cons_zero, Option.bind_some, b_tt, b_tf, b_ft, b_ff, Bool.not_true, Bool.not_false, List.take_succ_cons, List.take_zero, awant_none, astep, evl, put, ap_none, ap_new, ap_wr, List.length_nil, List.length_cons, Nat.add_zero, Nat.zero_add, upd_app, stepBin, abin, stepUn, stepPick, stepExtract, stepCall, if_true, if_false, reduceCtorEq, ↓reduceIte, Nat.reduceEqDiff, Nat.reduceAdd, List.map_cons, List.map_nil, Option.map_some, Option.map_none, Bool.false_eq_true, Int.reduceLE, Int.reduceToNat, ne_eq, not_false_eq_true, and_self, and_true, true_and, decide_true, decide_false, t3, hz, d2] <;> rfl) ?_))
    refine g_call 28 _ (by simp only [runL, List.drop_succ_cons, List.drop_zero, awant_some, Option.getD_some, List.getElem?_toArray, List.getElem?_cons_succ, List.getElem?_cons_zero, Option.bind_some, b_tt, b_tf, b_ft, b_ff, Bool.not_true, Bool.not_false, List.take_succ_cons, List.take_zero, awant_none, astep, evl, put, ap_none, ap_new, ap_wr, List.length_nil, List.length_cons, Nat.add_zero, Nat.zero_add, upd_app, stepBin, abin, stepUn, stepPick, stepExtract, stepCall, if_true, if_false, reduceCtorEq, ↓reduceIte, Nat.reduceEqDiff, Nat.reduceAdd, List.map_cons, List.map_nil, Option.map_some, Option.map_none, Bool.false_eq_true, Int.reduceLE, Int.reduceToNat, ne_eq, not_false_eq_true, and_self, and_true, true_and, decide_true, decide_false] <;> rfl) rfl (pknown_spec _) (by simp) ?_
    refine ops_run (by simp only [runL, List.drop_succ_cons, List.drop_zero, awant_some, Option.getD_some, List.getElem?_toArray, List.getElem?_cons_succ, List.getElem?_cons_zero, Option.bind_some, b_tt, b_tf, b_ft, b_ff, Bool.not_true, Bool.not_false, List.take_succ_cons, List.take_zero, awant_none, astep, evl, put, ap_none, ap_new, ap_wr, List.length_nil, List.length_cons, Nat.add_zero, Nat.zero_add, upd_app, stepBin, abin, stepUn, stepPick, stepExtract, stepCall, if_true, if_false, reduceCtorEq, ↓reduceIte, Nat.reduceEqDiff, Nat.reduceAdd, List.map_cons, List.map_nil, Option.map_some, Option.map_none, Bool.false_eq_true, Int.reduceLE, Int.reduceToNat, ne_eq, not_false_eq_true, and_self, and_true, true_and, decide_true, decide_false] <;> rfl) ?_
    refine s_ret ⟨.inr rfl, by simp, [], fin_none ?_ trivial (fun _ _ h => h)⟩
    simp [resVal, upd_app]
  have d : ((l.length : Int) == 0) = false := ieq_f (by omega)
  have hp := least_pos l h0
  have e1 : decide ((least l : Int) < 1) = false := by simp; omega
  have e2 : decide ((least l : Int) > (l.length : Int)) = false := by simp; omega
  refine w_assoc (s_run (by simp only [runL, List.drop_succ_cons, List.drop_zero, awant_some, Option.getD_some, List.getElem?_toArray, List.getElem?_cons_succ, List.getElem?_cons_zero, Option.bind_some, b_tt, b_tf, b_ft, b_ff, Bool.not_true, Bool.not_false, List.take_succ_cons, List.take_zero, awant_none, astep, evl, put, ap_none, ap_new, ap_wr, List.length_nil, List.length_cons, Nat.add_zero, Nat.zero_add, upd_app, stepBin, abin, stepUn, stepPick, stepExtract, stepCall, if_true, if_false, reduceCtorEq, ↓reduceIte, Nat.reduceEqDiff, Nat.reduceAdd, List.map_cons, List.map_nil, Option.map_some, Option.map_none, Bool.false_eq_true, Int.reduceLE, Int.reduceToNat, ne_eq, not_false_eq_true, and_self, and_true, true_and, decide_true, decide_false, t0, hlen, d] <;> rfl) ?_)
  refine s_false (by simp [evl, upd_app]) (s_skip ?_)
  refine w_assoc (s_run (by simp only [runL, List.drop_succ_cons, List.drop_zero, awant_some, Option.getD_some, List.getElem?_toArray, List.getElem?_cons_succ, List.getElem?_cons_zero, Option.bind_some, b_tt, b_tf, b_ft, b_ff, Bool.not_true, Bool.not_false, List.take_succ_cons, List.take_zero, awant_none, astep, evl, put, ap_none, ap_new, ap_wr, List.length_nil, List.length_cons, Nat.add_zero, Nat.zero_add, upd_app, stepBin, abin, stepUn, stepPick, stepExtract, stepCall, if_true, if_false, reduceCtorEq, ↓reduceIte, Nat.reduceEqDiff, Nat.reduceAdd, List.map_cons, List.map_nil, Option.map_some, Option.map_none, Bool.false_eq_true, Int.reduceLE, Int.reduceToNat, ne_eq, not_false_eq_true, and_self, and_true, true_and, decide_true, decide_false, t0, t3, hlen, e1, e2] <;> rfl) ?_)
  refine s_false (by simp [evl, upd_app]) (s_skip ?_)
  refine w_assoc (s_run (by simp only [runL, List.drop_succ_cons, List.drop_zero, awant_some, Option.getD_some, List.getElem?_toArray, List.getElem?_cons_succ, List.getElem?_cons_zero, Option.bind_some, b_tt, b_tf, b_ft, b_ff, Bool.not_true, Bool.not_false, List.take_succ_cons, List.take_zero, awant_none, astep, evl, put, ap_none, ap_new, ap_wr, List.length_nil, List.length_cons, Nat.add_zero, Nat.zero_add, upd_app, stepBin, abin, stepUn, stepPick, stepExtract, stepCall, if_true, if_false, reduceCtorEq, ↓reduceIte, Nat.reduceEqDiff, Nat.reduceAdd, List.map_cons, List.map_nil, Option.map_some, Option.map_none, Bool.false_eq_true, Int.reduceLE, Int.reduceToNat, ne_eq, not_false_eq_true, and_self, and_true, true_and, decide_true, decide_false, t3] <;> rfl) ?_)
  refine s_block (fun t g n => g = g2) ?_ ?_
  · refine w_loop (fun t g n => ∃ i : Nat, least l ≤ i ∧ i ≤ l.length ∧ t 0 = v ∧ t 3 = .int .i64 (least l) ∧ t 4 = .int .i64 i ∧ g = g2) (fun t _ _ => match t 4 with | .int _ i => l.length - i.toNat | _ => 0)
      ⟨least l, Nat.le_refl _, hp.2, by simp [upd_app, t0], by simp [upd_app, t3], by simp [upd_app], rfl⟩ ?_
    clear t0 t3
    rintro t g n' ⟨i, hi1, hi2, t0, t3, t4, rfl⟩
    by_cases hlt : i < l.length
    · have dl : decide ((i : Int) < (l.length : Int)) = true := by simp; exact hlt
      refine w_assoc (s_run (by simp only [runL, List.drop_succ_cons, List.drop_zero, awant_some, Option.getD_some, List.getElem?_toArray, List.getElem?_cons_succ, List.getElem?_cons_zero, Option.bind_some, b_tt, b_tf, b_ft, b_ff, Bool.not_true, Bool.not_false, List.take_succ_cons, List.take_zero, awant_none, astep, evl, put, ap_none, ap_new, ap_wr, List.length_nil, List.length_cons, Nat.add_zero, Nat.zero_add, upd_app, stepBin, abin, stepUn, stepPick, stepExtract, stepCall, if_true, if_false, reduceCtorEq, ↓reduceIte, Nat.reduceEqDiff, Nat.reduceAdd, List.map_cons, List.map_nil, Option.map_some, Option.map_none, Bool.false_eq_true, Int.reduceLE, Int.reduceToNat, ne_eq, not_false_eq_true, and_self, and_true, true_and, decide_true, decide_false, t0, t4, hlen, dl] <;> rfl) ?_)
      refine s_true (by simp [evl, upd_app]) (s_skip (w_seq (w_block ?_)))
      have hsub : IntKind.i64.wrap ((i : Int) - (least l : Int)) = ((i - least l : Nat) : Int) := by rw [wrap64_of (by omega) (by omega)]; omega
      obtain ⟨p1, a1, b1, c1⟩ := hv2.at1 (P := Try.prog) (i := i) (c := .int .u8 (byt l i)) (by simp [byt, List.getElem?_eq_getElem hlt]) Try.underlying23 tsize5 aggT5
      obtain ⟨p2, a2, b2, c2⟩ := hv2.at1 (P := Try.prog) (i := i - least l) (c := .int .u8 (byt l (i - least l))) (by simp [byt, List.getElem?_eq_getElem (show i - least l < l.length by omega)]) Try.underlying23 tsize5 aggT5
      have hper := least_per h0 (i - least l) (by omega)
      rw [show i - least l + least l = i by omega] at hper
      have dn : (((byt l i : Nat) : Int) != ((byt l (i - least l) : Nat) : Int)) = false := by rw [hper]; simp
      refine s_draw #[0, 0, 3, 7, 0, 0, 0, 96, 240, 496, 1023] (by decide +kernel) (by simp only [runR, List.drop_succ_cons, List.drop_zero, awant_some, Option.getD_some, List.getElem?_toArray, List.getElem?_cons_succ, List.getElem?_cons_zero, Option.bind_some, b_tt, b_tf, b_ft, b_ff, Bool.not_true, Bool.not_false, List.take_succ_cons, List.take_zero, awant_none, astep, evl, put, ap_none, ap_new, ap_wr, List.length_nil, List.length_cons, Nat.add_zero, Nat.zero_add, upd_app, stepBin, abin, stepUn, stepPick, stepExtract, stepCall, if_true, if_false, reduceCtorEq, ↓reduceIte, Nat.reduceEqDiff, Nat.reduceAdd, List.map_cons, List.map_nil, Option.map_some, Option.map_none, Bool.false_eq_true, Int.reduceLE, Int.reduceToNat, ne_eq, not_false_eq_true, and_self, and_true, true_and, decide_true, decide_false, List.isEmpty_nil, Bool.and_self, Bool.and_true, t0, t3, t4, hlen, hsub, a1, b1, a2, b2, dn] <;> rfl) ?_
      refine w_false (by simp [evl, upd_app]) (w_skip ?_)
      have w1 : IntKind.i64.wrap ((i : Int) + 1) = ((i + 1 : Nat) : Int) := by rw [wrap64_of (by omega) (by omega)]; simp
      refine region_run (id := 10) (by simp only [runL, List.drop_succ_cons, List.drop_zero, awant_some, Option.getD_some, List.getElem?_toArray, List.getElem?_cons_succ, List.getElem?_cons_zero, Option.bind_some, b_tt, b_tf, b_ft, b_ff, Bool.not_true, Bool.not_false, List.take_succ_cons, List.take_zero, awant_none, astep, evl, put, ap_none, ap_new, ap_wr, List.length_nil, List.length_cons, Nat.add_zero, Nat.zero_add, upd_app, stepBin, abin, stepUn, stepPick, stepExtract, stepCall, if_true, if_false, reduceCtorEq, ↓reduceIte, Nat.reduceEqDiff, Nat.reduceAdd, List.map_cons, List.map_nil, Option.map_some, Option.map_none, Bool.false_eq_true, Int.reduceLE, Int.reduceToNat, ne_eq, not_false_eq_true, and_self, and_true, true_and, decide_true, decide_false, t4, w1] <;> rfl) ?_
      refine ⟨⟨i + 1, by omega, by omega, by simp [upd_app, t0], by simp [upd_app, t3], by simp [upd_app], rfl⟩, ?_⟩
      rw [t4]
      simp only [upd_app, if_true, Int.toNat_natCast]
      omega
    · have dl : decide ((i : Int) < (l.length : Int)) = false := by simp; omega
      refine w_assoc (s_run (by simp only [runL, List.drop_succ_cons, List.drop_zero, awant_some, Option.getD_some, List.getElem?_toArray, List.getElem?_cons_succ, List.getElem?_cons_zero, Option.bind_some, b_tt, b_tf, b_ft, b_ff, Bool.not_true, Bool.not_false, List.take_succ_cons, List.take_zero, awant_none, astep, evl, put, ap_none, ap_new, ap_wr, List.length_nil, List.length_cons, Nat.add_zero, Nat.zero_add, upd_app, stepBin, abin, stepUn, stepPick, stepExtract, stepCall, if_true, if_false, reduceCtorEq, ↓reduceIte, Nat.reduceEqDiff, Nat.reduceAdd, List.map_cons, List.map_nil, Option.map_some, Option.map_none, Bool.false_eq_true, Int.reduceLE, Int.reduceToNat, ne_eq, not_false_eq_true, and_self, and_true, true_and, decide_true, decide_false, t0, t4, hlen, dl] <;> rfl) ?_)
      exact s_false (by simp [evl, upd_app]) (s_exit rfl)
  · clear t0 t3
    rintro t g n' rfl
    refine s_take 0 (by simp only [runL, List.drop_succ_cons, List.drop_zero, awant_some, Option.getD_some, List.getElem?_toArray, List.getElem?_cons_succ, List.getElem?_cons_zero, Option.bind_some, b_tt, b_tf, b_ft, b_ff, Bool.not_true, Bool.not_false, List.take_succ_cons, List.take_zero, awant_none, astep, evl, put, ap_none, ap_new, ap_wr, List.length_nil, List.length_cons, Nat.add_zero, Nat.zero_add, upd_app, stepBin, abin, stepUn, stepPick, stepExtract, stepCall, if_true, if_false, reduceCtorEq, ↓reduceIte, Nat.reduceEqDiff, Nat.reduceAdd, List.map_cons, List.map_nil, Option.map_some, Option.map_none, Bool.false_eq_true, Int.reduceLE, Int.reduceToNat, ne_eq, not_false_eq_true, and_self, and_true, true_and, decide_true, decide_false] <;> rfl) ?_
    refine ops_call 28 _ rfl (pknown_spec _) (by simp) ?_
    refine ops_run (by simp only [runL, List.drop_succ_cons, List.drop_zero, awant_some, Option.getD_some, List.getElem?_toArray, List.getElem?_cons_succ, List.getElem?_cons_zero, Option.bind_some, b_tt, b_tf, b_ft, b_ff, Bool.not_true, Bool.not_false, List.take_succ_cons, List.take_zero, awant_none, astep, evl, put, ap_none, ap_new, ap_wr, List.length_nil, List.length_cons, Nat.add_zero, Nat.zero_add, upd_app, stepBin, abin, stepUn, stepPick, stepExtract, stepCall, if_true, if_false, reduceCtorEq, ↓reduceIte, Nat.reduceEqDiff, Nat.reduceAdd, List.map_cons, List.map_nil, Option.map_some, Option.map_none, Bool.false_eq_true, Int.reduceLE, Int.reduceToNat, ne_eq, not_false_eq_true, and_self, and_true, true_and, decide_true, decide_false] <;> rfl) ?_
    refine w_ret ⟨.inr rfl, by simp, [], fin_none ?_ trivial (fun _ _ h => h)⟩
    simp [resVal, upd_app]
end Go.Proofs.Ytokmmcfnpobldaa
