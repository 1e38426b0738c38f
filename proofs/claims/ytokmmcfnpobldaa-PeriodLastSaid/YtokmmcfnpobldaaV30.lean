import Derived.Test.YtokmmcfnpobldaaV29
namespace Go.Proofs.Ytokmmcfnpobldaa
open Go Abs
set_option linter.unusedSimpArgs false
set_option linter.unusedVariables false

theorem ops_num {P : Program} {ops : Array Oper} {K : (Nat → Value) → Heap → Nat → Prop} {t : Nat → Value} {g : Heap} {n : Nat} {l : List Oper} (h : ∀ N, N = n → awpOps P ops K l t g N) : awpOps P ops K l t g n := h n rfl

theorem ints_ints (c : List Nat) : ints c = (c.map fun (b : Nat) => (b : Int)).map (Value.int .i64) := by simp

/-- A new slice of ints, nil if it is empty: what it is. -/
theorem ints_use (c : List Nat) (r : List Nat) (G : Heap) (j : Nat) : Src ((intsE c r j).ap G) (intsE c r j).v 1 c.length (ints c) ∧ (∀ k, k ≠ j → (intsE c r j).ap G k = G k) ∧ (∀ i ∈ srcBlk (intsE c r j).v, i = j) ∧ (intsE c r j).r = r ∧ ((intsE c r j).a ≠ [] → (intsE c r j).j = j) ∧ (intsE c r j).a.length ≤ 1 := by
  by_cases h : c.length = 0
  · have hn : c = [] := List.eq_nil_of_length_eq_zero h
    rw [intsE, if_pos h]
    exact ⟨.inl ⟨rfl, by simp [hn], by simp [hn]⟩, fun k _ => rfl, by simp [srcBlk], rfl, fun h => (h rfl).elim, by simp⟩
  · rw [intsE, if_neg h]
    refine ⟨?_, fun k hk => by simp [ap_new, upd_app, hk], ?_, rfl, fun _ => rfl, by simp⟩
    · exact .inr (.inr ⟨_, ⟨false, 3, ints c⟩, rfl, by omega, by simp [rd, ap_new, upd_app], by rw [Nat.mul_one]; exact (List.take_of_length_le (by simp)).symm, by simp⟩)
    · intro i hi
      simp [srcBlk] at hi
      exact hi.2

theorem src_ints {g : Heap} {k e : Nat} {ro : Bool} {l : List Nat} (h : g k = some ⟨ro, e, ints l⟩) : Src g (.slice (some ⟨k, 0, some l.length⟩) l.length 1) 1 l.length (ints l) := by
  by_cases h0 : l.length = 0
  · have : l = [] := List.eq_nil_of_length_eq_zero h0
    subst this
    exact .inr (.inl ⟨_, rfl, rfl, rfl⟩)
  · exact .inr (.inr ⟨_, ⟨ro, e, ints l⟩, rfl, by omega, by simp [rd, h], by rw [Nat.mul_one]; exact (List.take_of_length_le (by simp)).symm, by simp⟩)

set_option maxRecDepth 10000 in
theorem lawTells_spec (v : Value) (l : List Nat) (g : Heap) (hb : ∀ x ∈ l, x < 256) (hv : Src g v 1 l.length (bs l)) : FnSpec Try.prog 7 [v] g { v := .bool true, r := srcBlk v } := by
  refine spec_of_body [2] follows Try.func7 rfl (by kernel_rfl) (by simp [Try.f7]) (by kernel_rfl) rfl ?_
  intro g2 s2 n hg hfr hs hn hwf hsv
  have hv2 : Src g2 v 1 l.length (bs l) := hv.congr fun i hi => hg i (by simp [Eff.fp, hi])
  have hlen := hv2.len Try.underlying23
  have hdom : ∀ i ∈ srcBlk v, i < n := fun i hi => by
    obtain ⟨b, hb⟩ := Option.isSome_iff_exists.1 (hv2.dom i hi)
    exact hs i (hwf i b hb).1
  refine s_run (by simp only [runL, List.drop_succ_cons, List.drop_zero, awant_some, Option.getD_some, List.getElem?_toArray, List.getElem?_cons_succ, List.getElem?_cons_zero, Option.bind_some, b_tt, b_tf, b_ft, b_ff, Bool.not_true, Bool.not_false, List.take_succ_cons, List.take_zero, awant_none, astep, evl, put, ap_none, ap_new, ap_wr, List.length_nil, List.length_cons, Nat.add_zero, Nat.zero_add, upd_app, stepBin, abin, stepUn, stepPick, stepExtract, stepCall, if_true, if_false, reduceCtorEq, ↓reduceIte, Nat.reduceEqDiff, Nat.reduceAdd, List.map_cons, List.map_nil, Option.map_some, Option.map_none, Bool.false_eq_true, Int.reduceLE, Int.reduceToNat, ne_eq, not_false_eq_true, and_self, and_true, true_and, decide_true, decide_false] <;> rfl) ?_
  by_cases h150 : l.length > 150
  · have d : decide ((l.length : Int) > 150) = true := by simp; omega
    refine w_assoc (s_run (by simp only [runL, List.drop_succ_cons, List.drop_zero, awant_some, Option.getD_some, List.getElem?_toArray, List.getElem?_cons_succ, List.getElem?_cons_zero, Option.bind_some, b_tt, b_tf, b_ft, b_ff, Bool.not_true, Bool.not_false, List.take_succ_cons, List.take_zero, awant_none, astep, evl, put, ap_none, ap_new, ap_wr, List.length_nil, List.length_cons, Nat.add_zero, Nat.zero_add, upd_app, stepBin, abin, stepUn, stepPick, stepExtract, stepCall, if_true, if_false, reduceCtorEq, ↓reduceIte, Nat.reduceEqDiff, Nat.reduceAdd, List.map_cons, List.map_nil, Option.map_some, Option.map_none, Bool.false_eq_true, Int.reduceLE, Int.reduceToNat, ne_eq, not_false_eq_true, and_self, and_true, true_and, decide_true, decide_false, hlen, d] <;> rfl) ?_)
    refine s_true (by simp [evl, upd_app]) (w_assoc (s_run (by simp only [runL, List.drop_succ_cons, List.drop_zero, awant_some, Option.getD_some, List.getElem?_toArray, List.getElem?_cons_succ, List.getElem?_cons_zero, Option.bind_some, b_tt, b_tf, b_ft, b_ff, Bool.not_true, Bool.not_false, List.take_succ_cons, List.take_zero, awant_none, astep, evl, put, ap_none, ap_new, ap_wr, List.length_nil, List.length_cons, Nat.add_zero, Nat.zero_add, upd_app, stepBin, abin, stepUn, stepPick, stepExtract, stepCall, if_true, if_false, reduceCtorEq, ↓reduceIte, Nat.reduceEqDiff, Nat.reduceAdd, List.map_cons, List.map_nil, Option.map_some, Option.map_none, Bool.false_eq_true, Int.reduceLE, Int.reduceToNat, ne_eq, not_false_eq_true, and_self, and_true, true_and, decide_true, decide_false] <;> rfl) ?_))
    refine s_ret ⟨.inr rfl, by simp, [], fin_none ?_ trivial (fun _ _ h => h)⟩
    simp [resVal, upd_app]
  have d : decide ((l.length : Int) > 150) = false := by simp; omega
  refine w_assoc (s_run (by simp only [runL, List.drop_succ_cons, List.drop_zero, awant_some, Option.getD_some, List.getElem?_toArray, List.getElem?_cons_succ, List.getElem?_cons_zero, Option.bind_some, b_tt, b_tf, b_ft, b_ff, Bool.not_true, Bool.not_false, List.take_succ_cons, List.take_zero, awant_none, astep, evl, put, ap_none, ap_new, ap_wr, List.length_nil, List.length_cons, Nat.add_zero, Nat.zero_add, upd_app, stepBin, abin, stepUn, stepPick, stepExtract, stepCall, if_true, if_false, reduceCtorEq, ↓reduceIte, Nat.reduceEqDiff, Nat.reduceAdd, List.map_cons, List.map_nil, Option.map_some, Option.map_none, Bool.false_eq_true, Int.reduceLE, Int.reduceToNat, ne_eq, not_false_eq_true, and_self, and_true, true_and, decide_true, decide_false, hlen, d] <;> rfl) ?_)
  refine s_false (by simp [evl, upd_app]) (s_skip ?_)
  refine w_gen (fun t => t 0 = v) (by simp [upd_app]) ?_
  intro t t0
  refine s_take 1 (by simp only [runL, List.drop_succ_cons, List.drop_zero, awant_some, Option.getD_some, List.getElem?_toArray, List.getElem?_cons_succ, List.getElem?_cons_zero, Option.bind_some, b_tt, b_tf, b_ft, b_ff, Bool.not_true, Bool.not_false, List.take_succ_cons, List.take_zero, awant_none, astep, evl, put, ap_none, ap_new, ap_wr, List.length_nil, List.length_cons, Nat.add_zero, Nat.zero_add, upd_app, stepBin, abin, stepUn, stepPick, stepExtract, stepCall, if_true, if_false, reduceCtorEq, ↓reduceIte, Nat.reduceEqDiff, Nat.reduceAdd, List.map_cons, List.map_nil, Option.map_some, Option.map_none, Bool.false_eq_true, Int.reduceLE, Int.reduceToNat, ne_eq, not_false_eq_true, and_self, and_true, true_and, decide_true, decide_false, t0] <;> rfl) ?_
  obtain ⟨va, u1, u2, u3, u4, u5, u6, u7, u8⟩ := root_use v l g2 n
  refine ops_call 21 _ rfl (root_spec v l g2 n (by omega) hv2) (by intro h; exact u6 h) (ops_heap fun G1 hG1 => ops_num fun N1 hN1 => ?_)
  rw [← hG1] at u2 u3
  rw [u1]
  refine ops_run (by simp only [runL, List.drop_succ_cons, List.drop_zero, awant_some, Option.getD_some, List.getElem?_toArray, List.getElem?_cons_succ, List.getElem?_cons_zero, Option.bind_some, b_tt, b_tf, b_ft, b_ff, Bool.not_true, Bool.not_false, List.take_succ_cons, List.take_zero, awant_none, astep, evl, put, ap_none, ap_new, ap_wr, List.length_nil, List.length_cons, Nat.add_zero, Nat.zero_add, upd_app, stepBin, abin, stepUn, stepPick, stepExtract, stepCall, if_true, if_false, reduceCtorEq, ↓reduceIte, Nat.reduceEqDiff, Nat.reduceAdd, List.map_cons, List.map_nil, Option.map_some, Option.map_none, Bool.false_eq_true, Int.reduceLE, Int.reduceToNat, ne_eq, not_false_eq_true, and_self, and_true, true_and, decide_true, decide_false] <;> rfl) ?_
  have e1 : ∀ k, k < n → G1 k = g2 k := fun k hk => u3 k (by omega)
  have hv3 : Src G1 v 1 l.length (bs l) := hv2.congr fun k hk => e1 k (hdom k hk)
  obtain ⟨vb, b1, b2, b3⟩ := rroot_all v l G1 (by omega) hb hv3
  refine w_gen (fun t => t 0 = v ∧ t 3 = va ∧ t 4 = .int .i64 (l.length / rootLen l : Nat)) (by simp [upd_app, put, t0]) ?_
  clear t0
  rintro t ⟨t0, t3, t4⟩
  refine s_take 1 (by simp only [runL, List.drop_succ_cons, List.drop_zero, awant_some, Option.getD_some, List.getElem?_toArray, List.getElem?_cons_succ, List.getElem?_cons_zero, Option.bind_some, b_tt, b_tf, b_ft, b_ff, Bool.not_true, Bool.not_false, List.take_succ_cons, List.take_zero, awant_none, astep, evl, put, ap_none, ap_new, ap_wr, List.length_nil, List.length_cons, Nat.add_zero, Nat.zero_add, upd_app, stepBin, abin, stepUn, stepPick, stepExtract, stepCall, if_true, if_false, reduceCtorEq, ↓reduceIte, Nat.reduceEqDiff, Nat.reduceAdd, List.map_cons, List.map_nil, Option.map_some, Option.map_none, Bool.false_eq_true, Int.reduceLE, Int.reduceToNat, ne_eq, not_false_eq_true, and_self, and_true, true_and, decide_true, decide_false, t0] <;> rfl) ?_
  refine ops_call 22 _ rfl b3 (by simp) ?_
  refine ops_run (by simp only [runL, List.drop_succ_cons, List.drop_zero, awant_some, Option.getD_some, List.getElem?_toArray, List.getElem?_cons_succ, List.getElem?_cons_zero, Option.bind_some, b_tt, b_tf, b_ft, b_ff, Bool.not_true, Bool.not_false, List.take_succ_cons, List.take_zero, awant_none, astep, evl, put, ap_none, ap_new, ap_wr, List.length_nil, List.length_cons, Nat.add_zero, Nat.zero_add, upd_app, stepBin, abin, stepUn, stepPick, stepExtract, stepCall, if_true, if_false, reduceCtorEq, ↓reduceIte, Nat.reduceEqDiff, Nat.reduceAdd, List.map_cons, List.map_nil, Option.map_some, Option.map_none, Bool.false_eq_true, Int.reduceLE, Int.reduceToNat, ne_eq, not_false_eq_true, and_self, and_true, true_and, decide_true, decide_false] <;> rfl) ?_
  refine w_gen (fun t => t 0 = v ∧ t 3 = va ∧ t 4 = .int .i64 (l.length / rootLen l : Nat) ∧ t 5 = vb ∧ t 6 = .int .i64 (l.length / rootLen l : Nat)) (by simp [upd_app, put, t0, t3, t4]) ?_
  clear t0 t3 t4
  rintro t ⟨t0, t3, t4, t5, t6⟩
  refine s_take 1 (by simp only [runL, List.drop_succ_cons, List.drop_zero, awant_some, Option.getD_some, List.getElem?_toArray, List.getElem?_cons_succ, List.getElem?_cons_zero, Option.bind_some, b_tt, b_tf, b_ft, b_ff, Bool.not_true, Bool.not_false, List.take_succ_cons, List.take_zero, awant_none, astep, evl, put, ap_none, ap_new, ap_wr, List.length_nil, List.length_cons, Nat.add_zero, Nat.zero_add, upd_app, stepBin, abin, stepUn, stepPick, stepExtract, stepCall, if_true, if_false, reduceCtorEq, ↓reduceIte, Nat.reduceEqDiff, Nat.reduceAdd, List.map_cons, List.map_nil, Option.map_some, Option.map_none, Bool.false_eq_true, Int.reduceLE, Int.reduceToNat, ne_eq, not_false_eq_true, and_self, and_true, true_and, decide_true, decide_false, t0] <;> rfl) ?_
  refine ops_call 24 _ rfl (borders_spec v l G1 N1 (by omega) hv3) (by intro _; rfl) (ops_heap fun G2 hG2 => ?_)
  have hnN : n ≤ N1 := by rw [hN1]; omega
  have g2n : G2 N1 = some ⟨false, 3, ints (borders l)⟩ := by rw [hG2]; simp [ap_new, upd_app]
  have e2 : ∀ k, k < N1 → G2 k = G1 k := fun k hk => by rw [hG2]; simp [ap_new, upd_app]; omega
  have hv4 : Src G2 v 1 l.length (bs l) := hv3.congr fun k hk => e2 k (by have := hdom k hk; omega)
  obtain ⟨w1, w2, w3, w4, w5, w6⟩ := ints_use (borders l) (srcBlk v) G2 (N1 + 1)
  refine ops_take 1 (by simp only [runL, List.drop_succ_cons, List.drop_zero, awant_some, Option.getD_some, List.getElem?_toArray, List.getElem?_cons_succ, List.getElem?_cons_zero, Option.bind_some, b_tt, b_tf, b_ft, b_ff, Bool.not_true, Bool.not_false, List.take_succ_cons, List.take_zero, awant_none, astep, evl, put, ap_none, ap_new, ap_wr, List.length_nil, List.length_cons, Nat.add_zero, Nat.zero_add, upd_app, stepBin, abin, stepUn, stepPick, stepExtract, stepCall, if_true, if_false, reduceCtorEq, ↓reduceIte, Nat.reduceEqDiff, Nat.reduceAdd, List.map_cons, List.map_nil, Option.map_some, Option.map_none, Bool.false_eq_true, Int.reduceLE, Int.reduceToNat, ne_eq, not_false_eq_true, and_self, and_true, true_and, decide_true, decide_false, t0] <;> rfl) ?_
  refine ops_call 25 _ rfl (rborders_spec v l G2 (N1 + 1) (by omega) hb hv4) (by intro h; exact w5 h) (ops_heap fun G3 hG3 => ops_num fun N3 hN3 => ?_)
  rw [← hG3] at w1 w2
  have hbl : (borders l).length = l.length := by simp [borders]
  have hsa : Src G3 (.slice (some ⟨N1, 0, some l.length⟩) l.length 1) 1 ((borders l).map fun (b : Nat) => (b : Int)).length (((borders l).map fun (b : Nat) => (b : Int)).map (Value.int .i64)) := by
    rw [← ints_ints, List.length_map, ← hbl]
    refine src_ints (k := N1) (ro := false) (e := 3) ?_
    rw [w2 N1 (by omega), g2n]
  have hsb : Src G3 (intsE (borders l) (srcBlk v) (N1 + 1)).v 1 ((borders l).map fun (b : Nat) => (b : Int)).length (((borders l).map fun (b : Nat) => (b : Int)).map (Value.int .i64)) := by
    rw [← ints_ints, List.length_map]; exact w1
  have hints := ints_spec _ _ _ _ G3 (by simp [hbl]; omega) (by simp [hbl]; omega) hsa hsb
  refine ops_call 23 _ rfl hints (by simp) ?_
  have e3 : ∀ k, k < N1 → G3 k = G1 k := fun k hk => by rw [w2 k (by omega), e2 k hk]
  have hv5 : Src G3 v 1 l.length (bs l) := hv3.congr fun k hk => e3 k (by have := hdom k hk; omega)
  have ha5 : Src G3 va 1 (l.take (rootLen l)).length (bs (l.take (rootLen l))) := u2.congr fun k hk => e3 k (by
    have := u4 k hk
    omega)
  have hb5 : Src G3 vb 1 (l.take (rootLen l)).length (bs (l.take (rootLen l))) := b1.congr fun k hk => e3 k (by have := hdom k (b2 k hk); omega)
  obtain ⟨r1, x1, _⟩ := src_str ha5
  obtain ⟨r2, x2, _⟩ := src_str hb5
  refine ops_take 2 (by simp only [runL, List.drop_succ_cons, List.drop_zero, awant_some, Option.getD_some, List.getElem?_toArray, List.getElem?_cons_succ, List.getElem?_cons_zero, Option.bind_some, b_tt, b_tf, b_ft, b_ff, Bool.not_true, Bool.not_false, List.take_succ_cons, List.take_zero, awant_none, astep, evl, put, ap_none, ap_new, ap_wr, List.length_nil, List.length_cons, Nat.add_zero, Nat.zero_add, upd_app, stepBin, abin, stepUn, stepPick, stepExtract, stepCall, if_true, if_false, reduceCtorEq, ↓reduceIte, Nat.reduceEqDiff, Nat.reduceAdd, List.map_cons, List.map_nil, Option.map_some, Option.map_none, Bool.false_eq_true, Int.reduceLE, Int.reduceToNat, ne_eq, not_false_eq_true, and_self, and_true, true_and, decide_true, decide_false, t0, decide_true] <;> rfl) ?_
  refine g_call 26 _ (by simp only [runL, List.drop_succ_cons, List.drop_zero, awant_some, Option.getD_some, List.getElem?_toArray, List.getElem?_cons_succ, List.getElem?_cons_zero, Option.bind_some, b_tt, b_tf, b_ft, b_ff, Bool.not_true, Bool.not_false, List.take_succ_cons, List.take_zero, awant_none, astep, evl, put, ap_none, ap_new, ap_wr, List.length_nil, List.length_cons, Nat.add_zero, Nat.zero_add, upd_app, stepBin, abin, stepUn, stepPick, stepExtract, stepCall, if_true, if_false, reduceCtorEq, ↓reduceIte, Nat.reduceEqDiff, Nat.reduceAdd, List.map_cons, List.map_nil, Option.map_some, Option.map_none, Bool.false_eq_true, Int.reduceLE, Int.reduceToNat, ne_eq, not_false_eq_true, and_self, and_true, true_and, decide_true, decide_false] <;> rfl) rfl (least_spec v l G3 (by omega) hv5) (by simp) ?_
  refine ops_take 1 (by simp only [runL, List.drop_succ_cons, List.drop_zero, awant_some, Option.getD_some, List.getElem?_toArray, List.getElem?_cons_succ, List.getElem?_cons_zero, Option.bind_some, b_tt, b_tf, b_ft, b_ff, Bool.not_true, Bool.not_false, List.take_succ_cons, List.take_zero, awant_none, astep, evl, put, ap_none, ap_new, ap_wr, List.length_nil, List.length_cons, Nat.add_zero, Nat.zero_add, upd_app, stepBin, abin, stepUn, stepPick, stepExtract, stepCall, if_true, if_false, reduceCtorEq, ↓reduceIte, Nat.reduceEqDiff, Nat.reduceAdd, List.map_cons, List.map_nil, Option.map_some, Option.map_none, Bool.false_eq_true, Int.reduceLE, Int.reduceToNat, ne_eq, not_false_eq_true, and_self, and_true, true_and, decide_true, decide_false, t0] <;> rfl) ?_
  refine g_call 27 _ (by simp only [runL, List.drop_succ_cons, List.drop_zero, awant_some, Option.getD_some, List.getElem?_toArray, List.getElem?_cons_succ, List.getElem?_cons_zero, Option.bind_some, b_tt, b_tf, b_ft, b_ff, Bool.not_true, Bool.not_false, List.take_succ_cons, List.take_zero, awant_none, astep, evl, put, ap_none, ap_new, ap_wr, List.length_nil, List.length_cons, Nat.add_zero, Nat.zero_add, upd_app, stepBin, abin, stepUn, stepPick, stepExtract, stepCall, if_true, if_false, reduceCtorEq, ↓reduceIte, Nat.reduceEqDiff, Nat.reduceAdd, List.map_cons, List.map_nil, Option.map_some, Option.map_none, Bool.false_eq_true, Int.reduceLE, Int.reduceToNat, ne_eq, not_false_eq_true, and_self, and_true, true_and, decide_true, decide_false] <;> rfl) rfl (rleast_spec v l G3 (by omega) hb hv5) (by simp) ?_
  refine ops_take 15 (by simp only [runL, List.drop_succ_cons, List.drop_zero, awant_some, Option.getD_some, List.getElem?_toArray, List.getElem?_cons_succ, List.getElem?_cons_zero, Option.bind_some, b_tt, b_tf, b_ft, b_ff, Bool.not_true, Bool.not_false, List.take_succ_cons, List.take_zero, awant_none, astep, evl, put, ap_none, ap_new, ap_wr, List.length_nil, List.length_cons, Nat.add_zero, Nat.zero_add, upd_app, stepBin, abin, stepUn, stepPick, stepExtract, stepCall, if_true, if_false, reduceCtorEq, ↓reduceIte, Nat.reduceEqDiff, Nat.reduceAdd, List.map_cons, List.map_nil, Option.map_some, Option.map_none, Bool.false_eq_true, Int.reduceLE, Int.reduceToNat, ne_eq, not_false_eq_true, and_self, and_true, true_and, decide_true, decide_false, t0, t3, t4, t5, t6, x1, x2, beq_self_eq_true] <;> rfl) ?_
  refine g_call 28 _ (by simp only [runL, List.drop_succ_cons, List.drop_zero, awant_some, Option.getD_some, List.getElem?_toArray, List.getElem?_cons_succ, List.getElem?_cons_zero, Option.bind_some, b_tt, b_tf, b_ft, b_ff, Bool.not_true, Bool.not_false, List.take_succ_cons, List.take_zero, awant_none, astep, evl, put, ap_none, ap_new, ap_wr, List.length_nil, List.length_cons, Nat.add_zero, Nat.zero_add, upd_app, stepBin, abin, stepUn, stepPick, stepExtract, stepCall, if_true, if_false, reduceCtorEq, ↓reduceIte, Nat.reduceEqDiff, Nat.reduceAdd, List.map_cons, List.map_nil, Option.map_some, Option.map_none, Bool.false_eq_true, Int.reduceLE, Int.reduceToNat, ne_eq, not_false_eq_true, and_self, and_true, true_and, decide_true, decide_false] <;> rfl) rfl (pknown_spec _) (by simp) ?_
  refine ops_run (by simp only [runL, List.drop_succ_cons, List.drop_zero, awant_some, Option.getD_some, List.getElem?_toArray, List.getElem?_cons_succ, List.getElem?_cons_zero, Option.bind_some, b_tt, b_tf, b_ft, b_ff, Bool.not_true, Bool.not_false, List.take_succ_cons, List.take_zero, awant_none, astep, evl, put, ap_none, ap_new, ap_wr, List.length_nil, List.length_cons, Nat.add_zero, Nat.zero_add, upd_app, stepBin, abin, stepUn, stepPick, stepExtract, stepCall, if_true, if_false, reduceCtorEq, ↓reduceIte, Nat.reduceEqDiff, Nat.reduceAdd, List.map_cons, List.map_nil, Option.map_some, Option.map_none, Bool.false_eq_true, Int.reduceLE, Int.reduceToNat, ne_eq, not_false_eq_true, and_self, and_true, true_and, decide_true, decide_false] <;> rfl) ?_
  refine w_ret ⟨.inr rfl, by simp, [], fin_none ?_ trivial ?_⟩
  · simp [resVal, upd_app]
  · intro i b hb
    have := hs i (hwf i b hb).1
    show G3 i = some b
    rw [e3 i (by omega), e1 i this, hb]
end Go.Proofs.Ytokmmcfnpobldaa
