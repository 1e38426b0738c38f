import Derived.Test.YtokmmcfnpobldaaV28
namespace Go.Proofs.Ytokmmcfnpobldaa
open Go Abs
set_option linter.unusedSimpArgs false
set_option linter.unusedVariables false

theorem rootLen_nil {l : List Nat} (h : l.length = 0) : rootLen l = 0 := by
  have : least l = 0 := by rw [least, if_pos h]
  rw [rootLen, this, h]; simp

/-- What a root is, in both cases. -/
theorem root_use (v : Value) (l : List Nat) (G : Heap) (j : Nat) : ∃ va, (rootE v l j).v = .tuple #[va, .int .i64 (l.length / rootLen l : Nat)] ∧ Src ((rootE v l j).ap G) va 1 (l.take (rootLen l)).length (bs (l.take (rootLen l))) ∧ (∀ k, k ≠ j → (rootE v l j).ap G k = G k) ∧ (∀ i ∈ srcBlk va, i = j ∧ (rootE v l j).a.length = 1) ∧ (rootE v l j).r = srcBlk v ∧ ((rootE v l j).a ≠ [] → (rootE v l j).j = j) ∧ (rootE v l j).w = [] ∧ (rootE v l j).a.length ≤ 1 := by
  by_cases h : l.length = 0
  · have hn : l = [] := List.eq_nil_of_length_eq_zero h
    rw [rootE, if_pos h]
    refine ⟨.slice none 0 0, by rw [rootLen_nil h, h]; rfl, .inl ⟨rfl, by simp [hn], by simp [hn]⟩, fun k _ => rfl, by simp [srcBlk], rfl, fun h => (h rfl).elim, rfl, by simp⟩
  · have hrp := rootLen_pos l h
    have hlt : (l.take (rootLen l)).length = rootLen l := by simp; omega
    rw [rootE, if_neg h]
    refine ⟨_, rfl, ?_, fun k hk => by simp [ap_new, upd_app, hk], ?_, rfl, fun _ => rfl, rfl, by simp⟩
    · have := src_blk (g := ({ v := .tuple #[.slice (some ⟨j, 0, some (rootLen l)⟩) (rootLen l) 1, .int .i64 (l.length / rootLen l : Nat)], r := srcBlk v, j := j, a := [⟨false, 5, bs (l.take (rootLen l))⟩] } : Eff).ap G) (k := j) (e := 5) (ro := false) (l := l.take (rootLen l)) (by simp [ap_new, upd_app])
      rw [hlt] at this ⊢
      exact this
    · intro i hi
      simp [srcBlk] at hi
      exact ⟨hi.2, rfl⟩

set_option maxRecDepth 10000 in
theorem rroot_spec0 (v : Value) (l : List Nat) (g : Heap) (hv : Src g v 1 l.length (bs l)) (hb : ∀ x ∈ l, x < 256) (h0 : l.length = 0) : FnSpec Try.prog 22 [v] g { v := .tuple #[.slice none 0 0, .int .i64 0], r := srcBlk v } := by
  refine spec_of_body [2, 3] follows Try.func22 rfl (by kernel_rfl) (by simp [Try.f22]) (by kernel_rfl) rfl ?_
  intro g2 s2 n hg hfr hs hn hwf hsv
  have hv2 : Src g2 v 1 l.length (bs l) := hv.congr fun i hi => hg i (by simp [Eff.fp, hi])
  have hz : least l = 0 := by rw [least, if_pos h0]
  refine s_run (by simp only [runL, List.drop_succ_cons, List.drop_zero, awant_some, Option.getD_some, List.getElem?_toArray, List.getElem?_cons_succ, List.getElem?_cons_zero, Option.bind_some, b_tt, b_tf, b_ft, b_ff, Bool.not_true, Bool.not_false, List.take_succ_cons, List.take_zero, awant_none, astep, evl, put, ap_none, ap_new, ap_wr, List.length_nil, List.length_cons, Nat.add_zero, Nat.zero_add, upd_app, stepBin, abin, stepUn, stepPick, stepExtract, stepCall, if_true, if_false, reduceCtorEq, ↓reduceIte, Nat.reduceEqDiff, Nat.reduceAdd, List.map_cons, List.map_nil, Option.map_some, Option.map_none, Bool.false_eq_true, Int.reduceLE, Int.reduceToNat, ne_eq, not_false_eq_true, and_self, and_true, true_and, decide_true, decide_false] <;> rfl) ?_
  refine s_take 1 (by simp only [runL, List.drop_succ_cons, List.drop_zero, awant_some, Option.getD_some, List.getElem?_toArray, List.getElem?_cons_succ, List.getElem?_cons_zero, Option.bind_some, b_tt, b_tf, b_ft, b_ff, Bool.not_true, Bool.not_false, List.take_succ_cons, List.take_zero, awant_none, astep, evl, put, ap_none, ap_new, ap_wr, List.length_nil, List.length_cons, Nat.add_zero, Nat.zero_add, upd_app, stepBin, abin, stepUn, stepPick, stepExtract, stepCall, if_true, if_false, reduceCtorEq, ↓reduceIte, Nat.reduceEqDiff, Nat.reduceAdd, List.map_cons, List.map_nil, Option.map_some, Option.map_none, Bool.false_eq_true, Int.reduceLE, Int.reduceToNat, ne_eq, not_false_eq_true, and_self, and_true, true_and, decide_true, decide_false] <;> rfl) ?_
  refine ops_call 27 _ rfl (rleast_spec v l g2 (by omega) hb hv2) (by simp) ?_
  rw [hz]
  refine ops_run (by simp only [runL, List.drop_succ_cons, List.drop_zero, awant_some, Option.getD_some, List.getElem?_toArray, List.getElem?_cons_succ, List.getElem?_cons_zero, Option.bind_some, b_tt, b_tf, b_ft, b_ff, Bool.not_true, Bool.not_false, List.take_succ_cons, List.take_zero, awant_none, astep, evl, put, ap_none, ap_new, ap_wr, List.length_nil, List.length_cons, Nat.add_zero, Nat.zero_add, upd_app, stepBin, abin, stepUn, stepPick, stepExtract, stepCall, if_true, if_false, reduceCtorEq, ↓reduceIte, Nat.reduceEqDiff, Nat.reduceAdd, List.map_cons, List.map_nil, Option.map_some, Option.map_none, Bool.false_eq_true, Int.reduceLE, Int.reduceToNat, ne_eq, not_false_eq_true, and_self, and_true, true_and, decide_true, decide_false] <;> rfl) ?_
  have d : (((0 : Nat) : Int) == 0) = true := rfl
  refine w_assoc (s_run (by simp only [runL, List.drop_succ_cons, List.drop_zero, awant_some, Option.getD_some, List.getElem?_toArray, List.getElem?_cons_succ, List.getElem?_cons_zero, Option.bind_some, b_tt, b_tf, b_ft, b_ff, Bool.not_true, Bool.not_false, List.take_succ_cons, List.take_zero, awant_none, astep, evl, put, ap_none, ap_new, ap_wr, List.length_nil, List.length_cons, Nat.add_zero, Nat.zero_add, upd_app, stepBin, abin, stepUn, stepPick, stepExtract, stepCall, if_true, if_false, reduceCtorEq, ↓reduceIte, Nat.reduceEqDiff, Nat.reduceAdd, List.map_cons, List.map_nil, Option.map_some, Option.map_none, Bool.false_eq_true, Int.reduceLE, Int.reduceToNat, ne_eq, not_false_eq_true, and_self, and_true, true_and, decide_true, decide_false, d] <;> rfl) ?_)
  refine s_true (by simp [evl, upd_app]) (w_assoc (s_run (by simp only [runL, List.drop_succ_cons, List.drop_zero, awant_some, Option.getD_some, List.getElem?_toArray, List.getElem?_cons_succ, List.getElem?_cons_zero, Option.bind_some, b_tt, b_tf, b_ft, b_ff, Bool.not_true, Bool.not_false, List.take_succ_cons, List.take_zero, awant_none, astep, evl, put, ap_none, ap_new, ap_wr, List.length_nil, List.length_cons, Nat.add_zero, Nat.zero_add, upd_app, stepBin, abin, stepUn, stepPick, stepExtract, stepCall, if_true, if_false, reduceCtorEq, ↓reduceIte, Nat.reduceEqDiff, Nat.reduceAdd, List.map_cons, List.map_nil, Option.map_some, Option.map_none, Bool.false_eq_true, Int.reduceLE, Int.reduceToNat, ne_eq, not_false_eq_true, and_self, and_true, true_and, decide_true, decide_false] <;> rfl) ?_))
  refine s_ret ⟨.inr rfl, fun _ r hr => ?_, [], fin_none ?_ (by intro c hc; simp at hc; rcases hc with rfl | rfl <;> trivial) (fun _ _ h => h)⟩
  · simp only [List.mem_cons, List.not_mem_nil, or_false] at hr
    rcases hr with rfl | rfl <;> simp [upd_app, isTup]
  · simp [resVal, upd_app]

/-- The reference's root, in both cases. -/
theorem rroot_all (v : Value) (l : List Nat) (g : Heap) (hl : l.length ≤ 2 ^ 39) (hb : ∀ x ∈ l, x < 256) (hv : Src g v 1 l.length (bs l)) :
    ∃ v', Src g v' 1 (l.take (rootLen l)).length (bs (l.take (rootLen l))) ∧ (∀ i ∈ srcBlk v', i ∈ srcBlk v) ∧ FnSpec Try.prog 22 [v] g { v := .tuple #[v', .int .i64 (l.length / rootLen l : Nat)], r := srcBlk v } := by
  by_cases h : l.length = 0
  · have hn : l = [] := List.eq_nil_of_length_eq_zero h
    have := rroot_spec0 v l g hv hb h
    refine ⟨.slice none 0 0, .inl ⟨rfl, by simp [hn], by simp [hn]⟩, by simp [srcBlk], ?_⟩
    rw [rootLen_nil h, h]
    exact this
  · exact rroot_spec v l g hl hb hv h
end Go.Proofs.Ytokmmcfnpobldaa
