import Derived.Test.YtokmmcfnpobldaaV25
namespace Go.Proofs.Ytokmmcfnpobldaa
open Go Abs
set_option linter.unusedSimpArgs false
set_option linter.unusedVariables false

set_option maxRecDepth 10000 in
/-- The reference's root: a part of the slice. -/
theorem rroot_spec (v : Value) (l : List Nat) (g : Heap) (hl : l.length ≤ 2 ^ 39) (hb : ∀ x ∈ l, x < 256) (hv : Src g v 1 l.length (bs l)) (h0 : l.length ≠ 0) :
    ∃ v', Src g v' 1 (l.take (rootLen l)).length (bs (l.take (rootLen l))) ∧ (∀ i ∈ srcBlk v', i ∈ srcBlk v) ∧ FnSpec Try.prog 22 [v] g { v := .tuple #[v', .int .i64 (l.length / rootLen l : Nat)], r := srcBlk v } := by
  have hlp := least_pos l h0
  have hrp := rootLen_pos l h0
  obtain ⟨v', hs1, hs2, hs3, hs4⟩ := hv.slice Try.underlying23 tsize5 none (some (.int .i64 (rootLen l : Int))) 0 (rootLen l) rfl rfl (by omega) hrp.2
  have hlt : (l.take (rootLen l)).length = rootLen l := by simp; omega
  refine ⟨v', by rw [hlt]; simpa using hs2, hs3, ?_⟩
  refine spec_of_body [2, 3] follows Try.func22 rfl (by kernel_rfl) (by simp [Try.f22]) (by kernel_rfl) rfl ?_
  intro g2 s2 n hg hfr hs hn hwf hsv
  have hv2 : Src g2 v 1 l.length (bs l) := hv.congr fun i hi => hg i (by simp [Eff.fp, hi])
  have hlen := hv2.len Try.underlying23
  refine s_run (by simp only [runL, List.drop_succ_cons, List.drop_zero, awant_some, Option.getD_some, List.getElem?_toArray, List.getElem?_cons_succ, List.getElem?_cons_zero, Option.bind_some, b_tt, b_tf, b_ft, b_ff, Bool.not_true, Bool.not_false, List.take_succ_cons, List.take_zero, awant_none, astep, evl, put, ap_none, ap_new, ap_wr, List.length_nil, List.length_cons, Nat.add_zero, Nat.zero_add, upd_app, stepBin, abin, stepUn, stepPick, stepExtract, stepCall, if_true, if_false, reduceCtorEq, ↓reduceIte, Nat.reduceEqDiff, Nat.reduceAdd, List.map_cons, List.map_nil, Option.map_some, Option.map_none, Bool.false_eq_true, Int.reduceLE, Int.reduceToNat, ne_eq, not_false_eq_true, and_self, and_true, true_and, decide_true, decide_false] <;> rfl) ?_
  refine s_take 1 (by simp only [runL, List.drop_succ_cons, List.drop_zero, awant_some, Option.getD_some, List.getElem?_toArray, List.getElem?_cons_succ, List.getElem?_cons_zero, Option.bind_some, b_tt, b_tf, b_ft, b_ff, Bool.not_true, Bool.not_false, List.take_succ_cons, List.take_zero, awant_none, astep, evl, put, ap_none, ap_new, ap_wr, List.length_nil, List.length_cons, Nat.add_zero, Nat.zero_add, upd_app, stepBin, abin, stepUn, stepPick, stepExtract, stepCall, if_true, if_false, reduceCtorEq, ↓reduceIte, Nat.reduceEqDiff, Nat.reduceAdd, List.map_cons, List.map_nil, Option.map_some, Option.map_none, Bool.false_eq_true, Int.reduceLE, Int.reduceToNat, ne_eq, not_false_eq_true, and_self, and_true, true_and, decide_true, decide_false] <;> rfl) ?_
  refine ops_call 27 _ rfl (rleast_spec v l g2 (by omega) hb hv2) (by simp) ?_
  refine ops_run (by simp only [runL, List.drop_succ_cons, List.drop_zero, awant_some, Option.getD_some, List.getElem?_toArray, List.getElem?_cons_succ, List.getElem?_cons_zero, Option.bind_some, b_tt, b_tf, b_ft, b_ff, Bool.not_true, Bool.not_false, List.take_succ_cons, List.take_zero, awant_none, astep, evl, put, ap_none, ap_new, ap_wr, List.length_nil, List.length_cons, Nat.add_zero, Nat.zero_add, upd_app, stepBin, abin, stepUn, stepPick, stepExtract, stepCall, if_true, if_false, reduceCtorEq, ↓reduceIte, Nat.reduceEqDiff, Nat.reduceAdd, List.map_cons, List.map_nil, Option.map_some, Option.map_none, Bool.false_eq_true, Int.reduceLE, Int.reduceToNat, ne_eq, not_false_eq_true, and_self, and_true, true_and, decide_true, decide_false] <;> rfl) ?_
  refine w_gen (fun t => t 0 = v ∧ t 4 = .int .i64 (least l)) (by simp [upd_app, put]) ?_
  rintro t ⟨t0, t4⟩
  have hz : (((least l : Nat) : Int) = 0) = False := by simp; omega
  have hz0 : (((least l : Nat) : Int) == 0) = false := by rw [beq_eq_false_iff_ne]; omega
  have hz' : (((rootLen l : Nat) : Int) = 0) = False := by simp; omega
  have hmod : (l.length : Int).tmod (least l : Int) = ((l.length % least l : Nat) : Int) := by rw [Int.tmod_eq_emod_of_nonneg (by omega)]; simp
  have hdiv : IntKind.i64.wrap ((l.length : Int).tdiv (rootLen l : Int)) = ((l.length / rootLen l : Nat) : Int) := by
    have := Nat.div_le_self l.length (rootLen l)
    rw [Int.tdiv_eq_ediv_of_nonneg (by omega), ← Int.natCast_ediv, wrap64_nat (by omega)]
  refine w_assoc (s_run (by simp only [runL, List.drop_succ_cons, List.drop_zero, awant_some, Option.getD_some, List.getElem?_toArray, List.getElem?_cons_succ, List.getElem?_cons_zero, Option.bind_some, b_tt, b_tf, b_ft, b_ff, Bool.not_true, Bool.not_false, List.take_succ_cons, List.take_zero, awant_none, astep, evl, put, ap_none, ap_new, ap_wr, List.length_nil, List.length_cons, Nat.add_zero, Nat.zero_add, upd_app, stepBin, abin, stepUn, stepPick, stepExtract, stepCall, if_true, if_false, reduceCtorEq, ↓reduceIte, Nat.reduceEqDiff, Nat.reduceAdd, List.map_cons, List.map_nil, Option.map_some, Option.map_none, Bool.false_eq_true, Int.reduceLE, Int.reduceToNat, ne_eq, not_false_eq_true, and_self, and_true, true_and, decide_true, decide_false, t4, hz0] <;> rfl) ?_)
  refine s_false (by simp [evl, upd_app]) (s_skip ?_)
  refine s_cut (fun t g n' => t 0 = v ∧ t 4 = .int .i64 (rootLen l) ∧ g2 = g) ?_ ?_
  · by_cases hm : l.length % least l = 0
    · have d1 : (((l.length % least l : Nat) : Int) != 0) = false := by simp [hm]
      refine s_run (by simp only [runL, List.drop_succ_cons, List.drop_zero, awant_some, Option.getD_some, List.getElem?_toArray, List.getElem?_cons_succ, List.getElem?_cons_zero, Option.bind_some, b_tt, b_tf, b_ft, b_ff, Bool.not_true, Bool.not_false, List.take_succ_cons, List.take_zero, awant_none, astep, evl, put, ap_none, ap_new, ap_wr, List.length_nil, List.length_cons, Nat.add_zero, Nat.zero_add, upd_app, stepBin, abin, stepUn, stepPick, stepExtract, stepCall, if_true, if_false, reduceCtorEq, ↓reduceIte, Nat.reduceEqDiff, Nat.reduceAdd, List.map_cons, List.map_nil, Option.map_some, Option.map_none, Bool.false_eq_true, Int.reduceLE, Int.reduceToNat, ne_eq, not_false_eq_true, and_self, and_true, true_and, decide_true, decide_false, t0, t4, hlen, hz, hmod, d1] <;> rfl) ?_
      refine w_false (by simp [evl, upd_app]) (w_skip ⟨rfl, by simp [upd_app, t0], ?_, rfl⟩)
      simp [upd_app, t4, rootLen, hm]
    · have d1 : (((l.length % least l : Nat) : Int) != 0) = true := by simp; omega
      refine s_run (by simp only [runL, List.drop_succ_cons, List.drop_zero, awant_some, Option.getD_some, List.getElem?_toArray, List.getElem?_cons_succ, List.getElem?_cons_zero, Option.bind_some, b_tt, b_tf, b_ft, b_ff, Bool.not_true, Bool.not_false, List.take_succ_cons, List.take_zero, awant_none, astep, evl, put, ap_none, ap_new, ap_wr, List.length_nil, List.length_cons, Nat.add_zero, Nat.zero_add, upd_app, stepBin, abin, stepUn, stepPick, stepExtract, stepCall, if_true, if_false, reduceCtorEq, ↓reduceIte, Nat.reduceEqDiff, Nat.reduceAdd, List.map_cons, List.map_nil, Option.map_some, Option.map_none, Bool.false_eq_true, Int.reduceLE, Int.reduceToNat, ne_eq, not_false_eq_true, and_self, and_true, true_and, decide_true, decide_false, t0, t4, hlen, hz, hmod, d1] <;> rfl) ?_
      refine w_true (by simp [evl, upd_app]) (region_run (id := 5) (by simp only [runL, List.drop_succ_cons, List.drop_zero, awant_some, Option.getD_some, List.getElem?_toArray, List.getElem?_cons_succ, List.getElem?_cons_zero, Option.bind_some, b_tt, b_tf, b_ft, b_ff, Bool.not_true, Bool.not_false, List.take_succ_cons, List.take_zero, awant_none, astep, evl, put, ap_none, ap_new, ap_wr, List.length_nil, List.length_cons, Nat.add_zero, Nat.zero_add, upd_app, stepBin, abin, stepUn, stepPick, stepExtract, stepCall, if_true, if_false, reduceCtorEq, ↓reduceIte, Nat.reduceEqDiff, Nat.reduceAdd, List.map_cons, List.map_nil, Option.map_some, Option.map_none, Bool.false_eq_true, Int.reduceLE, Int.reduceToNat, ne_eq, not_false_eq_true, and_self, and_true, true_and, decide_true, decide_false, t0, hlen] <;> rfl) ⟨rfl, by simp [upd_app, t0], ?_, rfl⟩)
      simp [upd_app, rootLen, hm]
  · clear t0 t4
    rintro t g n' ⟨t0, t4, rfl⟩
    refine s_draw #[0, 0, 3, 0, 8, 0, 56, 7, 255] (by decide +kernel) (by simp only [runR, List.drop_succ_cons, List.drop_zero, awant_some, Option.getD_some, List.getElem?_toArray, List.getElem?_cons_succ, List.getElem?_cons_zero, Option.bind_some, b_tt, b_tf, b_ft, b_ff, Bool.not_true, Bool.not_false, List.take_succ_cons, List.take_zero, awant_none, astep, evl, put, ap_none, ap_new, ap_wr, List.length_nil, List.length_cons, Nat.add_zero, Nat.zero_add, upd_app, stepBin, abin, stepUn, stepPick, stepExtract, stepCall, if_true, if_false, reduceCtorEq, ↓reduceIte, Nat.reduceEqDiff, Nat.reduceAdd, List.map_cons, List.map_nil, Option.map_some, Option.map_none, Bool.false_eq_true, Int.reduceLE, Int.reduceToNat, ne_eq, not_false_eq_true, and_self, and_true, true_and, decide_true, decide_false, List.isEmpty_nil, Bool.and_self, Bool.and_true, t0, t4, hs1, hlen, hz', hdiv] <;> rfl) ?_
    have hvt : isTup v' = false := by
      obtain ⟨a, e, rfl⟩ := hs2.shape
      rfl
    refine w_ret ⟨.inr rfl, fun _ r hr => ?_, [], fin_none ?_ ?_ (fun _ _ h => h)⟩
    · simp only [List.mem_cons, List.not_mem_nil, or_false] at hr
      rcases hr with rfl | rfl
      · exact hvt
      · rfl
    · simp [resVal, upd_app]
    · intro c hc
      simp at hc
      rcases hc with rfl | rfl
      · have h1 := hs4 s2 (hsv v (by simp))
        obtain ⟨a, e, rfl⟩ := hs2.shape
        exact h1
      · trivial
end Go.Proofs.Ytokmmcfnpobldaa
