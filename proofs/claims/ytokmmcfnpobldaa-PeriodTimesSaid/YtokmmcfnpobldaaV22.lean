import Derived.Test.YtokmmcfnpobldaaV21
import Derived.Test.YtokmmcfnpobldaaAbs17
namespace Go.Proofs.Ytokmmcfnpobldaa
open Go Abs
set_option linter.unusedSimpArgs false
set_option linter.unusedVariables false

theorem wrap64_nat {p : Nat} (h : p < 2 ^ 63) : IntKind.i64.wrap (p : Int) = (p : Int) := wrap64_of (by omega) (by omega)

/-- A root and how often: what both functions come to. -/
def rootE (v : Value) (l : List Nat) (j : Nat) : Eff :=
  if l.length = 0 then { v := .tuple #[.slice none 0 0, .int .i64 0], r := srcBlk v, j := j }
  else { v := .tuple #[.slice (some ⟨j, 0, some (rootLen l)⟩) (rootLen l) 1, .int .i64 (l.length / rootLen l : Nat)], r := srcBlk v, j := j, a := [⟨false, 5, bs (l.take (rootLen l))⟩] }

theorem least_pos (l : List Nat) (h : l.length ≠ 0) : 1 ≤ least l ∧ least l ≤ l.length := by
  have := mx_lt (s := l) (n := l.length) (by omega)
  rw [least, if_neg h]; omega

theorem rootLen_pos (l : List Nat) (h : l.length ≠ 0) : 1 ≤ rootLen l ∧ rootLen l ≤ l.length := by
  have := least_pos l h
  unfold rootLen
  split <;> omega

theorem src_notnil {g : Heap} {v : Value} {m : Nat} {cs : List Value} (h : Src g v 1 m cs) (hm : 0 < m) : isNil v = false := by
  rcases h with ⟨_, rfl, _⟩ | ⟨a, _, rfl, _⟩ | ⟨a, b, rfl, _⟩
  · omega
  · omega
  · rfl

set_option maxRecDepth 10000 in
theorem root_spec (v : Value) (l : List Nat) (g : Heap) (j : Nat) (hl : l.length ≤ 2 ^ 40) (hv : Src g v 1 l.length (bs l)) : FnSpec Try.prog 21 [v] g (rootE v l j) := by
  refine spec_of_body [2, 3] follows Try.func21 rfl (by kernel_rfl) (by simp [Try.f21]) (by kernel_rfl) rfl ?_
  intro g2 s2 n hg hfr hs hn hwf hsv
  have hv2 : Src g2 v 1 l.length (bs l) := hv.congr fun i hi => hg i (by
    unfold rootE
    split <;> simp [Eff.fp, hi])
  have hlen := hv2.len Try.underlying23
  have hdom : ∀ i ∈ srcBlk v, i < n := fun i hi => by
    obtain ⟨b, hb⟩ := Option.isSome_iff_exists.1 (hv2.dom i hi)
    exact hs i (hwf i b hb).1
  refine s_run (by simp only [runL, List.drop_succ_cons, List.drop_zero, awant_some, Option.getD_some, List.getElem?_toArray, List.getElem?_cons_succ, List.getElem?_cons_zero, Option.bind_some, b_tt, b_tf, b_ft, b_ff, Bool.not_true, Bool.not_false, List.take_succ_cons, List.take_zero, awant_none, astep, evl, put, ap_none, ap_new, ap_wr, List.length_nil, List.length_cons, Nat.add_zero, Nat.zero_add, upd_app, stepBin, abin, stepUn, stepPick, stepExtract, stepCall, if_true, if_false, reduceCtorEq, ↓reduceIte, Nat.reduceEqDiff, Nat.reduceAdd, List.map_cons, List.map_nil, Option.map_some, Option.map_none, Bool.false_eq_true, Int.reduceLE, Int.reduceToNat, ne_eq, not_false_eq_true, and_self, and_true, true_and, decide_true, decide_false] <;> rfl) ?_
  by_cases h0 : l.length = 0
  · have e : rootE v l j = { v := .tuple #[.slice none 0 0, .int .i64 0], r := srcBlk v, j := j } := by rw [rootE, if_pos h0]
    rw [e]
    have d : ((l.length : Int) == 0) = true := by simp [h0]
    refine w_assoc (s_run (by simp only [runL, List.drop_succ_cons, List.drop_zero, awant_some, Option.getD_some, List.getElem?_toArray, List.getElem?_cons_succ, List.getElem?_cons_zero, Option.bind_some, b_tt, b_tf, b_ft, b_ff, Bool.not_true, Bool.not_false, List.take_succ_cons, List.take_zero, awant_none, astep, evl, put, ap_none, ap_new, ap_wr, List.length_nil, List.length_cons, Nat.add_zero, Nat.zero_add, upd_app, stepBin, abin, stepUn, stepPick, stepExtract, stepCall, if_true, if_false, reduceCtorEq, ↓reduceIte, Nat.reduceEqDiff, Nat.reduceAdd, List.map_cons, List.map_nil, Option.map_some, Option.map_none, Bool.false_eq_true, Int.reduceLE, Int.reduceToNat, ne_eq, not_false_eq_true, and_self, and_true, true_and, decide_true, decide_false, hlen, d] <;> rfl) ?_)
    refine s_true (by simp [evl, upd_app]) (w_assoc (s_run (by simp only [runL, List.drop_succ_cons, List.drop_zero, awant_some, Option.getD_some, List.getElem?_toArray, List.getElem?_cons_succ, List.getElem?_cons_zero, Option.bind_some, b_tt, b_tf, b_ft, b_ff, Bool.not_true, Bool.not_false, List.take_succ_cons, List.take_zero, awant_none, astep, evl, put, ap_none, ap_new, ap_wr, List.length_nil, List.length_cons, Nat.add_zero, Nat.zero_add, upd_app, stepBin, abin, stepUn, stepPick, stepExtract, stepCall, if_true, if_false, reduceCtorEq, ↓reduceIte, Nat.reduceEqDiff, Nat.reduceAdd, List.map_cons, List.map_nil, Option.map_some, Option.map_none, Bool.false_eq_true, Int.reduceLE, Int.reduceToNat, ne_eq, not_false_eq_true, and_self, and_true, true_and, decide_true, decide_false] <;> rfl) ?_))
    refine s_ret ⟨.inr rfl, fun _ r hr => ?_, [], fin_none ?_ (by intro c hc; simp at hc; rcases hc with rfl | rfl <;> trivial) (fun _ _ h => h)⟩
    · simp only [List.mem_cons, List.not_mem_nil, or_false] at hr
      rcases hr with rfl | rfl <;> simp [upd_app, isTup]
    · simp [resVal, upd_app]
  · have e : rootE v l j = { v := .tuple #[.slice (some ⟨j, 0, some (rootLen l)⟩) (rootLen l) 1, .int .i64 (l.length / rootLen l : Nat)], r := srcBlk v, j := j, a := [⟨false, 5, bs (l.take (rootLen l))⟩] } := by rw [rootE, if_neg h0]
    rw [e]
    have d : ((l.length : Int) == 0) = false := by rw [beq_eq_false_iff_ne]; omega
    refine w_assoc (s_run (by simp only [runL, List.drop_succ_cons, List.drop_zero, awant_some, Option.getD_some, List.getElem?_toArray, List.getElem?_cons_succ, List.getElem?_cons_zero, Option.bind_some, b_tt, b_tf, b_ft, b_ff, Bool.not_true, Bool.not_false, List.take_succ_cons, List.take_zero, awant_none, astep, evl, put, ap_none, ap_new, ap_wr, List.length_nil, List.length_cons, Nat.add_zero, Nat.zero_add, upd_app, stepBin, abin, stepUn, stepPick, stepExtract, stepCall, if_true, if_false, reduceCtorEq, ↓reduceIte, Nat.reduceEqDiff, Nat.reduceAdd, List.map_cons, List.map_nil, Option.map_some, Option.map_none, Bool.false_eq_true, Int.reduceLE, Int.reduceToNat, ne_eq, not_false_eq_true, and_self, and_true, true_and, decide_true, decide_false, hlen, d] <;> rfl) ?_)
    refine s_false (by simp [evl, upd_app]) (s_skip ?_)
    refine w_gen (fun t => t 0 = v) (by simp [upd_app]) ?_
    intro t t0
    refine s_take 1 (by simp only [runL, List.drop_succ_cons, List.drop_zero, awant_some, Option.getD_some, List.getElem?_toArray, List.getElem?_cons_succ, List.getElem?_cons_zero, Option.bind_some, b_tt, b_tf, b_ft, b_ff, Bool.not_true, Bool.not_false, List.take_succ_cons, List.take_zero, awant_none, astep, evl, put, ap_none, ap_new, ap_wr, List.length_nil, List.length_cons, Nat.add_zero, Nat.zero_add, upd_app, stepBin, abin, stepUn, stepPick, stepExtract, stepCall, if_true, if_false, reduceCtorEq, ↓reduceIte, Nat.reduceEqDiff, Nat.reduceAdd, List.map_cons, List.map_nil, Option.map_some, Option.map_none, Bool.false_eq_true, Int.reduceLE, Int.reduceToNat, ne_eq, not_false_eq_true, and_self, and_true, true_and, decide_true, decide_false, t0] <;> rfl) ?_
    refine ops_call 26 _ rfl (least_spec v l g2 hl hv2) (by simp) ?_
    refine ops_run (by simp only [runL, List.drop_succ_cons, List.drop_zero, awant_some, Option.getD_some, List.getElem?_toArray, List.getElem?_cons_succ, List.getElem?_cons_zero, Option.bind_some, b_tt, b_tf, b_ft, b_ff, Bool.not_true, Bool.not_false, List.take_succ_cons, List.take_zero, awant_none, astep, evl, put, ap_none, ap_new, ap_wr, List.length_nil, List.length_cons, Nat.add_zero, Nat.zero_add, upd_app, stepBin, abin, stepUn, stepPick, stepExtract, stepCall, if_true, if_false, reduceCtorEq, ↓reduceIte, Nat.reduceEqDiff, Nat.reduceAdd, List.map_cons, List.map_nil, Option.map_some, Option.map_none, Bool.false_eq_true, Int.reduceLE, Int.reduceToNat, ne_eq, not_false_eq_true, and_self, and_true, true_and, decide_true, decide_false] <;> rfl) ?_
    have hlp := least_pos l h0
    have hrp := rootLen_pos l h0
    have hz : (((least l : Nat) : Int) = 0) = False := by simp; omega
    have hz' : (((rootLen l : Nat) : Int) = 0) = False := by simp; omega
    have hmod : (l.length : Int).tmod (least l : Int) = ((l.length % least l : Nat) : Int) := by rw [Int.tmod_eq_emod_of_nonneg (by omega)]; simp
    have hdiv : IntKind.i64.wrap ((l.length : Int).tdiv (rootLen l : Int)) = ((l.length / rootLen l : Nat) : Int) := by
      have := Nat.div_le_self l.length (rootLen l)
      rw [Int.tdiv_eq_ediv_of_nonneg (by omega), ← Int.natCast_ediv, wrap64_nat (by omega)]
    refine w_gen (fun t => t 0 = v ∧ t 4 = .int .i64 (least l)) (by simp [upd_app, put, t0]) ?_
    clear t0
    rintro t ⟨t0, t4⟩
    refine s_cut (fun t g n' => t 0 = v ∧ t 4 = .int .i64 (rootLen l) ∧ g2 = g ∧ n = n') ?_ ?_
    · by_cases hm : l.length % least l = 0
      · have d1 : (((l.length % least l : Nat) : Int) != 0) = false := by simp [hm]
        refine s_run (by simp only [runL, List.drop_succ_cons, List.drop_zero, awant_some, Option.getD_some, List.getElem?_toArray, List.getElem?_cons_succ, List.getElem?_cons_zero, Option.bind_some, b_tt, b_tf, b_ft, b_ff, Bool.not_true, Bool.not_false, List.take_succ_cons, List.take_zero, awant_none, astep, evl, put, ap_none, ap_new, ap_wr, List.length_nil, List.length_cons, Nat.add_zero, Nat.zero_add, upd_app, stepBin, abin, stepUn, stepPick, stepExtract, stepCall, if_true, if_false, reduceCtorEq, ↓reduceIte, Nat.reduceEqDiff, Nat.reduceAdd, List.map_cons, List.map_nil, Option.map_some, Option.map_none, Bool.false_eq_true, Int.reduceLE, Int.reduceToNat, ne_eq, not_false_eq_true, and_self, and_true, true_and, decide_true, decide_false, t0, t4, hlen, hz, hmod, d1] <;> rfl) ?_
        refine w_false (by simp [evl, upd_app]) (w_skip ⟨rfl, by simp [upd_app, t0], ?_, rfl, rfl⟩)
        simp [upd_app, t4, rootLen, hm]
      · have d1 : (((l.length % least l : Nat) : Int) != 0) = true := by simp; omega
        refine s_run (by simp only [runL, List.drop_succ_cons, List.drop_zero, awant_some, Option.getD_some, List.getElem?_toArray, List.getElem?_cons_succ, List.getElem?_cons_zero, Option.bind_some, b_tt, b_tf, b_ft, b_ff, Bool.not_true, Bool.not_false, List.take_succ_cons, List.take_zero, awant_none, astep, evl, put, ap_none, ap_new, ap_wr, List.length_nil, List.length_cons, Nat.add_zero, Nat.zero_add, upd_app, stepBin, abin, stepUn, stepPick, stepExtract, stepCall, if_true, if_false, reduceCtorEq, ↓reduceIte, Nat.reduceEqDiff, Nat.reduceAdd, List.map_cons, List.map_nil, Option.map_some, Option.map_none, Bool.false_eq_true, Int.reduceLE, Int.reduceToNat, ne_eq, not_false_eq_true, and_self, and_true, true_and, decide_true, decide_false, t0, t4, hlen, hz, hmod, d1] <;> rfl) ?_
        refine w_true (by simp [evl, upd_app]) (region_run (id := 5) (by simp only [runL, List.drop_succ_cons, List.drop_zero, awant_some, Option.getD_some, List.getElem?_toArray, List.getElem?_cons_succ, List.getElem?_cons_zero, Option.bind_some, b_tt, b_tf, b_ft, b_ff, Bool.not_true, Bool.not_false, List.take_succ_cons, List.take_zero, awant_none, astep, evl, put, ap_none, ap_new, ap_wr, List.length_nil, List.length_cons, Nat.add_zero, Nat.zero_add, upd_app, stepBin, abin, stepUn, stepPick, stepExtract, stepCall, if_true, if_false, reduceCtorEq, ↓reduceIte, Nat.reduceEqDiff, Nat.reduceAdd, List.map_cons, List.map_nil, Option.map_some, Option.map_none, Bool.false_eq_true, Int.reduceLE, Int.reduceToNat, ne_eq, not_false_eq_true, and_self, and_true, true_and, decide_true, decide_false, t0, hlen] <;> rfl) ⟨rfl, by simp [upd_app, t0], ?_, rfl, rfl⟩)
        simp [upd_app, rootLen, hm]
    · clear t0 t4
      rintro t g n' ⟨t0, t4, rfl, rfl⟩
      obtain ⟨v', hs1, hs2, hs3, hs4⟩ := hv2.slice Try.underlying23 tsize5 none (some (.int .i64 (rootLen l : Int))) 0 (rootLen l) rfl rfl (by omega) hrp.2
      have hlt : (l.take (rootLen l)).length = rootLen l := by simp; omega
      have hs5 : Src g2 v' 1 (l.take (rootLen l)).length (bs (l.take (rootLen l))) := by rw [hlt]; simpa using hs2
      have hcl := clone_spec v' (l.take (rootLen l)) g2 n (by omega) hs5
      have hce : cloneE v' (l.take (rootLen l)) n = { v := .slice (some ⟨n, 0, some (rootLen l)⟩) (rootLen l) 1, r := srcBlk v', j := n, a := [⟨false, 5, bs (l.take (rootLen l))⟩] } := by
        rw [cloneE, src_notnil hs5 (by omega), hlt]; rfl
      rw [hce] at hcl
      refine s_drawn #[0, 0, 3, 7, 0, 16, 0, 112, 15, 511] (by decide +kernel) ?_
      refine d_pure 3 (by simp only [runP, List.drop_succ_cons, List.drop_zero, awant_some, Option.getD_some, List.getElem?_toArray, List.getElem?_cons_succ, List.getElem?_cons_zero, Option.bind_some, b_tt, b_tf, b_ft, b_ff, Bool.not_true, Bool.not_false, List.take_succ_cons, List.take_zero, awant_none, astep, evl, put, ap_none, ap_new, ap_wr, List.length_nil, List.length_cons, Nat.add_zero, Nat.zero_add, upd_app, stepBin, abin, stepUn, stepPick, stepExtract, stepCall, if_true, if_false, reduceCtorEq, ↓reduceIte, Nat.reduceEqDiff, Nat.reduceAdd, List.map_cons, List.map_nil, Option.map_some, Option.map_none, Bool.false_eq_true, Int.reduceLE, Int.reduceToNat, ne_eq, not_false_eq_true, and_self, and_true, true_and, decide_true, decide_false, List.isEmpty_nil, Bool.and_self, Bool.and_true, t0, t4, hs1] <;> rfl) ?_
      refine d_call 44 _ rfl rfl rfl rfl hcl (by intro _; rfl) (by simp) (d_heap fun G hG => ?_)
      refine d_pure 6 (by simp only [runP, List.drop_succ_cons, List.drop_zero, awant_some, Option.getD_some, List.getElem?_toArray, List.getElem?_cons_succ, List.getElem?_cons_zero, Option.bind_some, b_tt, b_tf, b_ft, b_ff, Bool.not_true, Bool.not_false, List.take_succ_cons, List.take_zero, awant_none, astep, evl, put, ap_none, ap_new, ap_wr, List.length_nil, List.length_cons, Nat.add_zero, Nat.zero_add, upd_app, stepBin, abin, stepUn, stepPick, stepExtract, stepCall, if_true, if_false, reduceCtorEq, ↓reduceIte, Nat.reduceEqDiff, Nat.reduceAdd, List.map_cons, List.map_nil, Option.map_some, Option.map_none, Bool.false_eq_true, Int.reduceLE, Int.reduceToNat, ne_eq, not_false_eq_true, and_self, and_true, true_and, decide_true, decide_false, List.isEmpty_nil, Bool.and_self, Bool.and_true, t0, t4, hlen, hz', hdiv] <;> rfl) ?_
      refine w_ret ⟨.inr rfl, fun _ r hr => ?_, [n], fin_one ?_ ?_ (Nat.le_refl _) (by rw [hG]; simp [ap_new, upd_app]) plain_ints ?_⟩
      · simp only [List.mem_cons, List.not_mem_nil, or_false] at hr
        rcases hr with rfl | rfl <;> simp [upd_app, isTup]
      · simp [resVal, upd_app, renT, renA, ren1]
      · intro c hc
        simp at hc
        rcases hc with rfl | rfl
        · exact .inr (.inr rfl)
        · trivial
      · intro i b hb
        have := hs i (hwf i b hb).1
        rw [hG]
        simp [ap_new, upd_app, show i ≠ n by omega, hb]
end Go.Proofs.Ytokmmcfnpobldaa
