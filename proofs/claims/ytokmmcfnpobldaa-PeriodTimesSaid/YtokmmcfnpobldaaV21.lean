import Derived.Test.YtokmmcfnpobldaaV20
namespace Go.Proofs.Ytokmmcfnpobldaa
open Go Abs
set_option linter.unusedSimpArgs false
set_option linter.unusedVariables false

theorem borders_get (l : List Nat) {q : Nat} (hq : q < l.length) : (borders l)[q]? = some (mx l (q + 1)) := by simp [borders, hq]

set_option maxRecDepth 10000 in
theorem least_spec (v : Value) (l : List Nat) (g : Heap) (hl : l.length ≤ 2 ^ 40) (hv : Src g v 1 l.length (bs l)) : FnSpec Try.prog 26 [v] g { v := .int .i64 (least l), r := srcBlk v } := by
  refine spec_of_body [2] follows Try.func26 rfl (by kernel_rfl) (by simp [Try.f26]) (by kernel_rfl) rfl ?_
  intro g2 s2 n hg hfr hs hn hwf hsv
  have hv2 : Src g2 v 1 l.length (bs l) := hv.congr fun i hi => hg i (by simp [Eff.fp, hi])
  have hlen := hv2.len Try.underlying23
  refine s_run (by simp only [runL, List.drop_succ_cons, List.drop_zero, awant_some, Option.getD_some, List.getElem?_toArray, List.getElem?_cons_succ, List.getElem?_cons_zero, Option.bind_some, b_tt, b_tf, b_ft, b_ff, Bool.not_true, Bool.not_false, List.take_succ_cons, List.take_zero, awant_none, astep, evl, put, ap_none, ap_new, ap_wr, List.length_nil, List.length_cons, Nat.add_zero, Nat.zero_add, upd_app, stepBin, abin, stepUn, stepPick, stepExtract, stepCall, if_true, if_false, reduceCtorEq, ↓reduceIte, Nat.reduceEqDiff, Nat.reduceAdd, List.map_cons, List.map_nil, Option.map_some, Option.map_none, Bool.false_eq_true, Int.reduceLE, Int.reduceToNat, ne_eq, not_false_eq_true, and_self, and_true, true_and, decide_true, decide_false] <;> rfl) ?_
  by_cases h0 : l.length = 0
  · have d : ((l.length : Int) == 0) = true := by simp [h0]
    refine w_assoc (s_run (by simp only [runL, List.drop_succ_cons, List.drop_zero, awant_some, Option.getD_some, List.getElem?_toArray, List.getElem?_cons_succ, List.getElem?_cons_zero, Option.bind_some, b_tt, b_tf, b_ft, b_ff, Bool.not_true, Bool.not_false, List.take_succ_cons, List.take_zero, awant_none, astep, evl, put, ap_none, ap_new, ap_wr, List.length_nil, List.length_cons, Nat.add_zero, Nat.zero_add, upd_app, stepBin, abin, stepUn, stepPick, stepExtract, stepCall, if_true, if_false, reduceCtorEq, ↓reduceIte, Nat.reduceEqDiff, Nat.reduceAdd, List.map_cons, List.map_nil, Option.map_some, Option.map_none, Bool.false_eq_true, Int.reduceLE, Int.reduceToNat, ne_eq, not_false_eq_true, and_self, and_true, true_and, decide_true, decide_false, hlen, d] <;> rfl) ?_)
    refine s_true (by simp [evl, upd_app]) (w_assoc (s_run (by simp only [runL, List.drop_succ_cons, List.drop_zero, awant_some, Option.getD_some, List.getElem?_toArray, List.getElem?_cons_succ, List.getElem?_cons_zero, Option.bind_some, b_tt, b_tf, b_ft, b_ff, Bool.not_true, Bool.not_false, List.take_succ_cons, List.take_zero, awant_none, astep, evl, put, ap_none, ap_new, ap_wr, List.length_nil, List.length_cons, Nat.add_zero, Nat.zero_add, upd_app, stepBin, abin, stepUn, stepPick, stepExtract, stepCall, if_true, if_false, reduceCtorEq, ↓reduceIte, Nat.reduceEqDiff, Nat.reduceAdd, List.map_cons, List.map_nil, Option.map_some, Option.map_none, Bool.false_eq_true, Int.reduceLE, Int.reduceToNat, ne_eq, not_false_eq_true, and_self, and_true, true_and, decide_true, decide_false] <;> rfl) ?_))
    refine s_ret ⟨.inr rfl, by simp, [], fin_none ?_ trivial (fun _ _ h => h)⟩
    simp [resVal, upd_app, least, h0]
  · have d : ((l.length : Int) == 0) = false := by rw [beq_eq_false_iff_ne]; omega
    refine w_assoc (s_run (by simp only [runL, List.drop_succ_cons, List.drop_zero, awant_some, Option.getD_some, List.getElem?_toArray, List.getElem?_cons_succ, List.getElem?_cons_zero, Option.bind_some, b_tt, b_tf, b_ft, b_ff, Bool.not_true, Bool.not_false, List.take_succ_cons, List.take_zero, awant_none, astep, evl, put, ap_none, ap_new, ap_wr, List.length_nil, List.length_cons, Nat.add_zero, Nat.zero_add, upd_app, stepBin, abin, stepUn, stepPick, stepExtract, stepCall, if_true, if_false, reduceCtorEq, ↓reduceIte, Nat.reduceEqDiff, Nat.reduceAdd, List.map_cons, List.map_nil, Option.map_some, Option.map_none, Bool.false_eq_true, Int.reduceLE, Int.reduceToNat, ne_eq, not_false_eq_true, and_self, and_true, true_and, decide_true, decide_false, hlen, d] <;> rfl) ?_)
    refine s_false (by simp [evl, upd_app]) (s_skip ?_)
    refine w_gen (fun t => t 0 = v) (by simp [upd_app]) ?_
    intro t t0
    refine s_take 3 (by simp only [runL, List.drop_succ_cons, List.drop_zero, awant_some, Option.getD_some, List.getElem?_toArray, List.getElem?_cons_succ, List.getElem?_cons_zero, Option.bind_some, b_tt, b_tf, b_ft, b_ff, Bool.not_true, Bool.not_false, List.take_succ_cons, List.take_zero, awant_none, astep, evl, put, ap_none, ap_new, ap_wr, List.length_nil, List.length_cons, Nat.add_zero, Nat.zero_add, upd_app, stepBin, abin, stepUn, stepPick, stepExtract, stepCall, if_true, if_false, reduceCtorEq, ↓reduceIte, Nat.reduceEqDiff, Nat.reduceAdd, List.map_cons, List.map_nil, Option.map_some, Option.map_none, Bool.false_eq_true, Int.reduceLE, Int.reduceToNat, ne_eq, not_false_eq_true, and_self, and_true, true_and, decide_true, decide_false, t0, hlen] <;> rfl) ?_
    refine ops_call 24 _ rfl (borders_spec v l g2 _ hl hv2) (by intro _; rfl) (ops_heap fun G hG => ?_)
    have hGn : G n = some ⟨false, 3, ints (borders l)⟩ := by simp [hG, ap_new, upd_app]
    have hat := ints_at (borders_get l (q := l.length - 1) (by omega))
    obtain ⟨i1, i2, _⟩ := own_at (P := Try.prog) (T := 36) hGn hat Try.underlying36 tsize3 aggT3
    have hbl : (ints (borders l)).length = l.length := by simp [borders]
    rw [hbl] at i1 i2
    rw [show l.length - 1 + 1 = l.length by omega] at i2
    have hm := mx_lt (s := l) (n := l.length) (by omega)
    have w1 : IntKind.i64.wrap ((l.length : Int) - 1) = ((l.length - 1 : Nat) : Int) := by rw [wrap64_of (by omega) (by omega)]; omega
    have w2 : IntKind.i64.wrap ((l.length : Int) - (mx l l.length : Int)) = ((least l : Nat) : Int) := by
      rw [wrap64_of (by omega) (by omega), least, if_neg h0]; omega
    refine ops_run (by simp only [runL, List.drop_succ_cons, List.drop_zero, awant_some, Option.getD_some, List.getElem?_toArray, List.getElem?_cons_succ, List.getElem?_cons_zero, Option.bind_some, b_tt, b_tf, b_ft, b_ff, Bool.not_true, Bool.not_false, List.take_succ_cons, List.take_zero, awant_none, astep, evl, put, ap_none, ap_new, ap_wr, List.length_nil, List.length_cons, Nat.add_zero, Nat.zero_add, upd_app, stepBin, abin, stepUn, stepPick, stepExtract, stepCall, if_true, if_false, reduceCtorEq, ↓reduceIte, Nat.reduceEqDiff, Nat.reduceAdd, List.map_cons, List.map_nil, Option.map_some, Option.map_none, Bool.false_eq_true, Int.reduceLE, Int.reduceToNat, ne_eq, not_false_eq_true, and_self, and_true, true_and, decide_true, decide_false, t0, hlen, w1, w2, i1, i2] <;> rfl) ?_
    refine w_ret ⟨.inr rfl, by simp, [], fin_none ?_ trivial ?_⟩
    · simp [resVal, upd_app, put]
    · intro i b hb
      have := hs i (hwf i b hb).1
      rw [hG]
      simp [ap_new, upd_app, show i ≠ n by omega, hb]

def isNil : Value → Bool
  | .slice none _ _ => true
  | _ => false

/-- The copy of bytes: nil of nil. -/
def cloneE (v : Value) (l : List Nat) (j : Nat) : Eff :=
  if isNil v then { v := .slice none 0 0, r := srcBlk v, j := j } else { v := .slice (some ⟨j, 0, some l.length⟩) l.length 1, r := srcBlk v, j := j, a := [⟨false, 5, bs l⟩] }

theorem nil_cmp {g : Heap} {v : Value} {m : Nat} {cs : List Value} (h : Src g v 1 m cs) : stepBin Try.prog .eql 23 v (.slice none 0 0) = some { v := .bool (isNil v) } := by
  rcases h with ⟨rfl, _, _⟩ | ⟨a, rfl, _, _⟩ | ⟨a, b, rfl, _⟩ <;> simp [stepBin, abin, Try.underlying23, isNil]

set_option maxRecDepth 10000 in
theorem clone_spec (v : Value) (l : List Nat) (g : Heap) (j : Nat) (hl : l.length ≤ 2 ^ 40) (hv : Src g v 1 l.length (bs l)) : FnSpec Try.prog 44 [v] g (cloneE v l j) := by
  refine spec_of_body [2] follows Try.func44 rfl (by kernel_rfl) (by simp [Try.f44]) (by kernel_rfl) rfl ?_
  intro g2 s2 n hg hfr hs hn hwf hsv
  have hv2 : Src g2 v 1 l.length (bs l) := hv.congr fun i hi => hg i (by
    unfold cloneE
    split <;> simp [Eff.fp, hi])
  have hcmp := nil_cmp hv2
  refine s_run (by simp only [runL, List.drop_succ_cons, List.drop_zero, awant_some, Option.getD_some, List.getElem?_toArray, List.getElem?_cons_succ, List.getElem?_cons_zero, Option.bind_some, b_tt, b_tf, b_ft, b_ff, Bool.not_true, Bool.not_false, List.take_succ_cons, List.take_zero, awant_none, astep, evl, put, ap_none, ap_new, ap_wr, List.length_nil, List.length_cons, Nat.add_zero, Nat.zero_add, upd_app, stepBin, abin, stepUn, stepPick, stepExtract, stepCall, if_true, if_false, reduceCtorEq, ↓reduceIte, Nat.reduceEqDiff, Nat.reduceAdd, List.map_cons, List.map_nil, Option.map_some, Option.map_none, Bool.false_eq_true, Int.reduceLE, Int.reduceToNat, ne_eq, not_false_eq_true, and_self, and_true, true_and, decide_true, decide_false] <;> rfl) ?_
  have hdom : ∀ i ∈ srcBlk v, i < n := fun i hi => by
    obtain ⟨b, hb⟩ := Option.isSome_iff_exists.1 (hv2.dom i hi)
    exact hs i (hwf i b hb).1
  by_cases h0 : isNil v = true
  · have e : cloneE v l j = { v := .slice none 0 0, r := srcBlk v, j := j } := by rw [cloneE, if_pos h0]
    rw [e]
    refine w_assoc (s_take 1 (by simp only [runL, List.drop_succ_cons, List.drop_zero, awant_some, Option.getD_some, List.getElem?_toArray, List.getElem?_cons_succ, List.getElem?_cons_zero, Option.bind_some, b_tt, b_tf, b_ft, b_ff, Bool.not_true, Bool.not_false, List.take_succ_cons, List.take_zero, awant_none, astep, evl, put, ap_none, ap_new, ap_wr, List.length_nil, List.length_cons, Nat.add_zero, Nat.zero_add, upd_app, stepBin, abin, stepUn, stepPick, stepExtract, stepCall, if_true, if_false, reduceCtorEq, ↓reduceIte, Nat.reduceEqDiff, Nat.reduceAdd, List.map_cons, List.map_nil, Option.map_some, Option.map_none, Bool.false_eq_true, Int.reduceLE, Int.reduceToNat, ne_eq, not_false_eq_true, and_self, and_true, true_and, decide_true, decide_false] <;> rfl) ?_)
    refine ops_step _ hcmp rfl ?_
    refine s_true (by simp [evl, upd_app, put, h0]) (w_assoc (s_run (by simp only [runL, List.drop_succ_cons, List.drop_zero, awant_some, Option.getD_some, List.getElem?_toArray, List.getElem?_cons_succ, List.getElem?_cons_zero, Option.bind_some, b_tt, b_tf, b_ft, b_ff, Bool.not_true, Bool.not_false, List.take_succ_cons, List.take_zero, awant_none, astep, evl, put, ap_none, ap_new, ap_wr, List.length_nil, List.length_cons, Nat.add_zero, Nat.zero_add, upd_app, stepBin, abin, stepUn, stepPick, stepExtract, stepCall, if_true, if_false, reduceCtorEq, ↓reduceIte, Nat.reduceEqDiff, Nat.reduceAdd, List.map_cons, List.map_nil, Option.map_some, Option.map_none, Bool.false_eq_true, Int.reduceLE, Int.reduceToNat, ne_eq, not_false_eq_true, and_self, and_true, true_and, decide_true, decide_false] <;> rfl) ?_))
    refine s_ret ⟨.inr rfl, by simp, [], fin_none ?_ trivial (fun _ _ h => h)⟩
    simp [resVal, upd_app]
  · have e : cloneE v l j = { v := .slice (some ⟨j, 0, some l.length⟩) l.length 1, r := srcBlk v, j := j, a := [⟨false, 5, bs l⟩] } := by rw [cloneE, if_neg h0]
    rw [e]
    refine w_assoc (s_take 1 (by simp only [runL, List.drop_succ_cons, List.drop_zero, awant_some, Option.getD_some, List.getElem?_toArray, List.getElem?_cons_succ, List.getElem?_cons_zero, Option.bind_some, b_tt, b_tf, b_ft, b_ff, Bool.not_true, Bool.not_false, List.take_succ_cons, List.take_zero, awant_none, astep, evl, put, ap_none, ap_new, ap_wr, List.length_nil, List.length_cons, Nat.add_zero, Nat.zero_add, upd_app, stepBin, abin, stepUn, stepPick, stepExtract, stepCall, if_true, if_false, reduceCtorEq, ↓reduceIte, Nat.reduceEqDiff, Nat.reduceAdd, List.map_cons, List.map_nil, Option.map_some, Option.map_none, Bool.false_eq_true, Int.reduceLE, Int.reduceToNat, ne_eq, not_false_eq_true, and_self, and_true, true_and, decide_true, decide_false] <;> rfl) ?_)
    refine ops_step _ hcmp rfl ?_
    refine s_false (by simp [evl, upd_app, put, h0]) (s_skip ?_)
    refine w_gen (fun t => t 0 = v) (by simp [upd_app, put]) ?_
    intro t t0
    refine s_take 2 (by simp only [runL, List.drop_succ_cons, List.drop_zero, awant_some, Option.getD_some, List.getElem?_toArray, List.getElem?_cons_succ, List.getElem?_cons_zero, Option.bind_some, b_tt, b_tf, b_ft, b_ff, Bool.not_true, Bool.not_false, List.take_succ_cons, List.take_zero, awant_none, astep, evl, put, ap_none, ap_new, ap_wr, List.length_nil, List.length_cons, Nat.add_zero, Nat.zero_add, upd_app, stepBin, abin, stepUn, stepPick, stepExtract, stepCall, if_true, if_false, reduceCtorEq, ↓reduceIte, Nat.reduceEqDiff, Nat.reduceAdd, List.map_cons, List.map_nil, Option.map_some, Option.map_none, Bool.false_eq_true, Int.reduceLE, Int.reduceToNat, ne_eq, not_false_eq_true, and_self, and_true, true_and, decide_true, decide_false, t0, lit0] <;> rfl) (ops_heap fun G hG => ?_)
    have e1 : ∀ k, k < n → G k = g2 k := fun k hk => by rw [hG]; simp [upd_app, ap_none]; omega
    have hv3 : Src G v 1 l.length (bs l) := hv2.congr fun k hk => e1 k (hdom k hk)
    have o2 : OwnI 5 1 G (.slice (some ⟨n, 0, some 0⟩) 0 1) 0 [] (some n) := .inr ⟨n, rfl, rfl, by rw [hG]; simp [upd_app], rfl⟩
    obtain ⟨f3, i3, hf3, o3, hi3, hk3⟩ := own_append (P := Try.prog) (n := n + 1) (T := 23) o2 hv3.cells (by simp) Try.underlying23 tinf5 (by omega) (by omega) (by omega)
    rcases hi3 with ⟨rfl, ha3⟩ | ⟨h, _⟩
    case inr => cases h
    refine ops_step f3 (by simp only [runL, List.drop_succ_cons, List.drop_zero, awant_some, Option.getD_some, List.getElem?_toArray, List.getElem?_cons_succ, List.getElem?_cons_zero, Option.bind_some, b_tt, b_tf, b_ft, b_ff, Bool.not_true, Bool.not_false, List.take_succ_cons, List.take_zero, awant_none, astep, evl, put, ap_none, ap_new, ap_wr, List.length_nil, List.length_cons, Nat.add_zero, Nat.zero_add, upd_app, stepBin, abin, stepUn, stepPick, stepExtract, stepCall, if_true, if_false, reduceCtorEq, ↓reduceIte, Nat.reduceEqDiff, Nat.reduceAdd, List.map_cons, List.map_nil, Option.map_some, Option.map_none, Bool.false_eq_true, Int.reduceLE, Int.reduceToNat, ne_eq, not_false_eq_true, and_self, and_true, true_and, decide_true, decide_false, hf3]) rfl (ops_heap fun G3 hG3 => ?_)
    rw [← hG3] at o3 hk3
    refine ops_run (by simp only [runL, List.drop_succ_cons, List.drop_zero, awant_some, Option.getD_some, List.getElem?_toArray, List.getElem?_cons_succ, List.getElem?_cons_zero, Option.bind_some, b_tt, b_tf, b_ft, b_ff, Bool.not_true, Bool.not_false, List.take_succ_cons, List.take_zero, awant_none, astep, evl, put, ap_none, ap_new, ap_wr, List.length_nil, List.length_cons, Nat.add_zero, Nat.zero_add, upd_app, stepBin, abin, stepUn, stepPick, stepExtract, stepCall, if_true, if_false, reduceCtorEq, ↓reduceIte, Nat.reduceEqDiff, Nat.reduceAdd, List.map_cons, List.map_nil, Option.map_some, Option.map_none, Bool.false_eq_true, Int.reduceLE, Int.reduceToNat, ne_eq, not_false_eq_true, and_self, and_true, true_and, decide_true, decide_false] <;> rfl) ?_
    rcases o3 with ⟨h, _⟩ | ⟨k3, h3, hv4, hg3, hl3⟩
    · cases h
    cases h3
    rw [List.nil_append] at hv4 hg3
    rw [Nat.zero_add] at hv4
    have hbl : (bs l).length = l.length := by simp
    refine w_ret ⟨.inr rfl, by simp, [n], ?_⟩
    have := fin_slice (s2 := s2) (g2 := g2) (n := n) (j := j) (r := srcBlk v) (k := n) (e := 5) (cs := bs l) (m := l.length) (esz := 1) (v' := f3.v) hv4 (Nat.le_refl _) hg3 plain_ints (fun i b hb => by
      have := hs i (hwf i b hb).1
      rw [hk3 i (by omega) (by simp; omega), e1 i this, hb])
    rw [hbl] at this
    simpa [resVal, upd_app, put] using this
end Go.Proofs.Ytokmmcfnpobldaa
