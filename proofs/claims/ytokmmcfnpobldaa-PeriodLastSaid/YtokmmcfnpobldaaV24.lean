import Derived.Test.YtokmmcfnpobldaaV23
namespace Go.Proofs.Ytokmmcfnpobldaa
open Go Abs
set_option linter.unusedSimpArgs false
set_option linter.unusedVariables false

theorem brd_drop {l : List Nat} {p : Nat} (h1 : 1 ≤ p) (h2 : p ≤ l.length) : brd l l.length (l.length - p) ↔ l.drop p = l.take (l.length - p) := by
  rw [brd_iff (Nat.le_refl _) (by omega), show l.length - (l.length - p) = p by omega, List.take_of_length_le (l := l.drop p) (by simp)]
  exact eq_comm

theorem least_eq {l : List Nat} {p : Nat} (h1 : 1 ≤ p) (h2 : p ≤ l.length) (hb : brd l l.length (l.length - p)) (hn : ∀ q, 1 ≤ q → q < p → ¬ brd l l.length (l.length - q)) : least l = p := by
  have : mx l l.length = l.length - p := mx_eq hb fun j hj => by
    have h3 := hj.1
    rcases Nat.lt_or_ge (l.length - p) j with h4 | h4
    · exfalso
      refine hn (l.length - j) (by omega) (by omega) ?_
      rw [show l.length - (l.length - j) = j by omega]
      exact hj
    · exact h4
  rw [least, if_neg (by omega), this]; omega

set_option maxRecDepth 10000 in
theorem rleast_spec (v : Value) (l : List Nat) (g : Heap) (hl : l.length ≤ 2 ^ 40) (hb : ∀ x ∈ l, x < 256) (hv : Src g v 1 l.length (bs l)) : FnSpec Try.prog 27 [v] g { v := .int .i64 (least l), r := srcBlk v } := by
  refine spec_of_body [2] follows Try.func27 rfl (by kernel_rfl) (by simp [Try.f27]) (by kernel_rfl) rfl ?_
  intro g2 s2 n hg hfr hs hn hwf hsv
  have hv2 : Src g2 v 1 l.length (bs l) := hv.congr fun i hi => hg i (by simp [Eff.fp, hi])
  have hlen := hv2.len Try.underlying23
  refine s_run (by simp only [runL, List.drop_succ_cons, List.drop_zero, awant_some, Option.getD_some, List.getElem?_toArray, List.getElem?_cons_succ, List.getElem?_cons_zero, Option.bind_some, b_tt, b_tf, b_ft, b_ff, Bool.not_true, Bool.not_false, List.take_succ_cons, List.take_zero, awant_none, astep, evl, put, ap_none, ap_new, ap_wr, List.length_nil, List.length_cons, Nat.add_zero, Nat.zero_add, upd_app, stepBin, abin, stepUn, stepPick, stepExtract, stepCall, if_true, if_false, reduceCtorEq, ↓reduceIte, Nat.reduceEqDiff, Nat.reduceAdd, List.map_cons, List.map_nil, Option.map_some, Option.map_none, Bool.false_eq_true, Int.reduceLE, Int.reduceToNat, ne_eq, not_false_eq_true, and_self, and_true, true_and, decide_true, decide_false] <;> rfl) ?_
  refine w_assoc (s_run (by simp only [runL, List.drop_succ_cons, List.drop_zero, awant_some, Option.getD_some, List.getElem?_toArray, List.getElem?_cons_succ, List.getElem?_cons_zero, Option.bind_some, b_tt, b_tf, b_ft, b_ff, Bool.not_true, Bool.not_false, List.take_succ_cons, List.take_zero, awant_none, astep, evl, put, ap_none, ap_new, ap_wr, List.length_nil, List.length_cons, Nat.add_zero, Nat.zero_add, upd_app, stepBin, abin, stepUn, stepPick, stepExtract, stepCall, if_true, if_false, reduceCtorEq, ↓reduceIte, Nat.reduceEqDiff, Nat.reduceAdd, List.map_cons, List.map_nil, Option.map_some, Option.map_none, Bool.false_eq_true, Int.reduceLE, Int.reduceToNat, ne_eq, not_false_eq_true, and_self, and_true, true_and, decide_true, decide_false] <;> rfl) ?_)
  refine s_block (fun t g n' => l.length = 0 ∧ g2 = g) ?_ ?_
  · refine w_loop (fun t g n' => ∃ p : Nat, 1 ≤ p ∧ p ≤ l.length + 1 ∧ t 0 = v ∧ t 3 = .int .i64 p ∧ (∀ q, 1 ≤ q → q < p → ¬ brd l l.length (l.length - q)) ∧ g2 = g)
      (fun t _ _ => match t 3 with | .int _ i => l.length + 1 - i.toNat | _ => 0) ⟨1, by omega, by omega, by simp [upd_app], by simp [upd_app], fun q h1 h2 => by omega, rfl⟩ ?_
    rintro t g n' ⟨p, hp1, hp2, t0, t3, hno, rfl⟩
    by_cases hle : p ≤ l.length
    · have d : decide ((p : Int) ≤ (l.length : Int)) = true := by simp; exact hle
      refine w_assoc (s_run (by simp only [runL, List.drop_succ_cons, List.drop_zero, awant_some, Option.getD_some, List.getElem?_toArray, List.getElem?_cons_succ, List.getElem?_cons_zero, Option.bind_some, b_tt, b_tf, b_ft, b_ff, Bool.not_true, Bool.not_false, List.take_succ_cons, List.take_zero, awant_none, astep, evl, put, ap_none, ap_new, ap_wr, List.length_nil, List.length_cons, Nat.add_zero, Nat.zero_add, upd_app, stepBin, abin, stepUn, stepPick, stepExtract, stepCall, if_true, if_false, reduceCtorEq, ↓reduceIte, Nat.reduceEqDiff, Nat.reduceAdd, List.map_cons, List.map_nil, Option.map_some, Option.map_none, Bool.false_eq_true, Int.reduceLE, Int.reduceToNat, ne_eq, not_false_eq_true, and_self, and_true, true_and, decide_true, decide_false, t0, t3, hlen, d] <;> rfl) ?_)
      refine s_true (by simp [evl, upd_app]) (s_skip (w_seq (w_block ?_)))
      obtain ⟨v1, a1, a2, _, _⟩ := hv2.slice Try.underlying23 tsize5 (some (.int .i64 (p : Int))) none p l.length rfl rfl hle (Nat.le_refl _)
      obtain ⟨v2, b1, b2, _, _⟩ := hv2.slice Try.underlying23 tsize5 none (some (.int .i64 ((l.length - p : Nat) : Int))) 0 (l.length - p) rfl rfl (by omega) (by omega)
      have a3 : Src g2 v1 1 (l.drop p).length (bs (l.drop p)) := by
        have h1 : (bs l).drop p = bs (l.drop p) := List.map_drop.symm
        have h2 : (bs (l.drop p)).take (l.length - p) = bs (l.drop p) := List.take_of_length_le (by simp)
        rw [Nat.mul_one, Nat.mul_one, h1, h2] at a2
        rw [List.length_drop]
        exact a2
      have b3 : Src g2 v2 1 (l.take (l.length - p)).length (bs (l.take (l.length - p))) := by
        have : (l.take (l.length - p)).length = l.length - p := by simp
        rw [this]; simpa using b2
      obtain ⟨r1, x1, _⟩ := src_str a3
      obtain ⟨r2, x2, _⟩ := src_str b3
      have w1 : IntKind.i64.wrap ((l.length : Int) - (p : Int)) = ((l.length - p : Nat) : Int) := by rw [wrap64_of (by omega) (by omega)]; omega
      have w2 : IntKind.i64.wrap ((p : Int) + 1) = ((p + 1 : Nat) : Int) := by rw [wrap64_of (by omega) (by omega)]; simp
      have hq := nstr_beq (a := l.drop p) (b := l.take (l.length - p)) (fun x hx => hb x (List.mem_of_mem_drop hx)) (fun x hx => hb x (List.mem_of_mem_take hx))
      by_cases he : l.drop p = l.take (l.length - p)
      · rw [decide_eq_true he] at hq
        refine s_draw #[0, 0, 3, 7, 0, 0, 32, 0, 224, 496, 1008, 2047] (by decide +kernel) (by simp only [runR, List.drop_succ_cons, List.drop_zero, awant_some, Option.getD_some, List.getElem?_toArray, List.getElem?_cons_succ, List.getElem?_cons_zero, Option.bind_some, b_tt, b_tf, b_ft, b_ff, Bool.not_true, Bool.not_false, List.take_succ_cons, List.take_zero, awant_none, astep, evl, put, ap_none, ap_new, ap_wr, List.length_nil, List.length_cons, Nat.add_zero, Nat.zero_add, upd_app, stepBin, abin, stepUn, stepPick, stepExtract, stepCall, if_true, if_false, reduceCtorEq, ↓reduceIte, Nat.reduceEqDiff, Nat.reduceAdd, List.map_cons, List.map_nil, Option.map_some, Option.map_none, Bool.false_eq_true, Int.reduceLE, Int.reduceToNat, ne_eq, not_false_eq_true, and_self, and_true, true_and, decide_true, decide_false, List.isEmpty_nil, Bool.and_self, Bool.and_true, t0, t3, hlen, a1, x1, w1, b1, x2, hq] <;> rfl) ?_
        refine w_true (by simp [evl, upd_app]) ?_
        refine s_run (by simp only [runL, List.drop_succ_cons, List.drop_zero, awant_some, Option.getD_some, List.getElem?_toArray, List.getElem?_cons_succ, List.getElem?_cons_zero, Option.bind_some, b_tt, b_tf, b_ft, b_ff, Bool.not_true, Bool.not_false, List.take_succ_cons, List.take_zero, awant_none, astep, evl, put, ap_none, ap_new, ap_wr, List.length_nil, List.length_cons, Nat.add_zero, Nat.zero_add, upd_app, stepBin, abin, stepUn, stepPick, stepExtract, stepCall, if_true, if_false, reduceCtorEq, ↓reduceIte, Nat.reduceEqDiff, Nat.reduceAdd, List.map_cons, List.map_nil, Option.map_some, Option.map_none, Bool.false_eq_true, Int.reduceLE, Int.reduceToNat, ne_eq, not_false_eq_true, and_self, and_true, true_and, decide_true, decide_false, t3] <;> rfl) ?_
        refine w_ret ⟨.inr rfl, by simp, [], fin_none ?_ trivial (fun _ _ h => h)⟩
        simp [resVal, upd_app, least_eq hp1 hle ((brd_drop hp1 hle).2 he) hno]
      · rw [decide_eq_false he] at hq
        refine s_draw #[0, 0, 3, 7, 0, 0, 32, 0, 224, 496, 1008, 2047] (by decide +kernel) (by simp only [runR, List.drop_succ_cons, List.drop_zero, awant_some, Option.getD_some, List.getElem?_toArray, List.getElem?_cons_succ, List.getElem?_cons_zero, Option.bind_some, b_tt, b_tf, b_ft, b_ff, Bool.not_true, Bool.not_false, List.take_succ_cons, List.take_zero, awant_none, astep, evl, put, ap_none, ap_new, ap_wr, List.length_nil, List.length_cons, Nat.add_zero, Nat.zero_add, upd_app, stepBin, abin, stepUn, stepPick, stepExtract, stepCall, if_true, if_false, reduceCtorEq, ↓reduceIte, Nat.reduceEqDiff, Nat.reduceAdd, List.map_cons, List.map_nil, Option.map_some, Option.map_none, Bool.false_eq_true, Int.reduceLE, Int.reduceToNat, ne_eq, not_false_eq_true, and_self, and_true, true_and, decide_true, decide_false, List.isEmpty_nil, Bool.and_self, Bool.and_true, t0, t3, hlen, a1, x1, w1, b1, x2, hq] <;> rfl) ?_
        refine w_false (by simp [evl, upd_app]) (w_skip ?_)
        refine region_run (id := 3) (by simp only [runL, List.drop_succ_cons, List.drop_zero, awant_some, Option.getD_some, List.getElem?_toArray, List.getElem?_cons_succ, List.getElem?_cons_zero, Option.bind_some, b_tt, b_tf, b_ft, b_ff, Bool.not_true, Bool.not_false, List.take_succ_cons, List.take_zero, awant_none, astep, evl, put, ap_none, ap_new, ap_wr, List.length_nil, List.length_cons, Nat.add_zero, Nat.zero_add, upd_app, stepBin, abin, stepUn, stepPick, stepExtract, stepCall, if_true, if_false, reduceCtorEq, ↓reduceIte, Nat.reduceEqDiff, Nat.reduceAdd, List.map_cons, List.map_nil, Option.map_some, Option.map_none, Bool.false_eq_true, Int.reduceLE, Int.reduceToNat, ne_eq, not_false_eq_true, and_self, and_true, true_and, decide_true, decide_false, t3, w2] <;> rfl) ?_
        refine ⟨⟨p + 1, by omega, by omega, by simp [upd_app, t0], by simp [upd_app], fun q h1 h2 => ?_, rfl⟩, ?_⟩
        · by_cases e : q = p
          · rw [e]; exact fun h => he ((brd_drop hp1 hle).1 h)
          · exact hno q h1 (by omega)
        · rw [t3]
          simp only [upd_app, if_true, Int.toNat_natCast]
          omega
    · have d : decide ((p : Int) ≤ (l.length : Int)) = false := by simp; omega
      refine w_assoc (s_run (by simp only [runL, List.drop_succ_cons, List.drop_zero, awant_some, Option.getD_some, List.getElem?_toArray, List.getElem?_cons_succ, List.getElem?_cons_zero, Option.bind_some, b_tt, b_tf, b_ft, b_ff, Bool.not_true, Bool.not_false, List.take_succ_cons, List.take_zero, awant_none, astep, evl, put, ap_none, ap_new, ap_wr, List.length_nil, List.length_cons, Nat.add_zero, Nat.zero_add, upd_app, stepBin, abin, stepUn, stepPick, stepExtract, stepCall, if_true, if_false, reduceCtorEq, ↓reduceIte, Nat.reduceEqDiff, Nat.reduceAdd, List.map_cons, List.map_nil, Option.map_some, Option.map_none, Bool.false_eq_true, Int.reduceLE, Int.reduceToNat, ne_eq, not_false_eq_true, and_self, and_true, true_and, decide_true, decide_false, t0, t3, hlen, d] <;> rfl) ?_)
      refine s_false (by simp [evl, upd_app]) (s_exit ?_)
      refine ⟨?_, rfl⟩
      rcases Nat.eq_zero_or_pos l.length with h | h
      · exact h
      · exfalso
        refine hno l.length (by omega) (by omega) ?_
        rw [Nat.sub_self]
        exact brd_zero h
  · rintro t g n' ⟨h1, rfl⟩
    refine s_run (by simp only [runL, List.drop_succ_cons, List.drop_zero, awant_some, Option.getD_some, List.getElem?_toArray, List.getElem?_cons_succ, List.getElem?_cons_zero, Option.bind_some, b_tt, b_tf, b_ft, b_ff, Bool.not_true, Bool.not_false, List.take_succ_cons, List.take_zero, awant_none, astep, evl, put, ap_none, ap_new, ap_wr, List.length_nil, List.length_cons, Nat.add_zero, Nat.zero_add, upd_app, stepBin, abin, stepUn, stepPick, stepExtract, stepCall, if_true, if_false, reduceCtorEq, ↓reduceIte, Nat.reduceEqDiff, Nat.reduceAdd, List.map_cons, List.map_nil, Option.map_some, Option.map_none, Bool.false_eq_true, Int.reduceLE, Int.reduceToNat, ne_eq, not_false_eq_true, and_self, and_true, true_and, decide_true, decide_false] <;> rfl) ?_
    refine w_ret ⟨.inr rfl, by simp, [], fin_none ?_ trivial (fun _ _ h => h)⟩
    simp [resVal, upd_app, least, h1]
end Go.Proofs.Ytokmmcfnpobldaa
