import Derived.Test.YtokmmcfnpobldaaV24
namespace Go.Proofs.Ytokmmcfnpobldaa
open Go Abs
set_option linter.unusedSimpArgs false
set_option linter.unusedVariables false

/-- The root and how often, of the reference: a part of the slice itself. -/
theorem rroot_cases (l : List Nat) : (l.length = 0 ∧ least l = 0) ∨ (l.length ≠ 0 ∧ least l ≠ 0) := by
  by_cases h : l.length = 0
  · exact .inl ⟨h, by rw [least, if_pos h]⟩
  · exact .inr ⟨h, by have := least_pos l h; omega⟩

theorem brd_slice {l : List Nat} {n k : Nat} (hn : n ≤ l.length) (hk : k < n) : brd l n k ↔ l.take k = (l.drop (n - k)).take k := brd_iff hn hk

theorem borders_row {l : List Nat} {i : Nat} (h : i < l.length) : (List.range (i + 1)).map (fun q => mx l (q + 1)) = (List.range i).map (fun q => mx l (q + 1)) ++ [mx l (i + 1)] := by
  rw [List.range_succ, List.map_append]; rfl

theorem lit36 (x : Int) (j : Nat) : stepBuildSlice Try.prog 36 1 [(0, .int .i64 x)] j = some { v := .slice (some ⟨j, 0, some 1⟩) 1 1, j := j, a := [⟨false, 3, [.int .i64 x]⟩] } := build_one Try.underlying36 tinf3 _ _ _

/-- A new slice of ints, nil if it is empty. -/
def intsE (c : List Nat) (r : List Nat) (j : Nat) : Eff :=
  if c.length = 0 then { v := .slice none 0 0, r := r, j := j } else { v := .slice (some ⟨j, 0, some c.length⟩) c.length 1, r := r, j := j, a := [⟨false, 3, ints c⟩] }

set_option maxRecDepth 10000 in
theorem rborders_spec (v : Value) (l : List Nat) (g : Heap) (j : Nat) (hl : l.length ≤ 2 ^ 39) (hb : ∀ x ∈ l, x < 256) (hv : Src g v 1 l.length (bs l)) : FnSpec Try.prog 25 [v] g (intsE (borders l) (srcBlk v) j) := by
  refine spec_of_body [2] follows Try.func25 rfl (by kernel_rfl) (by simp [Try.f25]) (by kernel_rfl) rfl ?_
  intro g2 s2 n hg hfr hs hn hwf hsv
  have hv2 : Src g2 v 1 l.length (bs l) := hv.congr fun i hi => hg i (by
    unfold intsE
    split <;> simp [Eff.fp, hi])
  have hlen := hv2.len Try.underlying23
  have hdom : ∀ i ∈ srcBlk v, i < n := fun i hi => by
    obtain ⟨b, hb⟩ := Option.isSome_iff_exists.1 (hv2.dom i hi)
    exact hs i (hwf i b hb).1
  refine s_run (by simp only [runL, List.drop_succ_cons, List.drop_zero, awant_some, Option.getD_some, List.getElem?_toArray, List.getElem?_cons_succ, List.getElem?_cons_zero, Option.bind_some, b_tt, b_tf, b_ft, b_ff, Bool.not_true, Bool.not_false, List.take_succ_cons, List.take_zero, awant_none, astep, evl, put, ap_none, ap_new, ap_wr, List.length_nil, List.length_cons, Nat.add_zero, Nat.zero_add, upd_app, stepBin, abin, stepUn, stepPick, stepExtract, stepCall, if_true, if_false, reduceCtorEq, ↓reduceIte, Nat.reduceEqDiff, Nat.reduceAdd, List.map_cons, List.map_nil, Option.map_some, Option.map_none, Bool.false_eq_true, Int.reduceLE, Int.reduceToNat, ne_eq, not_false_eq_true, and_self, and_true, true_and, decide_true, decide_false] <;> rfl) ?_
  refine s_run (by simp only [runL, List.drop_succ_cons, List.drop_zero, awant_some, Option.getD_some, List.getElem?_toArray, List.getElem?_cons_succ, List.getElem?_cons_zero, Option.bind_some, b_tt, b_tf, b_ft, b_ff, Bool.not_true, Bool.not_false, List.take_succ_cons, List.take_zero, awant_none, astep, evl, put, ap_none, ap_new, ap_wr, List.length_nil, List.length_cons, Nat.add_zero, Nat.zero_add, upd_app, stepBin, abin, stepUn, stepPick, stepExtract, stepCall, if_true, if_false, reduceCtorEq, ↓reduceIte, Nat.reduceEqDiff, Nat.reduceAdd, List.map_cons, List.map_nil, Option.map_some, Option.map_none, Bool.false_eq_true, Int.reduceLE, Int.reduceToNat, ne_eq, not_false_eq_true, and_self, and_true, true_and, decide_true, decide_false] <;> rfl) ?_
  refine w_assoc (s_run (by simp only [runL, List.drop_succ_cons, List.drop_zero, awant_some, Option.getD_some, List.getElem?_toArray, List.getElem?_cons_succ, List.getElem?_cons_zero, Option.bind_some, b_tt, b_tf, b_ft, b_ff, Bool.not_true, Bool.not_false, List.take_succ_cons, List.take_zero, awant_none, astep, evl, put, ap_none, ap_new, ap_wr, List.length_nil, List.length_cons, Nat.add_zero, Nat.zero_add, upd_app, stepBin, abin, stepUn, stepPick, stepExtract, stepCall, if_true, if_false, reduceCtorEq, ↓reduceIte, Nat.reduceEqDiff, Nat.reduceAdd, List.map_cons, List.map_nil, Option.map_some, Option.map_none, Bool.false_eq_true, Int.reduceLE, Int.reduceToNat, ne_eq, not_false_eq_true, and_self, and_true, true_and, decide_true, decide_false] <;> rfl) ?_)
  refine s_block (fun t g n' => ∃ i' : Option Nat, OwnI 3 1 g (t 3) l.length (ints (borders l)) i' ∧ (∀ k, i' = some k → n ≤ k ∧ k < n') ∧ (∀ k, k < n → g k = g2 k) ∧ (l.length = 0 → i' = none)) ?_ ?_
  · refine w_loop (fun t g n' => ∃ (i : Nat) (i' : Option Nat), i ≤ l.length ∧ t 0 = v ∧ t 4 = .int .i64 ((i + 1 : Nat) : Int) ∧ OwnI 3 1 g (t 3) i (ints ((List.range i).map fun q => mx l (q + 1))) i' ∧ (∀ k, i' = some k → n ≤ k ∧ k < n') ∧ (∀ k, k < n → g k = g2 k) ∧ n ≤ n' ∧ (l.length = 0 → i' = none))
      (fun t _ _ => match t 4 with | .int _ i => l.length + 1 - i.toNat | _ => 0) ⟨0, none, by omega, by simp [upd_app], by simp [upd_app], OwnI.nil 3 1 g2, by simp, fun k hk => rfl, Nat.le_refl _, fun _ => rfl⟩ ?_
    rintro t g n' ⟨i, i', hil, t0, t4, hO, hi', hgo, hnn, hnil⟩
    by_cases hlt : i < l.length
    · have d : decide (((i + 1 : Nat) : Int) ≤ (l.length : Int)) = true := by simp; omega
      refine w_assoc (s_run (by simp only [runL, List.drop_succ_cons, List.drop_zero, awant_some, Option.getD_some, List.getElem?_toArray, List.getElem?_cons_succ, List.getElem?_cons_zero, Option.bind_some, b_tt, b_tf, b_ft, b_ff, Bool.not_true, Bool.not_false, List.take_succ_cons, List.take_zero, awant_none, astep, evl, put, ap_none, ap_new, ap_wr, List.length_nil, List.length_cons, Nat.add_zero, Nat.zero_add, upd_app, stepBin, abin, stepUn, stepPick, stepExtract, stepCall, if_true, if_false, reduceCtorEq, ↓reduceIte, Nat.reduceEqDiff, Nat.reduceAdd, List.map_cons, List.map_nil, Option.map_some, Option.map_none, Bool.false_eq_true, Int.reduceLE, Int.reduceToNat, ne_eq, not_false_eq_true, and_self, and_true, true_and, decide_true, decide_false, t0, t4, hlen, d] <;> rfl) ?_)
      refine s_true (by simp [evl, upd_app]) (s_skip (w_seq (w_block ?_)))
      have w1 : IntKind.i64.wrap (((i + 1 : Nat) : Int) - 1) = (i : Int) := by rw [wrap64_of (by omega) (by omega)]; omega
      refine s_run (by simp only [runL, List.drop_succ_cons, List.drop_zero, awant_some, Option.getD_some, List.getElem?_toArray, List.getElem?_cons_succ, List.getElem?_cons_zero, Option.bind_some, b_tt, b_tf, b_ft, b_ff, Bool.not_true, Bool.not_false, List.take_succ_cons, List.take_zero, awant_none, astep, evl, put, ap_none, ap_new, ap_wr, List.length_nil, List.length_cons, Nat.add_zero, Nat.zero_add, upd_app, stepBin, abin, stepUn, stepPick, stepExtract, stepCall, if_true, if_false, reduceCtorEq, ↓reduceIte, Nat.reduceEqDiff, Nat.reduceAdd, List.map_cons, List.map_nil, Option.map_some, Option.map_none, Bool.false_eq_true, Int.reduceLE, Int.reduceToNat, ne_eq, not_false_eq_true, and_self, and_true, true_and, decide_true, decide_false, t4, w1] <;> rfl) ?_
      have ot4 := t4
      refine s_block (fun t g' n'' => g' = g ∧ n'' = n' ∧ t 0 = v ∧ t 4 = .int .i64 ((i + 1 : Nat) : Int) ∧ t 5 = .int .i64 (mx l (i + 1)) ∧ OwnI 3 1 g (t 3) i (ints ((List.range i).map fun q => mx l (q + 1))) i') ?_ ?_
      · refine w_loop (fun t g' n'' => g' = g ∧ n'' = n' ∧ ∃ k : Nat, k ≤ i ∧ (∀ q, k < q → ¬ brd l (i + 1) q) ∧ t 0 = v ∧ t 4 = .int .i64 ((i + 1 : Nat) : Int) ∧ t 5 = .int .i64 k ∧ OwnI 3 1 g (t 3) i (ints ((List.range i).map fun q => mx l (q + 1))) i')
          (fun t _ _ => match t 5 with | .int _ k => k.toNat | _ => 0) ⟨rfl, rfl, i, Nat.le_refl _, fun q h1 h2 => by have := h2.1; omega, by simp [upd_app, t0], by simp [upd_app, t4], by simp [upd_app], hO⟩ ?_
        clear t0 t4 hO
        rintro t g' n'' ⟨rfl, rfl, k, hki, hno, t0, t4, t5, hO⟩
        have hvg : Src g' v 1 l.length (bs l) := hv2.congr fun q hq => hgo q (hdom q hq)
        obtain ⟨v1, a1, a2, _, _⟩ := hvg.slice Try.underlying23 tsize5 none (some (.int .i64 (k : Int))) 0 k rfl rfl (by omega) (by omega)
        obtain ⟨v2, b1, b2, _, _⟩ := hvg.slice Try.underlying23 tsize5 (some (.int .i64 ((i + 1 - k : Nat) : Int))) (some (.int .i64 ((i + 1 : Nat) : Int))) (i + 1 - k) (i + 1) rfl rfl (by omega) (by omega)
        have a3 : Src g' v1 1 (l.take k).length (bs (l.take k)) := by
          have : (l.take k).length = k := by simp; omega
          rw [this]; simpa using a2
        have b3 : Src g' v2 1 ((l.drop (i + 1 - k)).take k).length (bs ((l.drop (i + 1 - k)).take k)) := by
          have h1 : i + 1 - (i + 1 - k) = k := by omega
          have h2 : ((bs l).drop (i + 1 - k)).take k = bs ((l.drop (i + 1 - k)).take k) := by
            have e1 : (bs l).drop (i + 1 - k) = bs (l.drop (i + 1 - k)) := List.map_drop.symm
            rw [e1]; exact List.map_take.symm
          rw [Nat.mul_one, Nat.mul_one, h1, h2] at b2
          have h3 : ((l.drop (i + 1 - k)).take k).length = k := by simp; omega
          rw [h3]; exact b2
        obtain ⟨r1, x1, _⟩ := src_str a3
        obtain ⟨r2, x2, _⟩ := src_str b3
        have w2 : IntKind.i64.wrap (((i + 1 : Nat) : Int) - (k : Int)) = ((i + 1 - k : Nat) : Int) := by rw [wrap64_of (by omega) (by omega)]; omega
        have hq := nstr_beq (a := l.take k) (b := (l.drop (i + 1 - k)).take k) (fun x hx => hb x (List.mem_of_mem_take hx)) (fun x hx => hb x (List.mem_of_mem_drop (List.mem_of_mem_take hx)))
        by_cases he : l.take k = (l.drop (i + 1 - k)).take k
        · rw [decide_eq_true he] at hq
          refine w_assoc (s_draw #[0, 0, 3, 7, 0, 0, 0, 96, 0, 496, 1008, 2047] (by decide +kernel) (by simp only [runR, List.drop_succ_cons, List.drop_zero, awant_some, Option.getD_some, List.getElem?_toArray, List.getElem?_cons_succ, List.getElem?_cons_zero, Option.bind_some, b_tt, b_tf, b_ft, b_ff, Bool.not_true, Bool.not_false, List.take_succ_cons, List.take_zero, awant_none, astep, evl, put, ap_none, ap_new, ap_wr, List.length_nil, List.length_cons, Nat.add_zero, Nat.zero_add, upd_app, stepBin, abin, stepUn, stepPick, stepExtract, stepCall, if_true, if_false, reduceCtorEq, ↓reduceIte, Nat.reduceEqDiff, Nat.reduceAdd, List.map_cons, List.map_nil, Option.map_some, Option.map_none, Bool.false_eq_true, Int.reduceLE, Int.reduceToNat, ne_eq, not_false_eq_true, and_self, and_true, true_and, decide_true, decide_false, List.isEmpty_nil, Bool.and_self, Bool.and_true, t0, t4, t5, a1, x1, w2, b1, x2, hq] <;> rfl) ?_)
          refine s_false (by simp [evl, upd_app]) (s_exit ?_)
          have : mx l (i + 1) = k := mx_eq ((brd_slice (by omega) (by omega)).2 he) fun q hq => by
            rcases Nat.lt_or_ge k q with h | h
            · exact absurd hq (hno q h)
            · exact h
          exact ⟨rfl, rfl, by simpa [upd_app] using t0, by simpa [upd_app] using t4, by rw [this]; simpa [upd_app] using t5, hO⟩
        · rw [decide_eq_false he] at hq
          have hk0 : k ≠ 0 := fun e => he (by subst e; simp)
          have w3 : IntKind.i64.wrap ((k : Int) - 1) = ((k - 1 : Nat) : Int) := by rw [wrap64_of (by omega) (by omega)]; omega
          refine w_assoc (s_draw #[0, 0, 3, 7, 0, 0, 0, 96, 0, 496, 1008, 2047] (by decide +kernel) (by simp only [runR, List.drop_succ_cons, List.drop_zero, awant_some, Option.getD_some, List.getElem?_toArray, List.getElem?_cons_succ, List.getElem?_cons_zero, Option.bind_some, b_tt, b_tf, b_ft, b_ff, Bool.not_true, Bool.not_false, List.take_succ_cons, List.take_zero, awant_none, astep, evl, put, ap_none, ap_new, ap_wr, List.length_nil, List.length_cons, Nat.add_zero, Nat.zero_add, upd_app, stepBin, abin, stepUn, stepPick, stepExtract, stepCall, if_true, if_false, reduceCtorEq, ↓reduceIte, Nat.reduceEqDiff, Nat.reduceAdd, List.map_cons, List.map_nil, Option.map_some, Option.map_none, Bool.false_eq_true, Int.reduceLE, Int.reduceToNat, ne_eq, not_false_eq_true, and_self, and_true, true_and, decide_true, decide_false, List.isEmpty_nil, Bool.and_self, Bool.and_true, t0, t4, t5, a1, x1, w2, b1, x2, hq] <;> rfl) ?_)
          refine s_true (by simp [evl, upd_app]) (s_skip (w_block ?_))
          refine region_run (id := 7) (by simp only [runL, List.drop_succ_cons, List.drop_zero, awant_some, Option.getD_some, List.getElem?_toArray, List.getElem?_cons_succ, List.getElem?_cons_zero, Option.bind_some, b_tt, b_tf, b_ft, b_ff, Bool.not_true, Bool.not_false, List.take_succ_cons, List.take_zero, awant_none, astep, evl, put, ap_none, ap_new, ap_wr, List.length_nil, List.length_cons, Nat.add_zero, Nat.zero_add, upd_app, stepBin, abin, stepUn, stepPick, stepExtract, stepCall, if_true, if_false, reduceCtorEq, ↓reduceIte, Nat.reduceEqDiff, Nat.reduceAdd, List.map_cons, List.map_nil, Option.map_some, Option.map_none, Bool.false_eq_true, Int.reduceLE, Int.reduceToNat, ne_eq, not_false_eq_true, and_self, and_true, true_and, decide_true, decide_false, t5, w3] <;> rfl) ?_
          refine ⟨⟨rfl, rfl, k - 1, by omega, fun q h1 h2 => ?_, by simp [upd_app, t0], by simp [upd_app, t4], by simp [upd_app], hO⟩, ?_⟩
          · by_cases e : q = k
            · subst e; exact he ((brd_slice (by omega) h2.1).1 h2)
            · exact hno q (by omega) h2
          · rw [t5]
            simp only [upd_app, if_true, Int.toNat_natCast]
            omega
      · clear t0 t4 hO
        rintro t g' n'' ⟨rfl, rfl, t0, t4, t5, hO⟩
        obtain ⟨f, j', hf, hO', hj', hk'⟩ := own_push (P := Try.prog) (n := n'') (T := 36) (c := .int .i64 (mx l (i + 1))) hO (fun x hx => (hi' x hx).2) Try.underlying36 tinf3 (by omega) (by omega)
        refine region_run (id := 8) (by simp only [runL, List.drop_succ_cons, List.drop_zero, awant_some, Option.getD_some, List.getElem?_toArray, List.getElem?_cons_succ, List.getElem?_cons_zero, Option.bind_some, b_tt, b_tf, b_ft, b_ff, Bool.not_true, Bool.not_false, List.take_succ_cons, List.take_zero, awant_none, astep, evl, put, ap_none, ap_new, ap_wr, List.length_nil, List.length_cons, Nat.add_zero, Nat.zero_add, upd_app, stepBin, abin, stepUn, stepPick, stepExtract, stepCall, if_true, if_false, reduceCtorEq, ↓reduceIte, Nat.reduceEqDiff, Nat.reduceAdd, List.map_cons, List.map_nil, Option.map_some, Option.map_none, Bool.false_eq_true, Int.reduceLE, Int.reduceToNat, ne_eq, not_false_eq_true, and_self, and_true, true_and, decide_true, decide_false, t5, lit36, hf] <;> rfl) ?_
        have w2 : IntKind.i64.wrap (((i + 1 : Nat) : Int) + 1) = ((i + 1 + 1 : Nat) : Int) := by rw [wrap64_of (by omega) (by omega)]; omega
        refine region_run (id := 4) (by simp only [runL, List.drop_succ_cons, List.drop_zero, awant_some, Option.getD_some, List.getElem?_toArray, List.getElem?_cons_succ, List.getElem?_cons_zero, Option.bind_some, b_tt, b_tf, b_ft, b_ff, Bool.not_true, Bool.not_false, List.take_succ_cons, List.take_zero, awant_none, astep, evl, put, ap_none, ap_new, ap_wr, List.length_nil, List.length_cons, Nat.add_zero, Nat.zero_add, upd_app, stepBin, abin, stepUn, stepPick, stepExtract, stepCall, if_true, if_false, reduceCtorEq, ↓reduceIte, Nat.reduceEqDiff, Nat.reduceAdd, List.map_cons, List.map_nil, Option.map_some, Option.map_none, Bool.false_eq_true, Int.reduceLE, Int.reduceToNat, ne_eq, not_false_eq_true, and_self, and_true, true_and, decide_true, decide_false, t4, w2] <;> rfl) ?_
        have hrow : ints ((List.range i).map fun q => mx l (q + 1)) ++ [Value.int .i64 (mx l (i + 1))] = ints ((List.range (i + 1)).map fun q => mx l (q + 1)) := by
          rw [borders_row hlt]; simp
        rw [hrow] at hO'
        refine ⟨⟨i + 1, j', by omega, by simp [upd_app, t0], by simp [upd_app], hO', fun x hx => ?_, fun x hx => ?_, by omega, fun h => by omega⟩, ?_⟩
        · have := hj' x hx
          rcases this.1 with h | h
          · have := hi' x h; omega
          · omega
        · rw [hk' x (by omega) (fun e => by have := hi' x e.symm; omega)]
          exact hgo x hx
        · rw [ot4]
          simp only [upd_app, if_true, Int.toNat_natCast]
          omega
    · have d : decide (((i + 1 : Nat) : Int) ≤ (l.length : Int)) = false := by simp; omega
      refine w_assoc (s_run (by simp only [runL, List.drop_succ_cons, List.drop_zero, awant_some, Option.getD_some, List.getElem?_toArray, List.getElem?_cons_succ, List.getElem?_cons_zero, Option.bind_some, b_tt, b_tf, b_ft, b_ff, Bool.not_true, Bool.not_false, List.take_succ_cons, List.take_zero, awant_none, astep, evl, put, ap_none, ap_new, ap_wr, List.length_nil, List.length_cons, Nat.add_zero, Nat.zero_add, upd_app, stepBin, abin, stepUn, stepPick, stepExtract, stepCall, if_true, if_false, reduceCtorEq, ↓reduceIte, Nat.reduceEqDiff, Nat.reduceAdd, List.map_cons, List.map_nil, Option.map_some, Option.map_none, Bool.false_eq_true, Int.reduceLE, Int.reduceToNat, ne_eq, not_false_eq_true, and_self, and_true, true_and, decide_true, decide_false, t0, t4, hlen, d] <;> rfl) ?_)
      refine s_false (by simp [evl, upd_app]) (s_exit ?_)
      have : i = l.length := by omega
      subst this
      exact ⟨i', hO, hi', hgo, hnil⟩
  · rintro t g n' ⟨i', hO, hi', hgo, hnil⟩
    refine s_run (by simp only [runL, List.drop_succ_cons, List.drop_zero, awant_some, Option.getD_some, List.getElem?_toArray, List.getElem?_cons_succ, List.getElem?_cons_zero, Option.bind_some, b_tt, b_tf, b_ft, b_ff, Bool.not_true, Bool.not_false, List.take_succ_cons, List.take_zero, awant_none, astep, evl, put, ap_none, ap_new, ap_wr, List.length_nil, List.length_cons, Nat.add_zero, Nat.zero_add, upd_app, stepBin, abin, stepUn, stepPick, stepExtract, stepCall, if_true, if_false, reduceCtorEq, ↓reduceIte, Nat.reduceEqDiff, Nat.reduceAdd, List.map_cons, List.map_nil, Option.map_some, Option.map_none, Bool.false_eq_true, Int.reduceLE, Int.reduceToNat, ne_eq, not_false_eq_true, and_self, and_true, true_and, decide_true, decide_false] <;> rfl) ?_
    have hbl : (borders l).length = l.length := by simp [borders]
    by_cases h0 : l.length = 0
    · have e : intsE (borders l) (srcBlk v) j = { v := .slice none 0 0, r := srcBlk v, j := j } := by rw [intsE, if_pos (by omega)]
      rw [e]
      rcases hO with ⟨_, hv0, _⟩ | ⟨k, hk, _⟩
      · refine w_ret ⟨.inr rfl, by simp, [], fin_none ?_ trivial (fun i b hb => by rw [hgo i (hs i (hwf i b hb).1)]; exact hb)⟩
        simpa [resVal, upd_app] using hv0
      · rw [hnil h0] at hk; cases hk
    · have e : intsE (borders l) (srcBlk v) j = { v := .slice (some ⟨j, 0, some (borders l).length⟩) (borders l).length 1, r := srcBlk v, j := j, a := [⟨false, 3, ints (borders l)⟩] } := by rw [intsE, if_neg (by omega)]
      rw [e]
      rcases hO with ⟨_, _, h, _⟩ | ⟨k, hk, hv0, hgk, _⟩
      · omega
      · have hil : (ints (borders l)).length = (borders l).length := by simp
        have := fin_slice (s2 := s2) (g2 := g2) (n := n) (j := j) (r := srcBlk v) (k := k) (e := 3) (cs := ints (borders l)) (m := (borders l).length) (esz := 1) (v' := t 3) (by rw [hv0, hbl]) (hi' k hk).1 hgk plain_ints (fun i b hb => by
          rw [hgo i (hs i (hwf i b hb).1)]; exact hb)
        rw [hil] at this
        refine w_ret ⟨.inr rfl, by simp, [k], ?_⟩
        simpa [resVal, upd_app] using this
end Go.Proofs.Ytokmmcfnpobldaa
