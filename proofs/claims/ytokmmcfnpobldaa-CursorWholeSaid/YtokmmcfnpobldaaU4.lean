import Derived.Test.YtokmmcfnpobldaaU3
namespace Go.Proofs.Ytokmmcfnpobldaa
open Go Abs
set_option linter.unusedSimpArgs false
set_option linter.unusedVariables false

/-- The root and how often, of the reference: a part of the slice itself. -/
theorem rroot_cases (l : List Nat) : (l.length = 0 ∧ least l = 0) ∨ (l.length ≠ 0 ∧ least l ≠ 0) := by
  by_cases h : l.length = 0
  · exact .inl ⟨h, by rw [least, if_pos h]⟩
  · exact .inr ⟨h, by have := least_pos l h; omega⟩

theorem brd_slice {l : List Nat} {n k : Nat} (hn : n ≤ l.length) (hk : k < n) : brd l n k ↔ l.take k = (l.drop (n - k)).take k := brd_iff hn hk

theorem borders_row {l : List Nat} {i : Nat} (h : i < l.length) : (List.range (i + 1)).map (fun q => mx l (q + 1)) = (List.range i).map (fun q => mx l (q + 1)) ++ [mx l (i + 1)] := by
  rw [List.range_succ, List.map_append]; rfl

theorem lit36 (x : Int) (j : Nat) : stepBuildSlice Try.prog 36 1 [(0, .int .i64 x)] j = some { v := .slice (some ⟨j, 0, some 1⟩) 1 1, j := j, a := [⟨false, 3, [.int .i64 x]⟩] } := build_one Try.underlying36 tinf3 _ _ _

/-- A new slice of ints, nil if it is empty. -/
def intsE (c : List Nat) (r : List Nat) (j : Nat) : Eff :=
  if c.length = 0 then { v := .slice none 0 0, r := r, j := j } else { v := .slice (some ⟨j, 0, some c.length⟩) c.length 1, r := r, j := j, a := [⟨false, 3, ints c⟩] }

set_option maxRecDepth 10000 in
theorem rborders_spec (v : Value) (l : List Nat) (g : Heap) (j : Nat) (hl : l.length ≤ 2 ^ 39) (hb : ∀ x ∈ l, x < 256) (hv : Src g v 1 l.length (bs l)) : FnSpec Try.prog 25 [v] g (intsE (borders l) (srcBlk v) j) := by
  refine spec_of_body [2] follows Try.func25 rfl (by kernel_rfl) (by simp [Try.f25]) (by kernel_rfl) rfl ?_
  intro g2 s2 n hg hfr hs hn hwf hsv
  have hv2 : Src g2 v 1 l.length (bs l) := hv.congr fun i hi => hg i (by
    unfold intsE
    split <;> simp [Eff.fp, hi])
  have hlen := hv2.len Try.underlying23
  have hdom : ∀ i ∈ srcBlk v, i < n := fun i hi => by
    obtain ⟨b, hb⟩ := Option.isSome_iff_exists.1 (hv2.dom i hi)
    exact hs i (hwf i b hb).1
  refine s_run (by simp only [runL, List.drop_succ_cons, List.drop_zero, awant_some, Option.getD_some, List.getElem?_toArray, List.getElem?_cons_succ, List.getElem?_cons_zero, Option.bind_some, b_tt, b_tf, b_ft, b_ff, Bool.not_true, Bool.not_false, List.take_succ_cons, List.take_zero, awant_none, astep, evl, put, ap_none, ap_new, ap_wr, List.length_nil, List.length_cons, Nat.add_zero, Nat.zero_add, upd_app, stepBin, abin, stepUn, stepPick, stepExtract, stepCall, if_true, if_false, reduceCtorEq, ↓reduceIte, Nat.reduceEqDiff, Nat.reduceAdd, List.map_cons, List.map_nil, Option.map_some, Option.map_none, Bool.false_eq_true, Int.reduceLE, Int.reduceToNat, ne_eq, not_false_eq_true, and_self, and_true, true_and, decide_true, decide_false, Int.reduceEq, Int.reduceLT, Int.reduceBEq, Int.reduceBNe, not_true_eq_false, undef] <;> rfl) ?_
  refine s_run (by simp only [runL, List.drop_succ_cons, List.drop_zero, awant_some, Option.getD_some, List.getElem?_toArray, List.getElem?_cons_succ, List.getElem?_cons_zero, Option.bind_some, b_tt, b_tf, b_ft, b_ff, Bool.not_true, Bool.not_false, List.take_succ_cons, List.take_zero, awant_none, astep, evl, put, ap_none, ap_new, ap_wr, List.length_nil, List.length_cons, Nat.add_zero, Nat.zero_add, upd_app, stepBin, abin, stepUn, stepPick, stepExtract, stepCall, if_true, if_false, reduceCtorEq, ↓reduceIte, Nat.reduceEqDiff, Nat.reduceAdd, List.map_cons, List.map_nil, Option.map_some, Option.map_none, Bool.false_eq_true, Int.reduceLE, Int.reduceToNat, ne_eq, not_false_eq_true, and_self, and_true, true_and, decide_true, decide_false, Int.reduceEq, Int.reduceLT, Int.reduceBEq, Int.reduceBNe, not_true_eq_false, undef] <;> rfl) ?_
  refine w_assoc (s_run (by simp only [runL, List.drop_succ_cons, List.drop_zero, awant_some, Option.getD_some, List.getElem?_toArray, List.getElem?_cons_succ, List.getElem?_cons_zero, Option.bind_some, b_tt, b_tf, b_ft, b_ff, Bool.not_true, Bool.not_false, List.take_succ_cons, List.take_zero, awant_none, astep, evl, put, ap_none, ap_new, ap_wr, List.length_nil, List.length_cons, Nat.add_zero, Nat.zero_add, upd_app, stepBin, abin, stepUn, stepPick, stepExtract, stepCall, if_true, if_false, reduceCtorEq, ↓reduceIte, Nat.reduceEqDiff, Nat.reduceAdd, List.map_cons, List.map_nil, Option.map_some, Option.map_none, Bool.false_eq_true, Int.reduceLE, Int.reduceToNat, ne_eq, not_false_eq_true, and_self, and_true, true_and, decide_true, decide_false, Int.reduceEq, Int.reduceLT, Int.reduceBEq, Int.reduceBNe, not_true_eq_false, undef] <;> rfl) ?_)
  refine s_block (fun t g n' => ∃ i' : Option Nat, OwnI 3 1 g (t 3) l.length (ints (borders l)) i' ∧ (∀ k, i' = some k → n ≤ k ∧ k < n') ∧ (∀ k, k < n → g k = g2 k) ∧ (l.length = 0 → i' = none)) ?_ ?_
  · refine w_loop (fun t g n' => ∃ (i : Nat) (i' : Option Nat), i ≤ l.length ∧ t 0 = v ∧ t 4 = .int .i64 ((i + 1 : Nat) : Int) ∧ OwnI 3 1 g (t 3) i (ints ((List.range i).map fun q => mx l (q + 1))) i' ∧ (∀ k, i' = some k → n ≤ k ∧ k < n') ∧ (∀ k, k < n → g k = g2 k) ∧ n ≤ n' ∧ (l.length = 0 → i' = none))
      (fun t _ _ => match t 4 with | .int _ i => l.length + 1 - i.toNat | _ => 0) ⟨0, none, by omega, by simp [upd_app], by simp [upd_app], OwnI.nil 3 1 g2, by simp, fun k hk => rfl, Nat.le_refl _, fun _ => rfl⟩ ?_
    rintro t g n' ⟨i, i', hil, t0, t4, hO, hi', hgo, hnn, hnil⟩
    by_cases hlt : i < l.length
    · have d : decide (((i + 1 : Nat) : Int) ≤ (l.length : Int)) = true := by simp; omega
      refine w_assoc (s_run (by simp only [runL, List.drop_succ_cons, List.drop_zero, awant_some, Option.getD_some, List.getElem?_toArray, List.getElem?_cons_succ, List.getElem?_cons_zero, Option.bind_some, b_tt, b_tf, b_ft, b_ff, Bool.not_true, Bool.not_false, List.take_succ_cons, List.take_zero, awant_none, astep, evl, put, ap_none, ap_new, ap_wr, List.length_nil, List.length_cons, Nat.add_zero, Nat.zero_add, upd_app, stepBin, abin, stepUn, stepPick, stepExtract, stepCall, if_true, if_false, reduceCtorEq, ↓reduceIte, Nat.reduceEqDiff, Nat.reduceAdd, List.map_cons, List.map_nil, Option.map_some, Option.map_none, Bool.false_eq_true, Int.reduceLE, Int.reduceToNat, ne_eq, not_false_eq_true, and_self, and_true, true_and, decide_true, decide_false, Int.reduceEq, Int.reduceLT, Int.reduceBEq, Int.reduceBNe, not_true_eq_false, undef, t0, t4, hlen, d] <;> rfl) ?_)
      refine s_true (by simp [evl, upd_app]) (s_skip (w_seq (w_block ?_)))
      have w1 : IntKind.i64.wrap (((i + 1 : Nat) : Int) - 1) = (i : Int) := by rw [wrap64_of (by omega) (by omega)]; omega
      refine s_run (by simp only [runL, List.drop_succ_cons, List.drop_zero, awant_some, Option.getD_some, List.getElem?_toArray, List.getElem?_cons_succ, List.getElem?_cons_zero, Option.bind_some, b_tt, b_tf, b_ft, b_ff, Bool.not_true, Bool.not_false, List.take_succ_cons, List.take_zero, awant_none, astep, evl, put, ap_none, ap_new, ap_wr, List.length_nil, List.length_cons, Nat.add_zero, Nat.zero_add, upd_app, stepBin, abin, stepUn, stepPick, stepExtract, stepCall, if_true, if_false, reduceCtorEq, ↓reduceIte, Nat.reduceEqDiff, Nat.reduceAdd, List.map_cons, List.map_nil, Option.map_some, Option.map_none, Bool.false_eq_true, Int.reduceLE, Int.reduceToNat, ne_eq, not_false_eq_true, and_self, and_true, true_and, decide_true, decide_false, Int.reduceEq, Int.reduceLT, Int.reduceBEq, Int.reduceBNe, not_true_eq_false, undef, t4, w1] <;> rfl) ?_
      have ot4 := t4
      refine s_block (fun t g' n'' => g' = g ∧ n'' = n' ∧ t 0 = v ∧ t 4 = .int .i64 ((i + 1 : Nat) : Int) ∧ t 5 = .int .i64 (mx l (i + 1)) ∧ OwnI 3 1 g (t 3) i (ints ((List.range i).map fun q => mx l (q + 1))) i') ?_ ?_
      · refine w_loop (fun t g' n'' => g' = g ∧ n'' = n' ∧ ∃ k : Nat, k ≤ i ∧ (∀ q, k < q → ¬ brd l (i + 1) q) ∧ t 0 = v ∧ t 4 = .int .i64 ((i + 1 : Nat) : Int) ∧ t 5 = .int .i64 k ∧ OwnI 3 1 g (t 3) i (ints ((List.range i).map fun q => mx l (q + 1))) i')
          (fun t _ _ => match t 5 with | .int _ k => k.toNat | _ => 0) ⟨rfl, rfl, i, Nat.le_refl _, fun q h1 h2 => by have := h2.1; omega, by simp [upd_app, t0], by simp [upd_app, t4], by simp [upd_app], hO⟩ ?_
        clear t0 t4 hO
        rintro t g' n'' ⟨rfl, rfl, k, hki, hno, t0, t4, t5, hO⟩
        have hvg : Src g' v 1 l.length (bs l) := hv2.congr fun q hq => hgo q (hdom q hq)
        obtain ⟨v1, a1, a2, _, _⟩ := hvg.slice Try.underlying23 tsize5 none (some (.int .i64 (k : Int))) 0 k rfl rfl (by omega) (by omega)
        obtain ⟨v2, b1, b2, _, _⟩ := hvg.slice Try.underlying23 tsize5 (some (.int .i64 ((i + 1 - k : Nat) : Int))) (some (.int .i64 ((i + 1 : Nat) : Int))) (i + 1 - k) (i + 1) rfl rfl (by omega) (by omega)
        have a3 : Src g' v1 1 (l.take k).length (bs (l.take k)) := by
          have : (l.take k).length = k := by simp; omega
          rw [this]; simpa using a2
        have b3 : Src g' v2 1 ((l.drop (i + 1 - k)).take k).length (bs ((l.drop (i + 1 - k)).take k)) := by
          have h1 : i + 1 - (i + 1 - k) = k := by omega
          have h2 : ((bs l).drop (i + 1 - k)).take k = bs ((l.drop (i + 1 - k)).take k) := by
            have e1 : (bs l).drop (i + 1 - k) = bs (l.drop (i + 1 - k)) := List.map_drop.symm
            rw [e1]; exact List.map_take.symm
          rw [Nat.mul_one, Nat.mul_one, h1, h2] at b2
          have h3 : ((l.drop (i + 1 - k)).take k).length = k := by simp; omega
          rw [h3]; exact b2
        obtain ⟨r1, x1, _⟩ := src_str a3
        obtain ⟨r2, x2, _⟩ := src_str b3
        have w2 : IntKind.i64.wrap (((i + 1 : Nat) : Int) - (k : Int)) = ((i + 1 - k : Nat) : Int) := by rw [wrap64_of (by omega) (by omega)]; omega
        have hq := nstr_beq (a := l.take k) (b := (l.drop (i + 1 - k)).take k) (fun x hx => hb x (List.mem_of_mem_take hx)) (fun x hx => hb x (List.mem_of_mem_drop (List.mem_of_mem_take hx)))
        by_cases he : l.take k = (l.drop (i + 1 - k)).take k
        · rw [decide_eq_true he] at hq
          refine w_assoc (s_draw #[0, 0, 3, 7, 0, 0, 0, 96, 0, 496, 1008, 2047] (by decide +kernel) (by simp only [runR, List.drop_succ_cons, List.drop_zero, awant_some, Option.getD_some, List.getElem?_toArray, List.getElem?_cons_succ, List.getElem?_cons_zero, Option.bind_some, b_tt, b_tf, b_ft, b_ff, Bool.not_true, Bool.not_false, List.take_succ_cons, List.take_zero, awant_none, astep, evl, put, ap_none, ap_new, ap_wr, List.length_nil, List.length_cons, Nat.add_zero, Nat.zero_add, upd_app, stepBin, abin, stepUn, stepPick, stepExtract, stepCall, if_true, if_false, reduceCtorEq, ↓reduceIte, Nat.reduceEqDiff, Nat.reduceAdd, List.map_cons, List.map_nil, Option.map_some, Option.map_none, Bool.false_eq_true, Int.reduceLE, Int.reduceToNat, ne_eq, not_false_eq_true, and_self, and_true, true_and, decide_true, decide_false, Int.reduceEq, Int.reduceLT, Int.reduceBEq, Int.reduceBNe, not_true_eq_false, undef, List.isEmpty_nil, Bool.and_self, Bool.and_true, t0, t4, t5, a1, x1, w2, b1, x2, hq] <;> rfl) ?_)
          refine s_false (by simp [evl, upd_app]) (s_exit ?_)
          have : mx l (i + 1) = k := mx_eq ((brd_slice (by omega) (by omega)).2 he) fun q hq => by
            rcases Nat.lt_or_ge k q with h | h
            · exact absurd hq (hno q h)
            · exact h
          exact ⟨rfl, rfl, by simpa [upd_app] using t0, by simpa [upd_app] using t4, by rw [this]; simpa [upd_app] using t5, hO⟩
        · rw [decide_eq_false he] at hq
          have hk0 : k ≠ 0 := fun e => he (by subst e; simp)
          have w3 : IntKind.i64.wrap ((k : Int) - 1) = ((k - 1 : Nat) : Int) := by rw [wrap64_of (by omega) (by omega)]; omega
          refine w_assoc (s_draw #[0, 0, 3, 7, 0, 0, 0, 96, 0, 496, 1008, 2047] (by decide +kernel) (by simp only [runR, List.drop_succ_cons, List.drop_zero, awant_some, Option.getD_some, List.getElem?_toArray, List.getElem?_cons_succ, List.getElem?_cons_zero, Option.bind_some, b_tt, b_tf, b_ft, b_ff, Bool.not_true, Bool.not_false, List.take_succ_cons, List.take_zero, awant_none, astep, evl, put, ap_none, ap_new, ap_wr, List.length_nil, List.length_cons, Nat.add_zero, Nat.zero_add, upd_app, stepBin, abin, stepUn, stepPick, stepExtract, stepCall, if_true, if_false, reduceCtorEq, ↓reduceIte, Nat.reduceEqDiff, Nat.reduceAdd, List.map_cons, List.map_nil, Option.map_some, Option.map_none, Bool.false_eq_true, Int.reduceLE, Int.reduceToNat, ne_eq, not_false_eq_true, and_self, and_true, true_and, decide_true, decide_false, Int.reduceEq, Int.reduceLT, Int.reduceBEq, Int.reduceBNe, not_true_eq_false, undef, List.isEmpty_nil, Bool.and_self, Bool.and_true, t0, t4, t5, a1, x1, w2, b1, x2, hq] <;> rfl) ?_)
          refine s_true (by simp [evl, upd_app]) (s_skip (w_block ?_))
          refine region_run (id := 7) (by simp only [runL, List.drop_succ_cons, List.drop_zero, awant_some, Option.getD_some, List.getElem?_toArray, List.getElem?_cons_succ, List.getElem?_cons_zero, Option.bind_some, b_tt, b_tf, b_ft, b_ff, Bool.not_true, Bool.not_false, List.take_succ_cons, List.take_zero, awant_none, astep, evl, put, ap_none, ap_new, ap_wr, List.length_nil, List.length_cons, Nat.add_zero, Nat.zero_add, upd_app, stepBin, abin, stepUn, stepPick, stepExtract, stepCall, if_true, if_false, reduceCtorEq, ↓reduceIte, Nat.reduceEqDiff, Nat.reduceAdd, List.map_cons, List.map_nil, Option.map_some, Option.map_none, Bool.false_eq_true, Int.reduceLE, Int.reduceToNat, ne_eq, not_false_eq_true, and_self, and_true, true_and, decide_true, decide_false, Int.reduceEq, Int.reduceLT, Int.reduceBEq, Int.reduceBNe, not_true_eq_false, undef, t5, w3] <;> rfl) ?_
          refine ⟨⟨rfl, rfl, k - 1, by omega, fun q h1 h2 => ?_, by simp [upd_app, t0], by simp [upd_app, t4], by simp [upd_app], hO⟩, ?_⟩
          · by_cases e : q = k
            · subst e; exact he ((brd_slice (by omega) h2.1).1 h2)
            · exact hno q (by omega) h2
          · rw [t5]
            simp only [upd_app, if_true, Int.toNat_natCast]
            omega
      · clear t0 t4 hO
        rintro t g' n'' ⟨rfl, rfl, t0, t4, t5, hO⟩
        obtain ⟨f, j', hf, hO', hj', hk'⟩ := own_push (P := Try.prog) (n := n'') (T := 36) (c := .int .i64 (mx l (i + 1))) hO (fun x hx => (hi' x hx).2) Try.underlying36 tinf3 (by omega) (by omega)
        refine region_run (id := 8) (by simp only [runL, List.drop_succ_cons, List.drop_zero, awant_some, Option.getD_some, List.getElem?_toArray, List.getElem?_cons_succ, List.getElem?_cons_zero, Option.bind_some, b_tt, b_tf, b_ft, b_ff, Bool.not_true, Bool.not_false, List.take_succ_cons, List.take_zero, awant_none, astep, evl, put, ap_none, ap_new, ap_wr, List.length_nil, List.length_cons, Nat.add_zero, Nat.zero_add, upd_app, stepBin, abin, stepUn, stepPick, stepExtract, stepCall, if_true, if_false, reduceCtorEq, ↓reduceIte, Nat.reduceEqDiff, Nat.reduceAdd, List.map_cons, List.map_nil, Option.map_some, Option.map_none, Bool.false_eq_true, Int.reduceLE, Int.reduceToNat, ne_eq, not_false_eq_true, and_self, and_true, true_and, decide_true, decide_false, Int.reduceEq, Int.reduceLT, Int.reduceBEq, Int.reduceBNe, not_true_eq_false, undef, t5, lit36, hf] <;> rfl) ?_
        have w2 : IntKind.i64.wrap (((i + 1 : Nat) : Int) + 1) = ((i + 1 + 1 : Nat) : Int) := by rw [wrap64_of (by omega) (by omega)]; omega
        refine region_run (id := 4) (by simp only [runL, List.drop_succ_cons, List.drop_zero, awant_some, Option.getD_some, List.getElem?_toArray, List.getElem?_cons_succ, List.getElem?_cons_zero, Option.bind_some, b_tt, b_tf, b_ft, b_ff, Bool.not_true, Bool.not_false, List.take_succ_cons, List.take_zero, awant_none, astep, evl, put, ap_none, ap_new, ap_wr, List.length_nil, List.length_cons, Nat.add_zero, Nat.zero_add, upd_app, stepBin, abin, stepUn, stepPick, stepExtract, stepCall, if_true, if_false, reduceCtorEq, ↓reduceIte, Nat.reduceEqDiff, Nat.reduceAdd, List.map_cons, List.map_nil, Option.map_some, Option.map_none, Bool.false_eq_true, Int.reduceLE, Int.reduceToNat, ne_eq, not_false_eq_true, and_self, and_true, true_and, decide_true, decide_false, Int.reduceEq, Int.reduceLT, Int.reduceBEq, Int.reduceBNe, not_true_eq_false, undef, t4, w2] <;> rfl) ?_
        have hrow : ints ((List.range i).map fun q => mx l (q + 1)) ++ [Value.int .i64 (mx l (i + 1))] = ints ((List.range (i + 1)).map fun q => mx l (q + 1)) := by
          rw [borders_row hlt]; simp
        rw [hrow] at hO'
        refine ⟨⟨i + 1, j', by omega, by simp [upd_app, t0], by simp [upd_app], hO', fun x hx => ?_, fun x hx => ?_, by omega, fun h => by omega⟩, ?_⟩
        · have := hj' x hx
          rcases this.1 with h | h
          · have := hi' x h; omega
          · omega
        · rw [hk' x (by omega) (fun e => by have := hi' x e.symm; omega)]
          exact hgo x hx
        · rw [ot4]
          simp only [upd_app, if_true, Int.toNat_natCast]
          omega
    · have d : decide (((i + 1 : Nat) : Int) ≤ (l.length : Int)) = false := by simp; omega
      refine w_assoc (s_run (by simp only [runL, List.drop_succ_cons, List.drop_zero, awant_some, Option.getD_some, List.getElem?_toArray, List.getElem?_cons_succ, List.getElem?_cons_zero, Option.bind_some, b_tt, b_tf, b_ft, b_ff, Bool.not_true, Bool.not_false, List.take_succ_cons, List.take_zero, awant_none, astep, evl, put, ap_none, ap_new, ap_wr, List.length_nil, List.length_cons, Nat.add_zero, Nat.zero_add, upd_app, stepBin, abin, stepUn, stepPick, stepExtract, stepCall, if_true, if_false, reduceCtorEq, ↓reduceIte, Nat.reduceEqDiff, Nat.reduceAdd, List.map_cons, List.map_nil, Option.map_some, Option.map_none, Bool.false_eq_true, Int.reduceLE, Int.reduceToNat, ne_eq, not_false_eq_true, and_self, and_true, true_and, decide_true, decide_false, Int.reduceEq, Int.reduceLT, Int.reduceBEq, Int.reduceBNe, not_true_eq_false, undef, t0, t4, hlen, d] <;> rfl) ?_)
      refine s_false (by simp [evl, upd_app]) (s_exit ?_)
      have : i = l.length := by omega
      subst this
      exact ⟨i', hO, hi', hgo, hnil⟩
  · rintro t g n' ⟨i', hO, hi', hgo, hnil⟩
    refine s_run (by simp only [runL, List.drop_succ_cons, List.drop_zero, awant_some, Option.getD_some, List.getElem?_toArray, List.getElem?_cons_succ, List.getElem?_cons_zero, Option.bind_some, b_tt, b_tf, b_ft, b_ff, Bool.not_true, Bool.not_false, List.take_succ_cons, List.take_zero, awant_none, astep, evl, put, ap_none, ap_new, ap_wr, List.length_nil, List.length_cons, Nat.add_zero, Nat.zero_add, upd_app, stepBin, abin, stepUn, stepPick, stepExtract, stepCall, if_true, if_false, reduceCtorEq, ↓reduceIte, Nat.reduceEqDiff, Nat.reduceAdd, List.map_cons, List.map_nil, Option.map_some, Option.map_none, Bool.false_eq_true, Int.reduceLE, Int.reduceToNat, ne_eq, not_false_eq_true, and_self, and_true, true_and, decide_true, decide_false, Int.reduceEq, Int.reduceLT, Int.reduceBEq, Int.reduceBNe, not_true_eq_false, undef] <;> rfl) ?_
    have hbl : (borders l).length = l.length := by simp [borders]
    by_cases h0 : l.length = 0
    · have e : intsE (borders l) (srcBlk v) j = { v := .slice none 0 0, r := srcBlk v, j := j } := by rw [intsE, if_pos (by omega)]
      rw [e]
      rcases hO with ⟨_, hv0, _⟩ | ⟨k, hk, _⟩
      · refine w_ret ⟨.inr rfl, by simp, [], fin_none ?_ trivial (fun i b hb => by rw [hgo i (hs i (hwf i b hb).1)]; exact hb)⟩
        simpa [resVal, upd_app] using hv0
      · rw [hnil h0] at hk; cases hk
    · have e : intsE (borders l) (srcBlk v) j = { v := .slice (some ⟨j, 0, some (borders l).length⟩) (borders l).length 1, r := srcBlk v, j := j, a := [⟨false, 3, ints (borders l)⟩] } := by rw [intsE, if_neg (by omega)]
      rw [e]
      rcases hO with ⟨_, _, h, _⟩ | ⟨k, hk, hv0, hgk, _⟩
      · omega
      · have hil : (ints (borders l)).length = (borders l).length := by simp
        have := fin_slice (s2 := s2) (g2 := g2) (n := n) (j := j) (r := srcBlk v) (k := k) (e := 3) (cs := ints (borders l)) (m := (borders l).length) (esz := 1) (v' := t 3) (by rw [hv0, hbl]) (hi' k hk).1 hgk plain_ints (fun i b hb => by
          rw [hgo i (hs i (hwf i b hb).1)]; exact hb)
        rw [hil] at this
        refine w_ret ⟨.inr rfl, by simp, [k], ?_⟩
        simpa [resVal, upd_app] using this
end Go.Proofs.Ytokmmcfnpobldaa

namespace Go.Proofs.Ytokmmcfnpobldaa
open Go Abs
set_option linter.unusedSimpArgs false
set_option linter.unusedVariables false

set_option maxRecDepth 10000 in
/-- The reference's root: a part of the slice. -/
theorem rroot_spec (v : Value) (l : List Nat) (g : Heap) (hl : l.length ≤ 2 ^ 39) (hb : ∀ x ∈ l, x < 256) (hv : Src g v 1 l.length (bs l)) (h0 : l.length ≠ 0) :
    ∃ v', Src g v' 1 (l.take (rootLen l)).length (bs (l.take (rootLen l))) ∧ (∀ i ∈ srcBlk v', i ∈ srcBlk v) ∧ FnSpec Try.prog 22 [v] g { v := .tuple #[v', .int .i64 (l.length / rootLen l : Nat)], r := srcBlk v } := by
  have hlp := least_pos l h0
  have hrp := rootLen_pos l h0
  obtain ⟨v', hs1, hs2, hs3, hs4⟩ := hv.slice Try.underlying23 tsize5 none (some (.int .i64 (rootLen l : Int))) 0 (rootLen l) rfl rfl (by omega) hrp.2
  have hlt : (l.take (rootLen l)).length = rootLen l := by simp; omega
  refine ⟨v', by rw [hlt]; simpa using hs2, hs3, ?_⟩
  refine spec_of_body [2, 3] follows Try.func22 rfl (by kernel_rfl) (by simp [Try.f22]) (by kernel_rfl) rfl ?_
  intro g2 s2 n hg hfr hs hn hwf hsv
  have hv2 : Src g2 v 1 l.length (bs l) := hv.congr fun i hi => hg i (by simp [Eff.fp, hi])
  have hlen := hv2.len Try.underlying23
  refine s_run (by simp only [runL, List.drop_succ_cons, List.drop_zero, awant_some, Option.getD_some, List.getElem?_toArray, List.getElem?_cons_succ, List.getElem?_cons_zero, Option.bind_some, b_tt, b_tf, b_ft, b_ff, Bool.not_true, Bool.not_false, List.take_succ_cons, List.take_zero, awant_none, astep, evl, put, ap_none, ap_new, ap_wr, List.length_nil, List.length_cons, Nat.add_zero, Nat.zero_add, upd_app, stepBin, abin, stepUn, stepPick, stepExtract, stepCall, if_true, if_false, reduceCtorEq, ↓reduceIte, Nat.reduceEqDiff, Nat.reduceAdd, List.map_cons, List.map_nil, Option.map_some, Option.map_none, Bool.false_eq_true, Int.reduceLE, Int.reduceToNat, ne_eq, not_false_eq_true, and_self, and_true, true_and, decide_true, decide_false, Int.reduceEq, Int.reduceLT, Int.reduceBEq, Int.reduceBNe, not_true_eq_false, undef] <;> rfl) ?_
  refine s_take 1 (by simp only [runL, List.drop_succ_cons, List.drop_zero, awant_some, Option.getD_some, List.getElem?_toArray, List.getElem?_cons_succ, List.getElem?_cons_zero, Option.bind_some, b_tt, b_tf, b_ft, b_ff, Bool.not_true, Bool.not_false, List.take_succ_cons, List.take_zero, awant_none, astep, evl, put, ap_none, ap_new, ap_wr, List.length_nil, List.length_cons, Nat.add_zero, Nat.zero_add, upd_app, stepBin, abin, stepUn, stepPick, stepExtract, stepCall, if_true, if_false, reduceCtorEq, ↓reduceIte, Nat.reduceEqDiff, Nat.reduceAdd, List.map_cons, List.map_nil, Option.map_some, Option.map_none, Bool.false_eq_true, Int.reduceLE, Int.reduceToNat, ne_eq, not_false_eq_true, and_self, and_true, true_and, decide_true, decide_false, Int.reduceEq, Int.reduceLT, Int.reduceBEq, Int.reduceBNe, not_true_eq_false, undef] <;> rfl) ?_
  refine ops_call 27 _ rfl (rleast_spec v l g2 (by omega) hb hv2) (by simp) ?_
  refine ops_run (by simp only [runL, List.drop_succ_cons, List.drop_zero, awant_some, Option.getD_some, List.getElem?_toArray, List.getElem?_cons_succ, List.getElem?_cons_zero, Option.bind_some, b_tt, b_tf, b_ft, b_ff, Bool.not_true, Bool.not_false, List.take_succ_cons, List.take_zero, awant_none, astep, evl, put, ap_none, ap_new, ap_wr, List.length_nil, List.length_cons, Nat.add_zero, Nat.zero_add, upd_app, stepBin, abin, stepUn, stepPick, stepExtract, stepCall, if_true, if_false, reduceCtorEq, ↓reduceIte, Nat.reduceEqDiff, Nat.reduceAdd, List.map_cons, List.map_nil, Option.map_some, Option.map_none, Bool.false_eq_true, Int.reduceLE, Int.reduceToNat, ne_eq, not_false_eq_true, and_self, and_true, true_and, decide_true, decide_false, Int.reduceEq, Int.reduceLT, Int.reduceBEq, Int.reduceBNe, not_true_eq_false, undef] <;> rfl) ?_
  refine w_gen (fun t => t 0 = v ∧ t 4 = .int .i64 (least l)) (by simp [upd_app, put]) ?_
  rintro t ⟨t0, t4⟩
  have hz : (((least l : Nat) : Int) = 0) = False := by simp; omega
  have hz0 : (((least l : Nat) : Int) == 0) = false := by rw [beq_eq_false_iff_ne]; omega
  have hz' : (((rootLen l : Nat) : Int) = 0) = False := by simp; omega
  have hmod : (l.length : Int).tmod (least l : Int) = ((l.length % least l : Nat) : Int) := by rw [Int.tmod_eq_emod_of_nonneg (by omega)]; simp
  have hdiv : IntKind.i64.wrap ((l.length : Int).tdiv (rootLen l : Int)) = ((l.length / rootLen l : Nat) : Int) := by
    have := Nat.div_le_self l.length (rootLen l)
    rw [Int.tdiv_eq_ediv_of_nonneg (by omega), ← Int.natCast_ediv, wrap64_nat (by omega)]
  refine w_assoc (s_run (by simp only [runL, List.drop_succ_cons, List.drop_zero, awant_some, Option.getD_some, List.getElem?_toArray, List.getElem?_cons_succ, List.getElem?_cons_zero, Option.bind_some, b_tt, b_tf, b_ft, b_ff, Bool.not_true, Bool.not_false, List.take_succ_cons, List.take_zero, awant_none, astep, evl, put, ap_none, ap_new, ap_wr, List.length_nil, List.length_cons, Nat.add_zero, Nat.zero_add, upd_app, stepBin, abin, stepUn, stepPick, stepExtract, stepCall, if_true, if_false, reduceCtorEq, ↓reduceIte, Nat.reduceEqDiff, Nat.reduceAdd, List.map_cons, List.map_nil, Option.map_some, Option.map_none, Bool.false_eq_true, Int.reduceLE, Int.reduceToNat, ne_eq, not_false_eq_true, and_self, and_true, true_and, decide_true, decide_false, Int.reduceEq, Int.reduceLT, Int.reduceBEq, Int.reduceBNe, not_true_eq_false, undef, t4, hz0] <;> rfl) ?_)
  refine s_false (by simp [evl, upd_app]) (s_skip ?_)
  refine s_cut (fun t g n' => t 0 = v ∧ t 4 = .int .i64 (rootLen l) ∧ g2 = g) ?_ ?_
  · by_cases hm : l.length % least l = 0
    · have d1 : (((l.length % least l : Nat) : Int) != 0) = false := by simp [hm]
      refine s_run (by simp only [runL, List.drop_succ_cons, List.drop_zero, awant_some, Option.getD_some, List.getElem?_toArray, List.getElem?_cons_succ, List.getElem?_cons_zero, Option.bind_some, b_tt, b_tf, b_ft, b_ff, Bool.not_true, Bool.not_false, List.take_succ_cons, List.take_zero, awant_none, astep, evl, put, ap_none, ap_new, ap_wr, List.length_nil, List.length_cons, Nat.add_zero, Nat.zero_add, upd_app, stepBin, abin, stepUn, stepPick, stepExtract, stepCall, if_true, if_false, reduceCtorEq, ↓reduceIte, Nat.reduceEqDiff, Nat.reduceAdd, List.map_cons, List.map_nil, Option.map_some, Option.map_none, Bool.false_eq_true, Int.reduceLE, Int.reduceToNat, ne_eq, not_false_eq_true, and_self, and_true, true_and, decide_true, decide_false, Int.reduceEq, Int.reduceLT, Int.reduceBEq, Int.reduceBNe, not_true_eq_false, undef, t0, t4, hlen, hz, hmod, d1] <;> rfl) ?_
      refine w_false (by simp [evl, upd_app]) (w_skip ⟨rfl, by simp [upd_app, t0], ?_, rfl⟩)
      simp [upd_app, t4, rootLen, hm]
    · have d1 : (((l.length % least l : Nat) : Int) != 0) = true := by simp; omega
      refine s_run (by simp only [runL, List.drop_succ_cons, List.drop_zero, awant_some, Option.getD_some, List.getElem?_toArray, List.getElem?_cons_succ, List.getElem?_cons_zero, Option.bind_some, b_tt, b_tf, b_ft, b_ff, Bool.not_true, Bool.not_false, List.take_succ_cons, List.take_zero, awant_none, astep, evl, put, ap_none, ap_new, ap_wr, List.length_nil, List.length_cons, Nat.add_zero, Nat.zero_add, upd_app, stepBin, abin, stepUn, stepPick, stepExtract, stepCall, if_true, if_false, reduceCtorEq, ↓reduceIte, Nat.reduceEqDiff, Nat.reduceAdd, List.map_cons, List.map_nil, Option.map_some, Option.map_none, Bool.false_eq_true, Int.reduceLE, Int.reduceToNat, ne_eq, not_false_eq_true, and_self, and_true, true_and, decide_true, decide_false, Int.reduceEq, Int.reduceLT, Int.reduceBEq, Int.reduceBNe, not_true_eq_false, undef, t0, t4, hlen, hz, hmod, d1] <;> rfl) ?_
      refine w_true (by simp [evl, upd_app]) (region_run (id := 5) (by simp only [runL, List.drop_succ_cons, List.drop_zero, awant_some, Option.getD_some, List.getElem?_toArray, List.getElem?_cons_succ, List.getElem?_cons_zero, Option.bind_some, b_tt, b_tf, b_ft, b_ff, Bool.not_true, Bool.not_false, List.take_succ_cons, List.take_zero, awant_none, astep, evl, put, ap_none, ap_new, ap_wr, List.length_nil, List.length_cons, Nat.add_zero, Nat.zero_add, upd_app, stepBin, abin, stepUn, stepPick, stepExtract, stepCall, if_true, if_false, reduceCtorEq, ↓reduceIte, Nat.reduceEqDiff, Nat.reduceAdd, List.map_cons, List.map_nil, Option.map_some, Option.map_none, Bool.false_eq_true, Int.reduceLE, Int.reduceToNat, ne_eq, not_false_eq_true, and_self, and_true, true_and, decide_true, decide_false, Int.reduceEq, Int.reduceLT, Int.reduceBEq, Int.reduceBNe, not_true_eq_false, undef, t0, hlen] <;> rfl) ⟨rfl, by simp [upd_app, t0], ?_, rfl⟩)
      simp [upd_app, rootLen, hm]
  · clear t0 t4
    rintro t g n' ⟨t0, t4, rfl⟩
    refine s_draw #[0, 0, 3, 0, 8, 0, 56, 7, 255] (by decide +kernel) (by simp only [runR, List.drop_succ_cons, List.drop_zero, awant_some, Option.getD_some, List.getElem?_toArray, List.getElem?_cons_succ, List.getElem?_cons_zero, Option.bind_some, b_tt, b_tf, b_ft, b_ff, Bool.not_true, Bool.not_false, List.take_succ_cons, List.take_zero, awant_none, astep, evl, put, ap_none, ap_new, ap_wr, List.length_nil, List.length_cons, Nat.add_zero, Nat.zero_add, upd_app, stepBin, abin, stepUn, stepPick, stepExtract, stepCall, if_true, if_false, reduceCtorEq, ↓reduceIte, Nat.reduceEqDiff, Nat.reduceAdd, List.map_cons, List.map_nil, Option.map_some, Option.map_none, Bool.false_eq_true, Int.reduceLE, Int.reduceToNat, ne_eq, not_false_eq_true, and_self, and_true, true_and, decide_true, decide_false, Int.reduceEq, Int.reduceLT, Int.reduceBEq, Int.reduceBNe, not_true_eq_false, undef, List.isEmpty_nil, Bool.and_self, Bool.and_true, t0, t4, hs1, hlen, hz', hdiv] <;> rfl) ?_
    have hvt : isTup v' = false := by
      obtain ⟨a, e, rfl⟩ := hs2.shape
      rfl
    refine w_ret ⟨.inr rfl, fun _ r hr => ?_, [], fin_none ?_ ?_ (fun _ _ h => h)⟩
    · simp only [List.mem_cons, List.not_mem_nil, or_false] at hr
      rcases hr with rfl | rfl
      · exact hvt
      · rfl
    · simp [resVal, upd_app]
    · intro c hc
      simp at hc
      rcases hc with rfl | rfl
      · have h1 := hs4 s2 (hsv v (by simp))
        obtain ⟨a, e, rfl⟩ := hs2.shape
        exact h1
      · trivial
end Go.Proofs.Ytokmmcfnpobldaa

namespace Go.Proofs.Ytokmmcfnpobldaa
open Go Abs
set_option linter.unusedSimpArgs false
set_option linter.unusedVariables false

theorem src_blk {g : Heap} {k e : Nat} {ro : Bool} {l : List Nat} (h : g k = some ⟨ro, e, bs l⟩) : Src g (.slice (some ⟨k, 0, some l.length⟩) l.length 1) 1 l.length (bs l) := by
  by_cases h0 : l.length = 0
  · have : l = [] := List.eq_nil_of_length_eq_zero h0
    subst this
    exact .inr (.inl ⟨_, rfl, rfl, rfl⟩)
  · exact .inr (.inr ⟨_, ⟨ro, e, bs l⟩, rfl, by omega, by simp [rd, h], by rw [Nat.mul_one]; exact (List.take_of_length_le (by simp)).symm, by simp⟩)

theorem lit4 (x y z u : Int) (j : Nat) : stepBuildSlice Try.prog 23 4 [(0, .int .u8 x), (1, .int .u8 y), (2, .int .u8 z), (3, .int .u8 u)] j = some { v := .slice (some ⟨j, 0, some 4⟩) 4 1, j := j, a := [⟨false, 5, [.int .u8 x, .int .u8 y, .int .u8 z, .int .u8 u]⟩] } := by
  simp [stepBuildSlice, Try.underlying23, tinf5, fillL, Value.cells, isTup, putAll, List.replicate]

theorem lit36b (x y z u : Int) (j : Nat) : stepBuildSlice Try.prog 36 4 [(0, .int .i64 x), (1, .int .i64 y), (2, .int .i64 z), (3, .int .i64 u)] j = some { v := .slice (some ⟨j, 0, some 4⟩) 4 1, j := j, a := [⟨false, 3, [.int .i64 x, .int .i64 y, .int .i64 z, .int .i64 u]⟩] } := by
  simp [stepBuildSlice, Try.underlying36, tinf3, fillL, Value.cells, isTup, putAll, List.replicate]

/-- Bytes of a literal become a slice. -/
theorem conv_lit {g : Heap} {k : Nat} {cs : List Value} {m : Nat} (h : g k = some ⟨false, 5, cs⟩) (hm : m = cs.length) : stepConv Try.prog 23 23 (.slice (some ⟨k, 0, some m⟩) m 1) g = some { v := .slice (some ⟨k, 0, some m⟩) m 1, r := [k], w := [(k, ⟨true, 5, cs⟩)] } := by
  subst hm
  simp [stepConv, Try.underlying23, Try.underlying5, rd, h]

theorem abab_root : rootLen [97, 98, 97, 98] = 2 := by decide
theorem abab_least : least [97, 98, 97, 98] = 2 := by decide
theorem abab_borders : borders [97, 98, 97, 98] = [0, 0, 1, 2] := by decide
end Go.Proofs.Ytokmmcfnpobldaa

namespace Go.Proofs.Ytokmmcfnpobldaa
open Go Abs
set_option linter.unusedSimpArgs false
set_option linter.unusedVariables false

set_option maxRecDepth 10000 in
theorem pknown_spec (g : Heap) : FnSpec Try.prog 28 [] g { v := .bool true } := by
  refine spec_of_body [0] follows Try.func28 rfl (by kernel_rfl) (by simp [Try.f28]) (by kernel_rfl) rfl ?_
  intro g2 s2 n hg hfr hs hn hwf hsv
  refine s_run (by simp only [runL, List.drop_succ_cons, List.drop_zero, awant_some, Option.getD_some, List.getElem?_toArray, List.getElem?_cons_succ, List.getElem?_cons_zero, Option.bind_some, b_tt, b_tf, b_ft, b_ff, Bool.not_true, Bool.not_false, List.take_succ_cons, List.take_zero, awant_none, astep, evl, put, ap_none, ap_new, ap_wr, List.length_nil, List.length_cons, Nat.add_zero, Nat.zero_add, upd_app, stepBin, abin, stepUn, stepPick, stepExtract, stepCall, if_true, if_false, reduceCtorEq, ↓reduceIte, Nat.reduceEqDiff, Nat.reduceAdd, List.map_cons, List.map_nil, Option.map_some, Option.map_none, Bool.false_eq_true, Int.reduceLE, Int.reduceToNat, ne_eq, not_false_eq_true, and_self, and_true, true_and, decide_true, decide_false, Int.reduceEq, Int.reduceLT, Int.reduceBEq, Int.reduceBNe, not_true_eq_false, undef] <;> rfl) ?_
  refine s_take 1 (by simp only [runL, List.drop_succ_cons, List.drop_zero, awant_some, Option.getD_some, List.getElem?_toArray, List.getElem?_cons_succ, List.getElem?_cons_zero, Option.bind_some, b_tt, b_tf, b_ft, b_ff, Bool.not_true, Bool.not_false, List.take_succ_cons, List.take_zero, awant_none, astep, evl, put, ap_none, ap_new, ap_wr, List.length_nil, List.length_cons, Nat.add_zero, Nat.zero_add, upd_app, stepBin, abin, stepUn, stepPick, stepExtract, stepCall, if_true, if_false, reduceCtorEq, ↓reduceIte, Nat.reduceEqDiff, Nat.reduceAdd, List.map_cons, List.map_nil, Option.map_some, Option.map_none, Bool.false_eq_true, Int.reduceLE, Int.reduceToNat, ne_eq, not_false_eq_true, and_self, and_true, true_and, decide_true, decide_false, Int.reduceEq, Int.reduceLT, Int.reduceBEq, Int.reduceBNe, not_true_eq_false, undef, lit4] <;> rfl) (ops_heap fun G1 hG1 => ?_)
  have g1n : G1 n = some ⟨false, 5, bs [97, 98, 97, 98]⟩ := by rw [hG1]; simp [upd_app]
  have c1 := conv_lit g1n (m := 4) rfl
  refine ops_take 1 (by simp only [runL, List.drop_succ_cons, List.drop_zero, awant_some, Option.getD_some, List.getElem?_toArray, List.getElem?_cons_succ, List.getElem?_cons_zero, Option.bind_some, b_tt, b_tf, b_ft, b_ff, Bool.not_true, Bool.not_false, List.take_succ_cons, List.take_zero, awant_none, astep, evl, put, ap_none, ap_new, ap_wr, List.length_nil, List.length_cons, Nat.add_zero, Nat.zero_add, upd_app, stepBin, abin, stepUn, stepPick, stepExtract, stepCall, if_true, if_false, reduceCtorEq, ↓reduceIte, Nat.reduceEqDiff, Nat.reduceAdd, List.map_cons, List.map_nil, Option.map_some, Option.map_none, Bool.false_eq_true, Int.reduceLE, Int.reduceToNat, ne_eq, not_false_eq_true, and_self, and_true, true_and, decide_true, decide_false, Int.reduceEq, Int.reduceLT, Int.reduceBEq, Int.reduceBNe, not_true_eq_false, undef, c1] <;> rfl) (ops_heap fun G2 hG2 => ?_)
  have g2n : G2 n = some ⟨true, 5, bs [97, 98, 97, 98]⟩ := by rw [hG2]; simp [upd_app]
  have e2 : ∀ k, k < n → G2 k = g2 k := fun k hk => by rw [hG2]; simp [upd_app, hG1]; rw [if_neg (by omega), if_neg (by omega)]
  have hroot := root_spec _ [97, 98, 97, 98] G2 (n + 1) (by decide) (src_blk g2n)
  rw [rootE, if_neg (by decide), abab_root] at hroot
  refine ops_call 21 _ rfl hroot (by intro _; rfl) (ops_heap fun G3 hG3 => ?_)
  refine ops_run (by simp only [runL, List.drop_succ_cons, List.drop_zero, awant_some, Option.getD_some, List.getElem?_toArray, List.getElem?_cons_succ, List.getElem?_cons_zero, Option.bind_some, b_tt, b_tf, b_ft, b_ff, Bool.not_true, Bool.not_false, List.take_succ_cons, List.take_zero, awant_none, astep, evl, put, ap_none, ap_new, ap_wr, List.length_nil, List.length_cons, Nat.add_zero, Nat.zero_add, upd_app, stepBin, abin, stepUn, stepPick, stepExtract, stepCall, if_true, if_false, reduceCtorEq, ↓reduceIte, Nat.reduceEqDiff, Nat.reduceAdd, List.map_cons, List.map_nil, Option.map_some, Option.map_none, Bool.false_eq_true, Int.reduceLE, Int.reduceToNat, ne_eq, not_false_eq_true, and_self, and_true, true_and, decide_true, decide_false, Int.reduceEq, Int.reduceLT, Int.reduceBEq, Int.reduceBNe, not_true_eq_false, undef] <;> rfl) ?_
  have g3n : G3 (n + 1) = some ⟨false, 5, bs [97, 98]⟩ := by rw [hG3]; simp [ap_new, upd_app]
  have e3 : ∀ k, k < n → G3 k = g2 k := fun k hk => by rw [hG3]; simp [ap_new, upd_app, e2 k hk]; omega
  refine w_gen (fun t => t 1 = .slice (some ⟨n + 1, 0, some 2⟩) 2 1 ∧ t 2 = .int .i64 2) (by simp [upd_app, put]) ?_
  rintro t ⟨t1, t2⟩
  obtain ⟨r1, x1, _⟩ := src_str (src_blk g3n)
  have x1 : stepConv Try.prog 23 9 (.slice (some ⟨n + 1, 0, some 2⟩) 2 1) G3 = some { v := .string (nstr [97, 98]), r := r1 } := x1
  have hs1 : ((nstr [97, 98]).toList == (ByteArray.mk #[97, 98]).toList) = true := by decide +kernel
  refine s_take 9 (by simp only [runL, List.drop_succ_cons, List.drop_zero, awant_some, Option.getD_some, List.getElem?_toArray, List.getElem?_cons_succ, List.getElem?_cons_zero, Option.bind_some, b_tt, b_tf, b_ft, b_ff, Bool.not_true, Bool.not_false, List.take_succ_cons, List.take_zero, awant_none, astep, evl, put, ap_none, ap_new, ap_wr, List.length_nil, List.length_cons, Nat.add_zero, Nat.zero_add, upd_app, stepBin, abin, stepUn, stepPick, stepExtract, stepCall, if_true, if_false, reduceCtorEq, ↓reduceIte, Nat.reduceEqDiff, Nat.reduceAdd, List.map_cons, List.map_nil, Option.map_some, Option.map_none, Bool.false_eq_true, Int.reduceLE, Int.reduceToNat, ne_eq, not_false_eq_true, and_self, and_true, true_and, decide_true, decide_false, Int.reduceEq, Int.reduceLT, Int.reduceBEq, Int.reduceBNe, not_true_eq_false, undef, t1, t2, x1, hs1, beq_self_eq_true, lit4] <;> rfl) (ops_heap fun G4 hG4 => ?_)
  have g4n : G4 (n + 2) = some ⟨false, 5, bs [97, 98, 97, 98]⟩ := by rw [hG4]; simp [upd_app]
  have e4 : ∀ k, k < n → G4 k = g2 k := fun k hk => by rw [hG4]; simp [upd_app, e3 k hk]; omega
  have c2 := conv_lit g4n (m := 4) rfl
  refine ops_take 1 (by simp only [runL, List.drop_succ_cons, List.drop_zero, awant_some, Option.getD_some, List.getElem?_toArray, List.getElem?_cons_succ, List.getElem?_cons_zero, Option.bind_some, b_tt, b_tf, b_ft, b_ff, Bool.not_true, Bool.not_false, List.take_succ_cons, List.take_zero, awant_none, astep, evl, put, ap_none, ap_new, ap_wr, List.length_nil, List.length_cons, Nat.add_zero, Nat.zero_add, upd_app, stepBin, abin, stepUn, stepPick, stepExtract, stepCall, if_true, if_false, reduceCtorEq, ↓reduceIte, Nat.reduceEqDiff, Nat.reduceAdd, List.map_cons, List.map_nil, Option.map_some, Option.map_none, Bool.false_eq_true, Int.reduceLE, Int.reduceToNat, ne_eq, not_false_eq_true, and_self, and_true, true_and, decide_true, decide_false, Int.reduceEq, Int.reduceLT, Int.reduceBEq, Int.reduceBNe, not_true_eq_false, undef, c2] <;> rfl) (ops_heap fun G5 hG5 => ?_)
  have g5n : G5 (n + 2) = some ⟨true, 5, bs [97, 98, 97, 98]⟩ := by rw [hG5]; simp [upd_app]
  have e5 : ∀ k, k < n → G5 k = g2 k := fun k hk => by rw [hG5]; simp [upd_app, e4 k hk]; omega
  have hleast := least_spec _ [97, 98, 97, 98] G5 (by decide) (src_blk g5n)
  rw [abab_least] at hleast
  refine g_call 26 _ (by simp only [runL, List.drop_succ_cons, List.drop_zero, awant_some, Option.getD_some, List.getElem?_toArray, List.getElem?_cons_succ, List.getElem?_cons_zero, Option.bind_some, b_tt, b_tf, b_ft, b_ff, Bool.not_true, Bool.not_false, List.take_succ_cons, List.take_zero, awant_none, astep, evl, put, ap_none, ap_new, ap_wr, List.length_nil, List.length_cons, Nat.add_zero, Nat.zero_add, upd_app, stepBin, abin, stepUn, stepPick, stepExtract, stepCall, if_true, if_false, reduceCtorEq, ↓reduceIte, Nat.reduceEqDiff, Nat.reduceAdd, List.map_cons, List.map_nil, Option.map_some, Option.map_none, Bool.false_eq_true, Int.reduceLE, Int.reduceToNat, ne_eq, not_false_eq_true, and_self, and_true, true_and, decide_true, decide_false, Int.reduceEq, Int.reduceLT, Int.reduceBEq, Int.reduceBNe, not_true_eq_false, undef] <;> rfl) rfl hleast (by simp) ?_
  refine ops_take 4 (by simp only [runL, List.drop_succ_cons, List.drop_zero, awant_some, Option.getD_some, List.getElem?_toArray, List.getElem?_cons_succ, List.getElem?_cons_zero, Option.bind_some, b_tt, b_tf, b_ft, b_ff, Bool.not_true, Bool.not_false, List.take_succ_cons, List.take_zero, awant_none, astep, evl, put, ap_none, ap_new, ap_wr, List.length_nil, List.length_cons, Nat.add_zero, Nat.zero_add, upd_app, stepBin, abin, stepUn, stepPick, stepExtract, stepCall, if_true, if_false, reduceCtorEq, ↓reduceIte, Nat.reduceEqDiff, Nat.reduceAdd, List.map_cons, List.map_nil, Option.map_some, Option.map_none, Bool.false_eq_true, Int.reduceLE, Int.reduceToNat, ne_eq, not_false_eq_true, and_self, and_true, true_and, decide_true, decide_false, Int.reduceEq, Int.reduceLT, Int.reduceBEq, Int.reduceBNe, not_true_eq_false, undef, beq_self_eq_true, lit4] <;> rfl) (ops_heap fun G6 hG6 => ?_)
  have g6n : G6 (n + 3) = some ⟨false, 5, bs [97, 98, 97, 98]⟩ := by rw [hG6]; simp [upd_app]
  have e6 : ∀ k, k < n → G6 k = g2 k := fun k hk => by rw [hG6]; simp [upd_app, e5 k hk]; omega
  have c3 := conv_lit g6n (m := 4) rfl
  refine ops_take 1 (by simp only [runL, List.drop_succ_cons, List.drop_zero, awant_some, Option.getD_some, List.getElem?_toArray, List.getElem?_cons_succ, List.getElem?_cons_zero, Option.bind_some, b_tt, b_tf, b_ft, b_ff, Bool.not_true, Bool.not_false, List.take_succ_cons, List.take_zero, awant_none, astep, evl, put, ap_none, ap_new, ap_wr, List.length_nil, List.length_cons, Nat.add_zero, Nat.zero_add, upd_app, stepBin, abin, stepUn, stepPick, stepExtract, stepCall, if_true, if_false, reduceCtorEq, ↓reduceIte, Nat.reduceEqDiff, Nat.reduceAdd, List.map_cons, List.map_nil, Option.map_some, Option.map_none, Bool.false_eq_true, Int.reduceLE, Int.reduceToNat, ne_eq, not_false_eq_true, and_self, and_true, true_and, decide_true, decide_false, Int.reduceEq, Int.reduceLT, Int.reduceBEq, Int.reduceBNe, not_true_eq_false, undef, c3] <;> rfl) (ops_heap fun G7 hG7 => ?_)
  have g7n : G7 (n + 3) = some ⟨true, 5, bs [97, 98, 97, 98]⟩ := by rw [hG7]; simp [upd_app]
  have e7 : ∀ k, k < n → G7 k = g2 k := fun k hk => by rw [hG7]; simp [upd_app, e6 k hk]; omega
  have hbord := borders_spec _ [97, 98, 97, 98] G7 (n + 4) (by decide) (src_blk g7n)
  rw [abab_borders] at hbord
  refine g_call 24 _ (by simp only [runL, List.drop_succ_cons, List.drop_zero, awant_some, Option.getD_some, List.getElem?_toArray, List.getElem?_cons_succ, List.getElem?_cons_zero, Option.bind_some, b_tt, b_tf, b_ft, b_ff, Bool.not_true, Bool.not_false, List.take_succ_cons, List.take_zero, awant_none, astep, evl, put, ap_none, ap_new, ap_wr, List.length_nil, List.length_cons, Nat.add_zero, Nat.zero_add, upd_app, stepBin, abin, stepUn, stepPick, stepExtract, stepCall, if_true, if_false, reduceCtorEq, ↓reduceIte, Nat.reduceEqDiff, Nat.reduceAdd, List.map_cons, List.map_nil, Option.map_some, Option.map_none, Bool.false_eq_true, Int.reduceLE, Int.reduceToNat, ne_eq, not_false_eq_true, and_self, and_true, true_and, decide_true, decide_false, Int.reduceEq, Int.reduceLT, Int.reduceBEq, Int.reduceBNe, not_true_eq_false, undef] <;> rfl) rfl hbord (by intro _; rfl) (ops_heap fun G8 hG8 => ?_)
  have g8n : G8 (n + 4) = some ⟨false, 3, ints [0, 0, 1, 2]⟩ := by rw [hG8]; simp [ap_new, upd_app]
  have e8 : ∀ k, k < n → G8 k = g2 k := fun k hk => by rw [hG8]; simp [ap_new, upd_app, e7 k hk]; omega
  refine ops_take 1 (by simp only [runL, List.drop_succ_cons, List.drop_zero, awant_some, Option.getD_some, List.getElem?_toArray, List.getElem?_cons_succ, List.getElem?_cons_zero, Option.bind_some, b_tt, b_tf, b_ft, b_ff, Bool.not_true, Bool.not_false, List.take_succ_cons, List.take_zero, awant_none, astep, evl, put, ap_none, ap_new, ap_wr, List.length_nil, List.length_cons, Nat.add_zero, Nat.zero_add, upd_app, stepBin, abin, stepUn, stepPick, stepExtract, stepCall, if_true, if_false, reduceCtorEq, ↓reduceIte, Nat.reduceEqDiff, Nat.reduceAdd, List.map_cons, List.map_nil, Option.map_some, Option.map_none, Bool.false_eq_true, Int.reduceLE, Int.reduceToNat, ne_eq, not_false_eq_true, and_self, and_true, true_and, decide_true, decide_false, Int.reduceEq, Int.reduceLT, Int.reduceBEq, Int.reduceBNe, not_true_eq_false, undef, lit36b] <;> rfl) (ops_heap fun G9 hG9 => ?_)
  have g9n : G9 (n + 4) = some ⟨false, 3, ints [0, 0, 1, 2]⟩ := by rw [hG9]; simp [upd_app, g8n]
  have g9m : G9 (n + 5) = some ⟨false, 3, ints [0, 0, 1, 2]⟩ := by rw [hG9]; simp [upd_app]
  have e9 : ∀ k, k < n → G9 k = g2 k := fun k hk => by rw [hG9]; simp [upd_app, e8 k hk]; omega
  have src9 : ∀ k, G9 k = some ⟨false, 3, ints [0, 0, 1, 2]⟩ → Src G9 (.slice (some ⟨k, 0, some 4⟩) 4 1) 1 ([0, 0, 1, 2] : List Int).length (([0, 0, 1, 2] : List Int).map (Value.int .i64)) := fun k hk =>
    .inr (.inr ⟨_, ⟨false, 3, ints [0, 0, 1, 2]⟩, rfl, by decide, by simp [rd, hk], rfl, by simp⟩)
  have hints := ints_spec _ _ [0, 0, 1, 2] [0, 0, 1, 2] G9 (by decide) (by decide) (src9 _ g9n) (src9 _ g9m)
  refine g_call 23 _ (by simp only [runL, List.drop_succ_cons, List.drop_zero, awant_some, Option.getD_some, List.getElem?_toArray, List.getElem?_cons_succ, List.getElem?_cons_zero, Option.bind_some, b_tt, b_tf, b_ft, b_ff, Bool.not_true, Bool.not_false, List.take_succ_cons, List.take_zero, awant_none, astep, evl, put, ap_none, ap_new, ap_wr, List.length_nil, List.length_cons, Nat.add_zero, Nat.zero_add, upd_app, stepBin, abin, stepUn, stepPick, stepExtract, stepCall, if_true, if_false, reduceCtorEq, ↓reduceIte, Nat.reduceEqDiff, Nat.reduceAdd, List.map_cons, List.map_nil, Option.map_some, Option.map_none, Bool.false_eq_true, Int.reduceLE, Int.reduceToNat, ne_eq, not_false_eq_true, and_self, and_true, true_and, decide_true, decide_false, Int.reduceEq, Int.reduceLT, Int.reduceBEq, Int.reduceBNe, not_true_eq_false, undef] <;> rfl) rfl hints (by simp) ?_
  refine ops_run (by simp only [runL, List.drop_succ_cons, List.drop_zero, awant_some, Option.getD_some, List.getElem?_toArray, List.getElem?_cons_succ, List.getElem?_cons_zero, Option.bind_some, b_tt, b_tf, b_ft, b_ff, Bool.not_true, Bool.not_false, List.take_succ_cons, List.take_zero, awant_none, astep, evl, put, ap_none, ap_new, ap_wr, List.length_nil, List.length_cons, Nat.add_zero, Nat.zero_add, upd_app, stepBin, abin, stepUn, stepPick, stepExtract, stepCall, if_true, if_false, reduceCtorEq, ↓reduceIte, Nat.reduceEqDiff, Nat.reduceAdd, List.map_cons, List.map_nil, Option.map_some, Option.map_none, Bool.false_eq_true, Int.reduceLE, Int.reduceToNat, ne_eq, not_false_eq_true, and_self, and_true, true_and, decide_true, decide_false, Int.reduceEq, Int.reduceLT, Int.reduceBEq, Int.reduceBNe, not_true_eq_false, undef] <;> rfl) ?_
  refine w_ret ⟨.inr rfl, by simp, [], fin_none ?_ trivial ?_⟩
  · simp [resVal, upd_app]
  · intro i b hb
    have := hs i (hwf i b hb).1
    show G9 i = some b
    rw [e9 i this, hb]
end Go.Proofs.Ytokmmcfnpobldaa

namespace Go.Proofs.Ytokmmcfnpobldaa
open Go Abs
set_option linter.unusedSimpArgs false
set_option linter.unusedVariables false

theorem rootLen_nil {l : List Nat} (h : l.length = 0) : rootLen l = 0 := by
  have : least l = 0 := by rw [least, if_pos h]
  rw [rootLen, this, h]; simp

/-- What a root is, in both cases. -/
theorem root_use (v : Value) (l : List Nat) (G : Heap) (j : Nat) : ∃ va, (rootE v l j).v = .tuple #[va, .int .i64 (l.length / rootLen l : Nat)] ∧ Src ((rootE v l j).ap G) va 1 (l.take (rootLen l)).length (bs (l.take (rootLen l))) ∧ (∀ k, k ≠ j → (rootE v l j).ap G k = G k) ∧ (∀ i ∈ srcBlk va, i = j ∧ (rootE v l j).a.length = 1) ∧ (rootE v l j).r = srcBlk v ∧ ((rootE v l j).a ≠ [] → (rootE v l j).j = j) ∧ (rootE v l j).w = [] ∧ (rootE v l j).a.length ≤ 1 := by
  by_cases h : l.length = 0
  · have hn : l = [] := List.eq_nil_of_length_eq_zero h
    rw [rootE, if_pos h]
    refine ⟨.slice none 0 0, by rw [rootLen_nil h, h]; rfl, .inl ⟨rfl, by simp [hn], by simp [hn]⟩, fun k _ => rfl, by simp [srcBlk], rfl, fun h => (h rfl).elim, rfl, by simp⟩
  · have hrp := rootLen_pos l h
    have hlt : (l.take (rootLen l)).length = rootLen l := by simp; omega
    rw [rootE, if_neg h]
    refine ⟨_, rfl, ?_, fun k hk => by simp [ap_new, upd_app, hk], ?_, rfl, fun _ => rfl, rfl, by simp⟩
    · have := src_blk (g := ({ v := .tuple #[.slice (some ⟨j, 0, some (rootLen l)⟩) (rootLen l) 1, .int .i64 (l.length / rootLen l : Nat)], r := srcBlk v, j := j, a := [⟨false, 5, bs (l.take (rootLen l))⟩] } : Eff).ap G) (k := j) (e := 5) (ro := false) (l := l.take (rootLen l)) (by simp [ap_new, upd_app])
      rw [hlt] at this ⊢
      exact this
    · intro i hi
      simp [srcBlk] at hi
      exact ⟨hi.2, rfl⟩

set_option maxRecDepth 10000 in
theorem rroot_spec0 (v : Value) (l : List Nat) (g : Heap) (hv : Src g v 1 l.length (bs l)) (hb : ∀ x ∈ l, x < 256) (h0 : l.length = 0) : FnSpec Try.prog 22 [v] g { v := .tuple #[.slice none 0 0, .int .i64 0], r := srcBlk v } := by
  refine spec_of_body [2, 3] follows Try.func22 rfl (by kernel_rfl) (by simp [Try.f22]) (by kernel_rfl) rfl ?_
  intro g2 s2 n hg hfr hs hn hwf hsv
  have hv2 : Src g2 v 1 l.length (bs l) := hv.congr fun i hi => hg i (by simp [Eff.fp, hi])
  have hz : least l = 0 := by rw [least, if_pos h0]
  refine s_run (by simp only [runL, List.drop_succ_cons, List.drop_zero, awant_some, Option.getD_some, List.getElem?_toArray, List.getElem?_cons_succ, List.getElem?_cons_zero, Option.bind_some, b_tt, b_tf, b_ft, b_ff, Bool.not_true, Bool.not_false, List.take_succ_cons, List.take_zero, awant_none, astep, evl, put, ap_none, ap_new, ap_wr, List.length_nil, List.length_cons, Nat.add_zero, Nat.zero_add, upd_app, stepBin, abin, stepUn, stepPick, stepExtract, stepCall, if_true, if_false, reduceCtorEq, ↓reduceIte, Nat.reduceEqDiff, Nat.reduceAdd, List.map_cons, List.map_nil, Option.map_some, Option.map_none, Bool.false_eq_true, Int.reduceLE, Int.reduceToNat, ne_eq, not_false_eq_true, and_self, and_true, true_and, decide_true, decide_false, Int.reduceEq, Int.reduceLT, Int.reduceBEq, Int.reduceBNe, not_true_eq_false, undef] <;> rfl) ?_
  refine s_take 1 (by simp only [runL, List.drop_succ_cons, List.drop_zero, awant_some, Option.getD_some, List.getElem?_toArray, List.getElem?_cons_succ, List.getElem?_cons_zero, Option.bind_some, b_tt, b_tf, b_ft, b_ff, Bool.not_true, Bool.not_false, List.take_succ_cons, List.take_zero, awant_none, astep, evl, put, ap_none, ap_new, ap_wr, List.length_nil, List.length_cons, Nat.add_zero, Nat.zero_add, upd_app, stepBin, abin, stepUn, stepPick, stepExtract, stepCall, if_true, if_false, reduceCtorEq, ↓reduceIte, Nat.reduceEqDiff, Nat.reduceAdd, List.map_cons, List.map_nil, Option.map_some, Option.map_none, Bool.false_eq_true, Int.reduceLE, Int.reduceToNat, ne_eq, not_false_eq_true, and_self, and_true, true_and, decide_true, decide_false, Int.reduceEq, Int.reduceLT, Int.reduceBEq, Int.reduceBNe, not_true_eq_false, undef] <;> rfl) ?_
  refine ops_call 27 _ rfl (rleast_spec v l g2 (by omega) hb hv2) (by simp) ?_
  rw [hz]
  refine ops_run (by simp only [runL, List.drop_succ_cons, List.drop_zero, awant_some, Option.getD_some, List.getElem?_toArray, List.getElem?_cons_succ, List.getElem?_cons_zero, Option.bind_some, b_tt, b_tf, b_ft, b_ff, Bool.not_true, Bool.not_false, List.take_succ_cons, List.take_zero, awant_none, astep, evl, put, ap_none, ap_new, ap_wr, List.length_nil, List.length_cons, Nat.add_zero, Nat.zero_add, upd_app, stepBin, abin, stepUn, stepPick, stepExtract, stepCall, if_true, if_false, reduceCtorEq, ↓reduceIte, Nat.reduceEqDiff, Nat.reduceAdd, List.map_cons, List.map_nil, Option.map_some, Option.map_none, Bool.false_eq_true, Int.reduceLE, Int.reduceToNat, ne_eq, not_false_eq_true, and_self, and_true, true_and, decide_true, decide_false, Int.reduceEq, Int.reduceLT, Int.reduceBEq, Int.reduceBNe, not_true_eq_false, undef] <;> rfl) ?_
  have d : (((0 : Nat) : Int) == 0) = true := rfl
  refine w_assoc (s_run (by simp only [runL, List.drop_succ_cons, List.drop_zero, awant_some, Option.getD_some, List.getElem?_toArray, List.getElem?_cons_succ, List.getElem?_cons_zero, Option.bind_some, b_tt, b_tf, b_ft, b_ff, Bool.not_true, Bool.not_false, List.take_succ_cons, List.take_zero, awant_none, astep, evl, put, ap_none, ap_new, ap_wr, List.length_nil, List.length_cons, Nat.add_zero, Nat.zero_add, upd_app, stepBin, abin, stepUn, stepPick, stepExtract, stepCall, if_true, if_false, reduceCtorEq, ↓reduceIte, Nat.reduceEqDiff, Nat.reduceAdd, List.map_cons, List.map_nil, Option.map_some, Option.map_none, Bool.false_eq_true, Int.reduceLE, Int.reduceToNat, ne_eq, not_false_eq_true, and_self, and_true, true_and, decide_true, decide_false, Int.reduceEq, Int.reduceLT, Int.reduceBEq, Int.reduceBNe, not_true_eq_false, undef, d] <;> rfl) ?_)
  refine s_true (by simp [evl, upd_app]) (w_assoc (s_run (by simp only [runL, List.drop_succ_cons, List.drop_zero, awant_some, Option.getD_some, List.getElem?_toArray, List.getElem?_cons_succ, List.getElem?_cons_zero, Option.bind_some, b_tt, b_tf, b_ft, b_ff, Bool.not_true, Bool.not_false, List.take_succ_cons, List.take_zero, awant_none, astep, evl, put, ap_none, ap_new, ap_wr, List.length_nil, List.length_cons, Nat.add_zero, Nat.zero_add, upd_app, stepBin, abin, stepUn, stepPick, stepExtract, stepCall, if_true, if_false, reduceCtorEq, ↓reduceIte, Nat.reduceEqDiff, Nat.reduceAdd, List.map_cons, List.map_nil, Option.map_some, Option.map_none, Bool.false_eq_true, Int.reduceLE, Int.reduceToNat, ne_eq, not_false_eq_true, and_self, and_true, true_and, decide_true, decide_false, Int.reduceEq, Int.reduceLT, Int.reduceBEq, Int.reduceBNe, not_true_eq_false, undef] <;> rfl) ?_))
  refine s_ret ⟨.inr rfl, fun _ r hr => ?_, [], fin_none ?_ (by intro c hc; simp at hc; rcases hc with rfl | rfl <;> trivial) (fun _ _ h => h)⟩
  · simp only [List.mem_cons, List.not_mem_nil, or_false] at hr
    rcases hr with rfl | rfl <;> simp [upd_app, isTup]
  · simp [resVal, upd_app]

/-- The reference's root, in both cases. -/
theorem rroot_all (v : Value) (l : List Nat) (g : Heap) (hl : l.length ≤ 2 ^ 39) (hb : ∀ x ∈ l, x < 256) (hv : Src g v 1 l.length (bs l)) :
    ∃ v', Src g v' 1 (l.take (rootLen l)).length (bs (l.take (rootLen l))) ∧ (∀ i ∈ srcBlk v', i ∈ srcBlk v) ∧ FnSpec Try.prog 22 [v] g { v := .tuple #[v', .int .i64 (l.length / rootLen l : Nat)], r := srcBlk v } := by
  by_cases h : l.length = 0
  · have hn : l = [] := List.eq_nil_of_length_eq_zero h
    have := rroot_spec0 v l g hv hb h
    refine ⟨.slice none 0 0, .inl ⟨rfl, by simp [hn], by simp [hn]⟩, by simp [srcBlk], ?_⟩
    rw [rootLen_nil h, h]
    exact this
  · exact rroot_spec v l g hl hb hv h
end Go.Proofs.Ytokmmcfnpobldaa

namespace Go.Proofs.Ytokmmcfnpobldaa
open Go Abs
set_option linter.unusedSimpArgs false
set_option linter.unusedVariables false

theorem ops_num {P : Program} {ops : Array Oper} {K : (Nat → Value) → Heap → Nat → Prop} {t : Nat → Value} {g : Heap} {n : Nat} {l : List Oper} (h : ∀ N, N = n → awpOps P ops K l t g N) : awpOps P ops K l t g n := h n rfl

theorem ints_ints (c : List Nat) : ints c = (c.map fun (b : Nat) => (b : Int)).map (Value.int .i64) := by simp

/-- A new slice of ints, nil if it is empty: what it is. -/
theorem ints_use (c : List Nat) (r : List Nat) (G : Heap) (j : Nat) : Src ((intsE c r j).ap G) (intsE c r j).v 1 c.length (ints c) ∧ (∀ k, k ≠ j → (intsE c r j).ap G k = G k) ∧ (∀ i ∈ srcBlk (intsE c r j).v, i = j) ∧ (intsE c r j).r = r ∧ ((intsE c r j).a ≠ [] → (intsE c r j).j = j) ∧ (intsE c r j).a.length ≤ 1 := by
  by_cases h : c.length = 0
  · have hn : c = [] := List.eq_nil_of_length_eq_zero h
    rw [intsE, if_pos h]
    exact ⟨.inl ⟨rfl, by simp [hn], by simp [hn]⟩, fun k _ => rfl, by simp [srcBlk], rfl, fun h => (h rfl).elim, by simp⟩
  · rw [intsE, if_neg h]
    refine ⟨?_, fun k hk => by simp [ap_new, upd_app, hk], ?_, rfl, fun _ => rfl, by simp⟩
    · exact .inr (.inr ⟨_, ⟨false, 3, ints c⟩, rfl, by omega, by simp [rd, ap_new, upd_app], by rw [Nat.mul_one]; exact (List.take_of_length_le (by simp)).symm, by simp⟩)
    · intro i hi
      simp [srcBlk] at hi
      exact hi.2

theorem src_ints {g : Heap} {k e : Nat} {ro : Bool} {l : List Nat} (h : g k = some ⟨ro, e, ints l⟩) : Src g (.slice (some ⟨k, 0, some l.length⟩) l.length 1) 1 l.length (ints l) := by
  by_cases h0 : l.length = 0
  · have : l = [] := List.eq_nil_of_length_eq_zero h0
    subst this
    exact .inr (.inl ⟨_, rfl, rfl, rfl⟩)
  · exact .inr (.inr ⟨_, ⟨ro, e, ints l⟩, rfl, by omega, by simp [rd, h], by rw [Nat.mul_one]; exact (List.take_of_length_le (by simp)).symm, by simp⟩)

set_option maxRecDepth 10000 in
theorem lawTells_spec (v : Value) (l : List Nat) (g : Heap) (hb : ∀ x ∈ l, x < 256) (hv : Src g v 1 l.length (bs l)) : FnSpec Try.prog 7 [v] g { v := .bool true, r := srcBlk v } := by
  refine spec_of_body [2] follows Try.func7 rfl (by kernel_rfl) (by simp [Try.f7]) (by kernel_rfl) rfl ?_
  intro g2 s2 n hg hfr hs hn hwf hsv
  have hv2 : Src g2 v 1 l.length (bs l) := hv.congr fun i hi => hg i (by simp [Eff.fp, hi])
  have hlen := hv2.len Try.underlying23
  have hdom : ∀ i ∈ srcBlk v, i < n := fun i hi => by
    obtain ⟨b, hb⟩ := Option.isSome_iff_exists.1 (hv2.dom i hi)
    exact hs i (hwf i b hb).1
  refine s_run (by simp only [runL, List.drop_succ_cons, List.drop_zero, awant_some, Option.getD_some, List.getElem?_toArray, List.getElem?_cons_succ, List.getElem?_cons_zero, Option.bind_some, b_tt, b_tf, b_ft, b_ff, Bool.not_true, Bool.not_false, List.take_succ_cons, List.take_zero, awant_none, astep, evl, put, ap_none, ap_new, ap_wr, List.length_nil, List.length_cons, Nat.add_zero, Nat.zero_add, upd_app, stepBin, abin, stepUn, stepPick, stepExtract, stepCall, if_true, if_false, reduceCtorEq, ↓reduceIte, Nat.reduceEqDiff, Nat.reduceAdd, List.map_cons, List.map_nil, Option.map_some, Option.map_none, Bool.false_eq_true, Int.reduceLE, Int.reduceToNat, ne_eq, not_false_eq_true, and_self, and_true, true_and, decide_true, decide_false, Int.reduceEq, Int.reduceLT, Int.reduceBEq, Int.reduceBNe, not_true_eq_false, undef] <;> rfl) ?_
  by_cases h150 : l.length > 150
  · have d : decide ((l.length : Int) > 150) = true := by simp; omega
    refine w_assoc (s_run (by simp only [runL, List.drop_succ_cons, List.drop_zero, awant_some, Option.getD_some, List.getElem?_toArray, List.getElem?_cons_succ, List.getElem?_cons_zero, Option.bind_some, b_tt, b_tf, b_ft, b_ff, Bool.not_true, Bool.not_false, List.take_succ_cons, List.take_zero, awant_none, astep, evl, put, ap_none, ap_new, ap_wr, List.length_nil, List.length_cons, Nat.add_zero, Nat.zero_add, upd_app, stepBin, abin, stepUn, stepPick, stepExtract, stepCall, if_true, if_false, reduceCtorEq, ↓reduceIte, Nat.reduceEqDiff, Nat.reduceAdd, List.map_cons, List.map_nil, Option.map_some, Option.map_none, Bool.false_eq_true, Int.reduceLE, Int.reduceToNat, ne_eq, not_false_eq_true, and_self, and_true, true_and, decide_true, decide_false, Int.reduceEq, Int.reduceLT, Int.reduceBEq, Int.reduceBNe, not_true_eq_false, undef, hlen, d] <;> rfl) ?_)
    refine s_true (by simp [evl, upd_app]) (w_assoc (s_run (by simp only [runL, List.drop_succ_cons, List.drop_zero, awant_some, Option.getD_some, List.getElem?_toArray, List.getElem?_cons_succ, List.getElem?_cons_zero, Option.bind_some, b_tt, b_tf, b_ft, b_ff, Bool.not_true, Bool.not_false, List.take_succ_cons, List.take_zero, awant_none, astep, evl, put, ap_none, ap_new, ap_wr, List.length_nil, List.length_cons, Nat.add_zero, Nat.zero_add, upd_app, stepBin, abin, stepUn, stepPick, stepExtract, stepCall, if_true, if_false, reduceCtorEq, ↓reduceIte, Nat.reduceEqDiff, Nat.reduceAdd, List.map_cons, List.map_nil, Option.map_some, Option.map_none, Bool.false_eq_true, Int.reduceLE, Int.reduceToNat, ne_eq, not_false_eq_true, and_self, and_true, true_and, decide_true, decide_false, Int.reduceEq, Int.reduceLT, Int.reduceBEq, Int.reduceBNe, not_true_eq_false, undef] <;> rfl) ?_))
    refine s_ret ⟨.inr rfl, by simp, [], fin_none ?_ trivial (fun _ _ h => h)⟩
    simp [resVal, upd_app]
  have d : decide ((l.length : Int) > 150) = false := by simp; omega
  refine w_assoc (s_run (by simp only [runL, List.drop_succ_cons, List.drop_zero, awant_some, Option.getD_some, List.getElem?_toArray, List.getElem?_cons_succ, List.getElem?_cons_zero, Option.bind_some, b_tt, b_tf, b_ft, b_ff, Bool.not_true, Bool.not_false, List.take_succ_cons, List.take_zero, awant_none, astep, evl, put, ap_none, ap_new, ap_wr, List.length_nil, List.length_cons, Nat.add_zero, Nat.zero_add, upd_app, stepBin, abin, stepUn, stepPick, stepExtract, stepCall, if_true, if_false, reduceCtorEq, ↓reduceIte, Nat.reduceEqDiff, Nat.reduceAdd, List.map_cons, List.map_nil, Option.map_some, Option.map_none, Bool.false_eq_true, Int.reduceLE, Int.reduceToNat, ne_eq, not_false_eq_true, and_self, and_true, true_and, decide_true, decide_false, Int.reduceEq, Int.reduceLT, Int.reduceBEq, Int.reduceBNe, not_true_eq_false, undef, hlen, d] <;> rfl) ?_)
  refine s_false (by simp [evl, upd_app]) (s_skip ?_)
  refine w_gen (fun t => t 0 = v) (by simp [upd_app]) ?_
  intro t t0
  refine s_take 1 (by simp only [runL, List.drop_succ_cons, List.drop_zero, awant_some, Option.getD_some, List.getElem?_toArray, List.getElem?_cons_succ, List.getElem?_cons_zero, Option.bind_some, b_tt, b_tf, b_ft, b_ff, Bool.not_true, Bool.not_false, List.take_succ_cons, List.take_zero, awant_none, astep, evl, put, ap_none, ap_new, ap_wr, List.length_nil, List.length_cons, Nat.add_zero, Nat.zero_add, upd_app, stepBin, abin, stepUn, stepPick, stepExtract, stepCall, if_true, if_false, reduceCtorEq, ↓reduceIte, Nat.reduceEqDiff, Nat.reduceAdd, List.map_cons, List.map_nil, Option.map_some, Option.map_none, Bool.false_eq_true, Int.reduceLE, Int.reduceToNat, ne_eq, not_false_eq_true, and_self, and_true, true_and, decide_true, decide_false, Int.reduceEq, Int.reduceLT, Int.reduceBEq, Int.reduceBNe, not_true_eq_false, undef, t0] <;> rfl) ?_
  obtain ⟨va, u1, u2, u3, u4, u5, u6, u7, u8⟩ := root_use v l g2 n
  refine ops_call 21 _ rfl (root_spec v l g2 n (by omega) hv2) (by intro h; exact u6 h) (ops_heap fun G1 hG1 => ops_num fun N1 hN1 => ?_)
  rw [← hG1] at u2 u3
  rw [u1]
  refine ops_run (by simp only [runL, List.drop_succ_cons, List.drop_zero, awant_some, Option.getD_some, List.getElem?_toArray, List.getElem?_cons_succ, List.getElem?_cons_zero, Option.bind_some, b_tt, b_tf, b_ft, b_ff, Bool.not_true, Bool.not_false, List.take_succ_cons, List.take_zero, awant_none, astep, evl, put, ap_none, ap_new, ap_wr, List.length_nil, List.length_cons, Nat.add_zero, Nat.zero_add, upd_app, stepBin, abin, stepUn, stepPick, stepExtract, stepCall, if_true, if_false, reduceCtorEq, ↓reduceIte, Nat.reduceEqDiff, Nat.reduceAdd, List.map_cons, List.map_nil, Option.map_some, Option.map_none, Bool.false_eq_true, Int.reduceLE, Int.reduceToNat, ne_eq, not_false_eq_true, and_self, and_true, true_and, decide_true, decide_false, Int.reduceEq, Int.reduceLT, Int.reduceBEq, Int.reduceBNe, not_true_eq_false, undef] <;> rfl) ?_
  have e1 : ∀ k, k < n → G1 k = g2 k := fun k hk => u3 k (by omega)
  have hv3 : Src G1 v 1 l.length (bs l) := hv2.congr fun k hk => e1 k (hdom k hk)
  obtain ⟨vb, b1, b2, b3⟩ := rroot_all v l G1 (by omega) hb hv3
  refine w_gen (fun t => t 0 = v ∧ t 3 = va ∧ t 4 = .int .i64 (l.length / rootLen l : Nat)) (by simp [upd_app, put, t0]) ?_
  clear t0
  rintro t ⟨t0, t3, t4⟩
  refine s_take 1 (by simp only [runL, List.drop_succ_cons, List.drop_zero, awant_some, Option.getD_some, List.getElem?_toArray, List.getElem?_cons_succ, List.getElem?_cons_zero, Option.bind_some, b_tt, b_tf, b_ft, b_ff, Bool.not_true, Bool.not_false, List.take_succ_cons, List.take_zero, awant_none, astep, evl, put, ap_none, ap_new, ap_wr, List.length_nil, List.length_cons, Nat.add_zero, Nat.zero_add, upd_app, stepBin, abin, stepUn, stepPick, stepExtract, stepCall, if_true, if_false, reduceCtorEq, ↓reduceIte, Nat.reduceEqDiff, Nat.reduceAdd, List.map_cons, List.map_nil, Option.map_some, Option.map_none, Bool.false_eq_true, Int.reduceLE, Int.reduceToNat, ne_eq, not_false_eq_true, and_self, and_true, true_and, decide_true, decide_false, Int.reduceEq, Int.reduceLT, Int.reduceBEq, Int.reduceBNe, not_true_eq_false, undef, t0] <;> rfl) ?_
  refine ops_call 22 _ rfl b3 (by simp) ?_
  refine ops_run (by simp only [runL, List.drop_succ_cons, List.drop_zero, awant_some, Option.getD_some, List.getElem?_toArray, List.getElem?_cons_succ, List.getElem?_cons_zero, Option.bind_some, b_tt, b_tf, b_ft, b_ff, Bool.not_true, Bool.not_false, List.take_succ_cons, List.take_zero, awant_none, astep, evl, put, ap_none, ap_new, ap_wr, List.length_nil, List.length_cons, Nat.add_zero, Nat.zero_add, upd_app, stepBin, abin, stepUn, stepPick, stepExtract, stepCall, if_true, if_false, reduceCtorEq, ↓reduceIte, Nat.reduceEqDiff, Nat.reduceAdd, List.map_cons, List.map_nil, Option.map_some, Option.map_none, Bool.false_eq_true, Int.reduceLE, Int.reduceToNat, ne_eq, not_false_eq_true, and_self, and_true, true_and, decide_true, decide_false, Int.reduceEq, Int.reduceLT, Int.reduceBEq, Int.reduceBNe, not_true_eq_false, undef] <;> rfl) ?_
  refine w_gen (fun t => t 0 = v ∧ t 3 = va ∧ t 4 = .int .i64 (l.length / rootLen l : Nat) ∧ t 5 = vb ∧ t 6 = .int .i64 (l.length / rootLen l : Nat)) (by simp [upd_app, put, t0, t3, t4]) ?_
  clear t0 t3 t4
  rintro t ⟨t0, t3, t4, t5, t6⟩
  refine s_take 1 (by simp only [runL, List.drop_succ_cons, List.drop_zero, awant_some, Option.getD_some, List.getElem?_toArray, List.getElem?_cons_succ, List.getElem?_cons_zero, Option.bind_some, b_tt, b_tf, b_ft, b_ff, Bool.not_true, Bool.not_false, List.take_succ_cons, List.take_zero, awant_none, astep, evl, put, ap_none, ap_new, ap_wr, List.length_nil, List.length_cons, Nat.add_zero, Nat.zero_add, upd_app, stepBin, abin, stepUn, stepPick, stepExtract, stepCall, if_true, if_false, reduceCtorEq, ↓reduceIte, Nat.reduceEqDiff, Nat.reduceAdd, List.map_cons, List.map_nil, Option.map_some, Option.map_none, Bool.false_eq_true, Int.reduceLE, Int.reduceToNat, ne_eq, not_false_eq_true, and_self, and_true, true_and, decide_true, decide_false, Int.reduceEq, Int.reduceLT, Int.reduceBEq, Int.reduceBNe, not_true_eq_false, undef, t0] <;> rfl) ?_
  refine ops_call 24 _ rfl (borders_spec v l G1 N1 (by omega) hv3) (by intro _; rfl) (ops_heap fun G2 hG2 => ?_)
  have hnN : n ≤ N1 := by rw [hN1]; omega
  have g2n : G2 N1 = some ⟨false, 3, ints (borders l)⟩ := by rw [hG2]; simp [ap_new, upd_app]
  have e2 : ∀ k, k < N1 → G2 k = G1 k := fun k hk => by rw [hG2]; simp [ap_new, upd_app]; omega
  have hv4 : Src G2 v 1 l.length (bs l) := hv3.congr fun k hk => e2 k (by have := hdom k hk; omega)
  obtain ⟨w1, w2, w3, w4, w5, w6⟩ := ints_use (borders l) (srcBlk v) G2 (N1 + 1)
  refine ops_take 1 (by simp only [runL, List.drop_succ_cons, List.drop_zero, awant_some, Option.getD_some, List.getElem?_toArray, List.getElem?_cons_succ, List.getElem?_cons_zero, Option.bind_some, b_tt, b_tf, b_ft, b_ff, Bool.not_true, Bool.not_false, List.take_succ_cons, List.take_zero, awant_none, astep, evl, put, ap_none, ap_new, ap_wr, List.length_nil, List.length_cons, Nat.add_zero, Nat.zero_add, upd_app, stepBin, abin, stepUn, stepPick, stepExtract, stepCall, if_true, if_false, reduceCtorEq, ↓reduceIte, Nat.reduceEqDiff, Nat.reduceAdd, List.map_cons, List.map_nil, Option.map_some, Option.map_none, Bool.false_eq_true, Int.reduceLE, Int.reduceToNat, ne_eq, not_false_eq_true, and_self, and_true, true_and, decide_true, decide_false, Int.reduceEq, Int.reduceLT, Int.reduceBEq, Int.reduceBNe, not_true_eq_false, undef, t0] <;> rfl) ?_
  refine ops_call 25 _ rfl (rborders_spec v l G2 (N1 + 1) (by omega) hb hv4) (by intro h; exact w5 h) (ops_heap fun G3 hG3 => ops_num fun N3 hN3 => ?_)
  rw [← hG3] at w1 w2
  have hbl : (borders l).length = l.length := by simp [borders]
  have hsa : Src G3 (.slice (some ⟨N1, 0, some l.length⟩) l.length 1) 1 ((borders l).map fun (b : Nat) => (b : Int)).length (((borders l).map fun (b : Nat) => (b : Int)).map (Value.int .i64)) := by
    rw [← ints_ints, List.length_map, ← hbl]
    refine src_ints (k := N1) (ro := false) (e := 3) ?_
    rw [w2 N1 (by omega), g2n]
  have hsb : Src G3 (intsE (borders l) (srcBlk v) (N1 + 1)).v 1 ((borders l).map fun (b : Nat) => (b : Int)).length (((borders l).map fun (b : Nat) => (b : Int)).map (Value.int .i64)) := by
    rw [← ints_ints, List.length_map]; exact w1
  have hints := ints_spec _ _ _ _ G3 (by simp [hbl]; omega) (by simp [hbl]; omega) hsa hsb
  refine ops_call 23 _ rfl hints (by simp) ?_
  have e3 : ∀ k, k < N1 → G3 k = G1 k := fun k hk => by rw [w2 k (by omega), e2 k hk]
  have hv5 : Src G3 v 1 l.length (bs l) := hv3.congr fun k hk => e3 k (by have := hdom k hk; omega)
  have ha5 : Src G3 va 1 (l.take (rootLen l)).length (bs (l.take (rootLen l))) := u2.congr fun k hk => e3 k (by
    have := u4 k hk
    omega)
  have hb5 : Src G3 vb 1 (l.take (rootLen l)).length (bs (l.take (rootLen l))) := b1.congr fun k hk => e3 k (by have := hdom k (b2 k hk); omega)
  obtain ⟨r1, x1, _⟩ := src_str ha5
  obtain ⟨r2, x2, _⟩ := src_str hb5
  refine ops_take 2 (by simp only [runL, List.drop_succ_cons, List.drop_zero, awant_some, Option.getD_some, List.getElem?_toArray, List.getElem?_cons_succ, List.getElem?_cons_zero, Option.bind_some, b_tt, b_tf, b_ft, b_ff, Bool.not_true, Bool.not_false, List.take_succ_cons, List.take_zero, awant_none, astep, evl, put, ap_none, ap_new, ap_wr, List.length_nil, List.length_cons, Nat.add_zero, Nat.zero_add, upd_app, stepBin, abin, stepUn, stepPick, stepExtract, stepCall, if_true, if_false, reduceCtorEq, ↓reduceIte, Nat.reduceEqDiff, Nat.reduceAdd, List.map_cons, List.map_nil, Option.map_some, Option.map_none, Bool.false_eq_true, Int.reduceLE, Int.reduceToNat, ne_eq, not_false_eq_true, and_self, and_true, true_and, decide_true, decide_false, Int.reduceEq, Int.reduceLT, Int.reduceBEq, Int.reduceBNe, not_true_eq_false, undef, t0, decide_true] <;> rfl) ?_
  refine g_call 26 _ (by simp only [runL, List.drop_succ_cons, List.drop_zero, awant_some, Option.getD_some, List.getElem?_toArray, List.getElem?_cons_succ, List.getElem?_cons_zero, Option.bind_some, b_tt, b_tf, b_ft, b_ff, Bool.not_true, Bool.not_false, List.take_succ_cons, List.take_zero, awant_none, astep, evl, put, ap_none, ap_new, ap_wr, List.length_nil, List.length_cons, Nat.add_zero, Nat.zero_add, upd_app, stepBin, abin, stepUn, stepPick, stepExtract, stepCall, if_true, if_false, reduceCtorEq, ↓reduceIte, Nat.reduceEqDiff, Nat.reduceAdd, List.map_cons, List.map_nil, Option.map_some, Option.map_none, Bool.false_eq_true, Int.reduceLE, Int.reduceToNat, ne_eq, not_false_eq_true, and_self, and_true, true_and, decide_true, decide_false, Int.reduceEq, Int.reduceLT, Int.reduceBEq, Int.reduceBNe, not_true_eq_false, undef] <;> rfl) rfl (least_spec v l G3 (by omega) hv5) (by simp) ?_
  refine ops_take 1 (by simp only [runL, List.drop_succ_cons, List.drop_zero, awant_some, Option.getD_some, List.getElem?_toArray, List.getElem?_cons_succ, List.getElem?_cons_zero, Option.bind_some, b_tt, b_tf, b_ft, b_ff, Bool.not_true, Bool.not_false, List.take_succ_cons, List.take_zero, awant_none, astep, evl, put, ap_none, ap_new, ap_wr, List.length_nil, List.length_cons, Nat.add_zero, Nat.zero_add, upd_app, stepBin, abin, stepUn, stepPick, stepExtract, stepCall, if_true, if_false, reduceCtorEq, ↓reduceIte, Nat.reduceEqDiff, Nat.reduceAdd, List.map_cons, List.map_nil, Option.map_some, Option.map_none, Bool.false_eq_true, Int.reduceLE, Int.reduceToNat, ne_eq, not_false_eq_true, and_self, and_true, true_and, decide_true, decide_false, Int.reduceEq, Int.reduceLT, Int.reduceBEq, Int.reduceBNe, not_true_eq_false, undef, t0] <;> rfl) ?_
  refine g_call 27 _ (by simp only [runL, List.drop_succ_cons, List.drop_zero, awant_some, Option.getD_some, List.getElem?_toArray, List.getElem?_cons_succ, List.getElem?_cons_zero, Option.bind_some, b_tt, b_tf, b_ft, b_ff, Bool.not_true, Bool.not_false, List.take_succ_cons, List.take_zero, awant_none, astep, evl, put, ap_none, ap_new, ap_wr, List.length_nil, List.length_cons, Nat.add_zero, Nat.zero_add, upd_app, stepBin, abin, stepUn, stepPick, stepExtract, stepCall, if_true, if_false, reduceCtorEq, ↓reduceIte, Nat.reduceEqDiff, Nat.reduceAdd, List.map_cons, List.map_nil, Option.map_some, Option.map_none, Bool.false_eq_true, Int.reduceLE, Int.reduceToNat, ne_eq, not_false_eq_true, and_self, and_true, true_and, decide_true, decide_false, Int.reduceEq, Int.reduceLT, Int.reduceBEq, Int.reduceBNe, not_true_eq_false, undef] <;> rfl) rfl (rleast_spec v l G3 (by omega) hb hv5) (by simp) ?_
  refine ops_take 15 (by simp only [runL, List.drop_succ_cons, List.drop_zero, awant_some, Option.getD_some, List.getElem?_toArray, List.getElem?_cons_succ, List.getElem?_cons_zero, Option.bind_some, b_tt, b_tf, b_ft, b_ff, Bool.not_true, Bool.not_false, List.take_succ_cons, List.take_zero, awant_none, astep, evl, put, ap_none, ap_new, ap_wr, List.length_nil, List.length_cons, Nat.add_zero, Nat.zero_add, upd_app, stepBin, abin, stepUn, stepPick, stepExtract, stepCall, if_true, if_false, reduceCtorEq, ↓reduceIte, Nat.reduceEqDiff, Nat.reduceAdd, List.map_cons, List.map_nil, Option.map_some, Option.map_none, Bool.false_eq_true, Int.reduceLE, Int.reduceToNat, ne_eq, not_false_eq_true, and_self, and_true, true_and, decide_true, decide_false, Int.reduceEq, Int.reduceLT, Int.reduceBEq, Int.reduceBNe, not_true_eq_false, undef, t0, t3, t4, t5, t6, x1, x2, beq_self_eq_true] <;> rfl) ?_
  refine g_call 28 _ (by simp only [runL, List.drop_succ_cons, List.drop_zero, awant_some, Option.getD_some, List.getElem?_toArray, List.getElem?_cons_succ, List.getElem?_cons_zero, Option.bind_some, b_tt, b_tf, b_ft, b_ff, Bool.not_true, Bool.not_false, List.take_succ_cons, List.take_zero, awant_none, astep, evl, put, ap_none, ap_new, ap_wr, List.length_nil, List.length_cons, Nat.add_zero, Nat.zero_add, upd_app, stepBin, abin, stepUn, stepPick, stepExtract, stepCall, if_true, if_false, reduceCtorEq, ↓reduceIte, Nat.reduceEqDiff, Nat.reduceAdd, List.map_cons, List.map_nil, Option.map_some, Option.map_none, Bool.false_eq_true, Int.reduceLE, Int.reduceToNat, ne_eq, not_false_eq_true, and_self, and_true, true_and, decide_true, decide_false, Int.reduceEq, Int.reduceLT, Int.reduceBEq, Int.reduceBNe, not_true_eq_false, undef] <;> rfl) rfl (pknown_spec _) (by simp) ?_
  refine ops_run (by simp only [runL, List.drop_succ_cons, List.drop_zero, awant_some, Option.getD_some, List.getElem?_toArray, List.getElem?_cons_succ, List.getElem?_cons_zero, Option.bind_some, b_tt, b_tf, b_ft, b_ff, Bool.not_true, Bool.not_false, List.take_succ_cons, List.take_zero, awant_none, astep, evl, put, ap_none, ap_new, ap_wr, List.length_nil, List.length_cons, Nat.add_zero, Nat.zero_add, upd_app, stepBin, abin, stepUn, stepPick, stepExtract, stepCall, if_true, if_false, reduceCtorEq, ↓reduceIte, Nat.reduceEqDiff, Nat.reduceAdd, List.map_cons, List.map_nil, Option.map_some, Option.map_none, Bool.false_eq_true, Int.reduceLE, Int.reduceToNat, ne_eq, not_false_eq_true, and_self, and_true, true_and, decide_true, decide_false, Int.reduceEq, Int.reduceLT, Int.reduceBEq, Int.reduceBNe, not_true_eq_false, undef] <;> rfl) ?_
  refine w_ret ⟨.inr rfl, by simp, [], fin_none ?_ trivial ?_⟩
  · simp [resVal, upd_app]
  · intro i b hb
    have := hs i (hwf i b hb).1
    show G3 i = some b
    rw [e3 i (by omega), e1 i this, hb]
end Go.Proofs.Ytokmmcfnpobldaa
