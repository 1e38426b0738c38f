import Derived.Test.YtahinegnblankaaP4
namespace Go.Proofs.Ytahinegnblankaa
open Go Abs
set_option linter.unusedSimpArgs false
set_option linter.unusedVariables false

theorem tell_known : tell [0, 0, 0, 5] 0 = [0, 0, 6] := by
  simp [tell]
  rw [told_pos (by omega), show (3 - 1) / 2 = 1 from rfl, told_pos (by omega), show (1 - 1) / 2 = 0 from rfl, told_zero]
  rfl

theorem ints_cast (l : List Nat) : ints l = (l.map fun (b : Nat) => (b : Int)).map (Value.int .i64) := by simp

theorem src_intsI {g : Heap} {v : Value} {l : List Nat} (h : Src g v 1 (ints l).length (ints l)) : Src g v 1 (l.map fun (b : Nat) => (b : Int)).length ((l.map fun (b : Nat) => (b : Int)).map (Value.int .i64)) := by
  rw [← ints_cast]; simpa using h

set_option maxRecDepth 10000 in
theorem rknown_spec (g : Heap) : FnSpec Try.prog 25 [] g { v := .bool true } := by
  refine spec_of_body [0] follows Try.func25 rfl (by kernel_rfl) (by simp [Try.f25]) (by kernel_rfl) rfl ?_
  intro g2 s2 n hg hfr hs hn hwf hsv
  refine s_run (by simp only [runL, List.drop_succ_cons, List.drop_zero, awant_some, Option.getD_some, List.getElem?_toArray, List.getElem?_cons_succ, List.getElem?_cons_zero, Option.bind_some, b_tt, b_tf, b_ft, b_ff, Bool.not_true, Bool.not_false, List.take_succ_cons, List.take_zero, awant_none, astep, evl, put, ap_none, ap_new, ap_wr, List.length_nil, List.length_cons, Nat.add_zero, Nat.zero_add, upd_app, stepBin, abin, stepUn, stepPick, stepExtract, stepCall, if_true, if_false, reduceCtorEq, ↓reduceIte, Nat.reduceEqDiff, Nat.reduceAdd, List.map_cons, List.map_nil, Option.map_some, Option.map_none, Bool.false_eq_true, Int.reduceLE, Int.reduceToNat, ne_eq, not_false_eq_true, and_self, and_true, true_and, decide_true, decide_false, Int.reduceEq, Int.reduceLT, Int.reduceBEq, Int.reduceBNe, not_true_eq_false, undef] <;> rfl) ?_
  refine s_take 1 (by simp only [runL, List.drop_succ_cons, List.drop_zero, awant_some, Option.getD_some, List.getElem?_toArray, List.getElem?_cons_succ, List.getElem?_cons_zero, Option.bind_some, b_tt, b_tf, b_ft, b_ff, Bool.not_true, Bool.not_false, List.take_succ_cons, List.take_zero, awant_none, astep, evl, put, ap_none, ap_new, ap_wr, List.length_nil, List.length_cons, Nat.add_zero, Nat.zero_add, upd_app, stepBin, abin, stepUn, stepPick, stepExtract, stepCall, if_true, if_false, reduceCtorEq, ↓reduceIte, Nat.reduceEqDiff, Nat.reduceAdd, List.map_cons, List.map_nil, Option.map_some, Option.map_none, Bool.false_eq_true, Int.reduceLE, Int.reduceToNat, ne_eq, not_false_eq_true, and_self, and_true, true_and, decide_true, decide_false, Int.reduceEq, Int.reduceLT, Int.reduceBEq, Int.reduceBNe, not_true_eq_false, undef, lit24_4] <;> rfl) (ops_heap fun G1 hG1 => ?_)
  have b1 : G1 n = some ⟨false, 5, bs [0, 0, 0, 5]⟩ := by rw [hG1]; simp [upd_app]
  have k1 : Kp n g2 G1 := by rw [hG1]; exact kp_upd (Kp.refl _ _) (Nat.le_refl _)
  have ht := tell_spec _ [0, 0, 0, 5] G1 (n + 1) (by decide) (by decide) (src_bs b1 (m := 4) rfl)
  rw [tell_known, newE_own (by decide)] at ht
  refine ops_call 24 _ rfl ht (by intro _; rfl) (ops_heap fun G2 hG2 => ?_)
  have b2 : G2 (n + 1) = some ⟨false, 3, ints [0, 0, 6]⟩ := by rw [hG2]; simp [ap_new, upd_app]
  have k2 : Kp (n + 1) G1 G2 := by rw [hG2]; exact kp_ap (Kp.refl _ _) rfl (fun _ => Nat.le_refl _)
  refine ops_take 1 (by simp only [runL, List.drop_succ_cons, List.drop_zero, awant_some, Option.getD_some, List.getElem?_toArray, List.getElem?_cons_succ, List.getElem?_cons_zero, Option.bind_some, b_tt, b_tf, b_ft, b_ff, Bool.not_true, Bool.not_false, List.take_succ_cons, List.take_zero, awant_none, astep, evl, put, ap_none, ap_new, ap_wr, List.length_nil, List.length_cons, Nat.add_zero, Nat.zero_add, upd_app, stepBin, abin, stepUn, stepPick, stepExtract, stepCall, if_true, if_false, reduceCtorEq, ↓reduceIte, Nat.reduceEqDiff, Nat.reduceAdd, List.map_cons, List.map_nil, Option.map_some, Option.map_none, Bool.false_eq_true, Int.reduceLE, Int.reduceToNat, ne_eq, not_false_eq_true, and_self, and_true, true_and, decide_true, decide_false, Int.reduceEq, Int.reduceLT, Int.reduceBEq, Int.reduceBNe, not_true_eq_false, undef, lit22_3] <;> rfl) (ops_heap fun G3 hG3 => ?_)
  have b3 : G3 (n + 2) = some ⟨false, 3, ints [0, 0, 6]⟩ := by rw [hG3]; simp [upd_app]
  have k3 : Kp (n + 2) G2 G3 := by rw [hG3]; exact kp_upd (Kp.refl _ _) (Nat.le_refl _)
  have hi := ints_spec _ _ [0, 0, 6] [0, 0, 6] G3 (by decide) (by decide) (src_cells (k3.at (by omega) b2) (m := 3) rfl) (src_cells b3 (m := 3) rfl)
  refine ops_call 38 _ rfl hi (by simp) ?_
  refine ops_run (by simp only [runL, List.drop_succ_cons, List.drop_zero, awant_some, Option.getD_some, List.getElem?_toArray, List.getElem?_cons_succ, List.getElem?_cons_zero, Option.bind_some, b_tt, b_tf, b_ft, b_ff, Bool.not_true, Bool.not_false, List.take_succ_cons, List.take_zero, awant_none, astep, evl, put, ap_none, ap_new, ap_wr, List.length_nil, List.length_cons, Nat.add_zero, Nat.zero_add, upd_app, stepBin, abin, stepUn, stepPick, stepExtract, stepCall, if_true, if_false, reduceCtorEq, ↓reduceIte, Nat.reduceEqDiff, Nat.reduceAdd, List.map_cons, List.map_nil, Option.map_some, Option.map_none, Bool.false_eq_true, Int.reduceLE, Int.reduceToNat, ne_eq, not_false_eq_true, and_self, and_true, true_and, decide_true, decide_false, Int.reduceEq, Int.reduceLT, Int.reduceBEq, Int.reduceBNe, not_true_eq_false, undef] <;> rfl) ?_
  refine w_ret ⟨.inr rfl, by simp, [], fin_plain hs hwf (k1.trans (k2.trans k3 (by omega)) (by omega)) ?_ trivial⟩
  simp [resVal, upd_app]

theorem told_log (n : Nat) : 2 ^ (told n).length ≤ n + 1 ∧ n + 1 < 2 ^ ((told n).length + 1) := by
  induction n using Nat.strongRecOn with
  | _ n ih =>
    by_cases h : n = 0
    · subst h; simp [told_zero]
    · have := ih ((n - 1) / 2) (by omega)
      rw [told_pos h, List.length_cons, Nat.pow_succ 2 ((told ((n - 1) / 2)).length + 1), Nat.pow_succ] at *
      omega

theorem told_log_eq {n k : Nat} (h1 : 2 ^ k ≤ n + 1) (h2 : n + 1 < 2 ^ (k + 1)) : (told n).length = k := by
  obtain ⟨h3, h4⟩ := told_log n
  have key : ∀ a b : Nat, 2 ^ a ≤ n + 1 → n + 1 < 2 ^ (b + 1) → a ≤ b := fun a b ha hb => by
    rcases Nat.lt_or_ge b a with h | h
    · have := Nat.pow_le_pow_right (n := 2) (by omega) h
      simp only [Nat.succ_eq_add_one] at this
      omega
    · exact h
  exact Nat.le_antisymm (key _ _ h3 h2) (key _ _ h1 h4)

theorem tell_zeros (b : List Nat) (m : Nat) : ∀ z, tell (List.replicate m 0 ++ b) z = tell b (z + m) := by
  induction m with
  | zero => intro z; rfl
  | succ m ih => intro z; rw [List.replicate_succ, List.cons_append, tell, if_pos rfl, ih (z + 1)]; congr 1; omega

set_option maxRecDepth 10000 in
theorem lawRLong_spec (a : Int) (c : Nat) (hc : c < 256) (g : Heap) : FnSpec Try.prog 3 [.int .i64 a, .int .u8 c] g { v := .bool true } := by
  refine spec_of_body [4] follows Try.func3 rfl (by kernel_rfl) (by simp [Try.f3]) (by kernel_rfl) rfl ?_
  intro g2 s2 n hg hfr hs hn hwf hsv
  refine s_run (by simp only [runL, List.drop_succ_cons, List.drop_zero, awant_some, Option.getD_some, List.getElem?_toArray, List.getElem?_cons_succ, List.getElem?_cons_zero, Option.bind_some, b_tt, b_tf, b_ft, b_ff, Bool.not_true, Bool.not_false, List.take_succ_cons, List.take_zero, awant_none, astep, evl, put, ap_none, ap_new, ap_wr, List.length_nil, List.length_cons, Nat.add_zero, Nat.zero_add, upd_app, stepBin, abin, stepUn, stepPick, stepExtract, stepCall, if_true, if_false, reduceCtorEq, ↓reduceIte, Nat.reduceEqDiff, Nat.reduceAdd, List.map_cons, List.map_nil, Option.map_some, Option.map_none, Bool.false_eq_true, Int.reduceLE, Int.reduceToNat, ne_eq, not_false_eq_true, and_self, and_true, true_and, decide_true, decide_false, Int.reduceEq, Int.reduceLT, Int.reduceBEq, Int.reduceBNe, not_true_eq_false, undef] <;> rfl) ?_
  by_cases ea1 : a < 0
  · have ed1 : (decide (a < 0)) = true := decide_eq_true ea1
    refine w_assoc (s_run (by simp only [runL, List.drop_succ_cons, List.drop_zero, awant_some, Option.getD_some, List.getElem?_toArray, List.getElem?_cons_succ, List.getElem?_cons_zero, Option.bind_some, b_tt, b_tf, b_ft, b_ff, Bool.not_true, Bool.not_false, List.take_succ_cons, List.take_zero, awant_none, astep, evl, put, ap_none, ap_new, ap_wr, List.length_nil, List.length_cons, Nat.add_zero, Nat.zero_add, upd_app, stepBin, abin, stepUn, stepPick, stepExtract, stepCall, if_true, if_false, reduceCtorEq, ↓reduceIte, Nat.reduceEqDiff, Nat.reduceAdd, List.map_cons, List.map_nil, Option.map_some, Option.map_none, Bool.false_eq_true, Int.reduceLE, Int.reduceToNat, ne_eq, not_false_eq_true, and_self, and_true, true_and, decide_true, decide_false, Int.reduceEq, Int.reduceLT, Int.reduceBEq, Int.reduceBNe, not_true_eq_false, undef, ed1] <;> rfl) ?_)
    refine s_true (by simp [evl, upd_app]) (w_assoc (s_run (by simp only [runL, List.drop_succ_cons, List.drop_zero, awant_some, Option.getD_some, List.getElem?_toArray, List.getElem?_cons_succ, List.getElem?_cons_zero, Option.bind_some, b_tt, b_tf, b_ft, b_ff, Bool.not_true, Bool.not_false, List.take_succ_cons, List.take_zero, awant_none, astep, evl, put, ap_none, ap_new, ap_wr, List.length_nil, List.length_cons, Nat.add_zero, Nat.zero_add, upd_app, stepBin, abin, stepUn, stepPick, stepExtract, stepCall, if_true, if_false, reduceCtorEq, ↓reduceIte, Nat.reduceEqDiff, Nat.reduceAdd, List.map_cons, List.map_nil, Option.map_some, Option.map_none, Bool.false_eq_true, Int.reduceLE, Int.reduceToNat, ne_eq, not_false_eq_true, and_self, and_true, true_and, decide_true, decide_false, Int.reduceEq, Int.reduceLT, Int.reduceBEq, Int.reduceBNe, not_true_eq_false, undef] <;> rfl) ?_))
    refine s_ret ⟨.inr rfl, by simp, [], fin_none ?_ trivial (fun _ _ h => h)⟩
    simp [resVal, upd_app]
  have ed1 : (decide (a < 0)) = false := decide_eq_false ea1
  by_cases ea2 : a > 3000
  · have ed2 : (decide (a > 3000)) = true := decide_eq_true ea2
    refine w_assoc (s_run (by simp only [runL, List.drop_succ_cons, List.drop_zero, awant_some, Option.getD_some, List.getElem?_toArray, List.getElem?_cons_succ, List.getElem?_cons_zero, Option.bind_some, b_tt, b_tf, b_ft, b_ff, Bool.not_true, Bool.not_false, List.take_succ_cons, List.take_zero, awant_none, astep, evl, put, ap_none, ap_new, ap_wr, List.length_nil, List.length_cons, Nat.add_zero, Nat.zero_add, upd_app, stepBin, abin, stepUn, stepPick, stepExtract, stepCall, if_true, if_false, reduceCtorEq, ↓reduceIte, Nat.reduceEqDiff, Nat.reduceAdd, List.map_cons, List.map_nil, Option.map_some, Option.map_none, Bool.false_eq_true, Int.reduceLE, Int.reduceToNat, ne_eq, not_false_eq_true, and_self, and_true, true_and, decide_true, decide_false, Int.reduceEq, Int.reduceLT, Int.reduceBEq, Int.reduceBNe, not_true_eq_false, undef, ed1, ed2] <;> rfl) ?_)
    refine s_true (by simp [evl, upd_app]) (w_assoc (s_run (by simp only [runL, List.drop_succ_cons, List.drop_zero, awant_some, Option.getD_some, List.getElem?_toArray, List.getElem?_cons_succ, List.getElem?_cons_zero, Option.bind_some, b_tt, b_tf, b_ft, b_ff, Bool.not_true, Bool.not_false, List.take_succ_cons, List.take_zero, awant_none, astep, evl, put, ap_none, ap_new, ap_wr, List.length_nil, List.length_cons, Nat.add_zero, Nat.zero_add, upd_app, stepBin, abin, stepUn, stepPick, stepExtract, stepCall, if_true, if_false, reduceCtorEq, ↓reduceIte, Nat.reduceEqDiff, Nat.reduceAdd, List.map_cons, List.map_nil, Option.map_some, Option.map_none, Bool.false_eq_true, Int.reduceLE, Int.reduceToNat, ne_eq, not_false_eq_true, and_self, and_true, true_and, decide_true, decide_false, Int.reduceEq, Int.reduceLT, Int.reduceBEq, Int.reduceBNe, not_true_eq_false, undef] <;> rfl) ?_))
    refine s_ret ⟨.inr rfl, by simp, [], fin_none ?_ trivial (fun _ _ h => h)⟩
    simp [resVal, upd_app]
  have ed2 : (decide (a > 3000)) = false := decide_eq_false ea2
  by_cases ea3 : (c : Int) = 0
  · have ed3 : ((c : Int) == 0) = true := ieq_t ea3
    refine w_assoc (s_run (by simp only [runL, List.drop_succ_cons, List.drop_zero, awant_some, Option.getD_some, List.getElem?_toArray, List.getElem?_cons_succ, List.getElem?_cons_zero, Option.bind_some, b_tt, b_tf, b_ft, b_ff, Bool.not_true, Bool.not_false, List.take_succ_cons, List.take_zero, awant_none, astep, evl, put, ap_none, ap_new, ap_wr, List.length_nil, List.length_cons, Nat.add_zero, Nat.zero_add, upd_app, stepBin, abin, stepUn, stepPick, stepExtract, stepCall, if_true, if_false, reduceCtorEq, ↓reduceIte, Nat.reduceEqDiff, Nat.reduceAdd, List.map_cons, List.map_nil, Option.map_some, Option.map_none, Bool.false_eq_true, Int.reduceLE, Int.reduceToNat, ne_eq, not_false_eq_true, and_self, and_true, true_and, decide_true, decide_false, Int.reduceEq, Int.reduceLT, Int.reduceBEq, Int.reduceBNe, not_true_eq_false, undef, ed1, ed2, ed3] <;> rfl) ?_)
    refine s_true (by simp [evl, upd_app]) (w_assoc (s_run (by simp only [runL, List.drop_succ_cons, List.drop_zero, awant_some, Option.getD_some, List.getElem?_toArray, List.getElem?_cons_succ, List.getElem?_cons_zero, Option.bind_some, b_tt, b_tf, b_ft, b_ff, Bool.not_true, Bool.not_false, List.take_succ_cons, List.take_zero, awant_none, astep, evl, put, ap_none, ap_new, ap_wr, List.length_nil, List.length_cons, Nat.add_zero, Nat.zero_add, upd_app, stepBin, abin, stepUn, stepPick, stepExtract, stepCall, if_true, if_false, reduceCtorEq, ↓reduceIte, Nat.reduceEqDiff, Nat.reduceAdd, List.map_cons, List.map_nil, Option.map_some, Option.map_none, Bool.false_eq_true, Int.reduceLE, Int.reduceToNat, ne_eq, not_false_eq_true, and_self, and_true, true_and, decide_true, decide_false, Int.reduceEq, Int.reduceLT, Int.reduceBEq, Int.reduceBNe, not_true_eq_false, undef] <;> rfl) ?_))
    refine s_ret ⟨.inr rfl, by simp, [], fin_none ?_ trivial (fun _ _ h => h)⟩
    simp [resVal, upd_app]
  have ed3 : ((c : Int) == 0) = false := ieq_f ea3
  refine w_assoc (s_run (by simp only [runL, List.drop_succ_cons, List.drop_zero, awant_some, Option.getD_some, List.getElem?_toArray, List.getElem?_cons_succ, List.getElem?_cons_zero, Option.bind_some, b_tt, b_tf, b_ft, b_ff, Bool.not_true, Bool.not_false, List.take_succ_cons, List.take_zero, awant_none, astep, evl, put, ap_none, ap_new, ap_wr, List.length_nil, List.length_cons, Nat.add_zero, Nat.zero_add, upd_app, stepBin, abin, stepUn, stepPick, stepExtract, stepCall, if_true, if_false, reduceCtorEq, ↓reduceIte, Nat.reduceEqDiff, Nat.reduceAdd, List.map_cons, List.map_nil, Option.map_some, Option.map_none, Bool.false_eq_true, Int.reduceLE, Int.reduceToNat, ne_eq, not_false_eq_true, and_self, and_true, true_and, decide_true, decide_false, Int.reduceEq, Int.reduceLT, Int.reduceBEq, Int.reduceBNe, not_true_eq_false, undef, ed1, ed2, ed3] <;> rfl) ?_)
  refine s_false (by simp [evl, upd_app]) (s_skip ?_)
  obtain ⟨m, rfl⟩ : ∃ m : Nat, a = m := ⟨a.toNat, by omega⟩
  have hO : OwnI 5 1 (upd (upd g2 n (some ⟨false, 5, bs (List.replicate m 0)⟩)) (n + 1) (some ⟨false, 5, [.int .u8 c]⟩)) (.slice (some ⟨n, 0, some m⟩) m 1) m (bs (List.replicate m 0)) (some n) :=
    .inr ⟨n, rfl, by simp, by simp [upd_app], by simp⟩
  have hs1 : Src (upd (upd g2 n (some ⟨false, 5, bs (List.replicate m 0)⟩)) (n + 1) (some ⟨false, 5, [.int .u8 c]⟩)) (.slice (some ⟨n + 1, 0, some 1⟩) 1 1) 1 1 [.int .u8 c] := src_cells (ro := false) (e := 5) (by simp) rfl
  obtain ⟨f, id, hf, hO', hid, hk⟩ := own_append (P := Try.prog) (n := n + 2) (T := 24) hO hs1.cells (by simp) Try.underlying24 tinf5 (by omega) (by omega) (by omega)
  have hida : id = some n ∧ f.a = [] := by
    rcases hid with h | ⟨h, _⟩
    · exact h
    · cases h
  obtain ⟨rfl, hfa⟩ := hida
  refine s_take 5 (by simp only [runL, List.drop_succ_cons, List.drop_zero, awant_some, Option.getD_some, List.getElem?_toArray, List.getElem?_cons_succ, List.getElem?_cons_zero, Option.bind_some, b_tt, b_tf, b_ft, b_ff, Bool.not_true, Bool.not_false, List.take_succ_cons, List.take_zero, awant_none, astep, evl, put, ap_none, ap_new, ap_wr, List.length_nil, List.length_cons, Nat.add_zero, Nat.zero_add, upd_app, stepBin, abin, stepUn, stepPick, stepExtract, stepCall, if_true, if_false, reduceCtorEq, ↓reduceIte, Nat.reduceEqDiff, Nat.reduceAdd, List.map_cons, List.map_nil, Option.map_some, Option.map_none, Bool.false_eq_true, Int.reduceLE, Int.reduceToNat, ne_eq, not_false_eq_true, and_self, and_true, true_and, decide_true, decide_false, Int.reduceEq, Int.reduceLT, Int.reduceBEq, Int.reduceBNe, not_true_eq_false, undef, mkBytes m n (by omega), lit24_1, hf] <;> rfl) (ops_heap fun G1 hG1 => ?_)
  rw [← hG1] at hO'
  have k1 : Kp n g2 G1 := fun i hi => by rw [hG1, hk i (by omega) (by simp; omega), upd_ne _ _ (by omega), upd_ne _ _ (by omega)]
  rcases hO' with ⟨h, _⟩ | ⟨q, hq, hfv, hb1, _⟩
  · cases h
  cases hq
  simp only [hfa, List.length_nil, Nat.add_zero]
  have hcell : bs (List.replicate m 0) ++ [Value.int .u8 c] = bs (List.replicate m 0 ++ [c]) := by simp
  rw [hcell] at hfv hb1
  have hlb : (bs (List.replicate m 0 ++ [c])).length = m + 1 := by simp
  rw [hlb] at hfv
  have hc0 : c ≠ 0 := by omega
  have ht := tell_spec (.slice (some ⟨n, 0, some (m + 1)⟩) (m + 1) 1) (List.replicate m 0 ++ [c]) G1 (n + 1 + 1) (by simp; omega) (by
    intro x hx
    simp at hx
    omega) (src_bs hb1 (by simp))
  have hte : tell (List.replicate m 0 ++ [c]) 0 = told m ++ [c + 1] := by rw [tell_zeros, tell, if_neg hc0]; simp [tell, told_zero]
  have hll : (ints (told m ++ [c + 1])).length = (told m).length + 1 := by simp
  rw [hte, newE_own (by simp), hll] at ht
  rw [hfv]
  refine ops_call 24 _ rfl ht (by intro _; rfl) (ops_heap fun G2 hG2 => ?_)
  have k2 : Kp (n + 2) G1 G2 := by rw [hG2]; exact kp_ap (Kp.refl _ _) rfl (fun _ => Nat.le_refl _)
  have hT := told_len m
  have hL : stepLen Try.prog 22 (.slice (some ⟨n + 1 + 1, 0, some ((told m).length + 1)⟩) ((told m).length + 1) 1) = some { v := .int .i64 (((told m).length + 1 : Nat) : Int) } := by simp [stepLen, Try.underlying22]
  refine ops_run (by simp only [runL, List.drop_succ_cons, List.drop_zero, awant_some, Option.getD_some, List.getElem?_toArray, List.getElem?_cons_succ, List.getElem?_cons_zero, Option.bind_some, b_tt, b_tf, b_ft, b_ff, Bool.not_true, Bool.not_false, List.take_succ_cons, List.take_zero, awant_none, astep, evl, put, ap_none, ap_new, ap_wr, List.length_nil, List.length_cons, Nat.add_zero, Nat.zero_add, upd_app, stepBin, abin, stepUn, stepPick, stepExtract, stepCall, if_true, if_false, reduceCtorEq, ↓reduceIte, Nat.reduceEqDiff, Nat.reduceAdd, List.map_cons, List.map_nil, Option.map_some, Option.map_none, Bool.false_eq_true, Int.reduceLE, Int.reduceToNat, ne_eq, not_false_eq_true, and_self, and_true, true_and, decide_true, decide_false, Int.reduceEq, Int.reduceLT, Int.reduceBEq, Int.reduceBNe, not_true_eq_false, undef] <;> rfl) ?_
  refine w_gen (fun t => t 0 = .int .i64 m ∧ t 5 = .slice (some ⟨n + 1 + 1, 0, some ((told m).length + 1)⟩) ((told m).length + 1) 1) (by simp [upd_app, put]) ?_
  rintro t ⟨t0, t5⟩
  refine s_run (by simp only [runL, List.drop_succ_cons, List.drop_zero, awant_some, Option.getD_some, List.getElem?_toArray, List.getElem?_cons_succ, List.getElem?_cons_zero, Option.bind_some, b_tt, b_tf, b_ft, b_ff, Bool.not_true, Bool.not_false, List.take_succ_cons, List.take_zero, awant_none, astep, evl, put, ap_none, ap_new, ap_wr, List.length_nil, List.length_cons, Nat.add_zero, Nat.zero_add, upd_app, stepBin, abin, stepUn, stepPick, stepExtract, stepCall, if_true, if_false, reduceCtorEq, ↓reduceIte, Nat.reduceEqDiff, Nat.reduceAdd, List.map_cons, List.map_nil, Option.map_some, Option.map_none, Bool.false_eq_true, Int.reduceLE, Int.reduceToNat, ne_eq, not_false_eq_true, and_self, and_true, true_and, decide_true, decide_false, Int.reduceEq, Int.reduceLT, Int.reduceBEq, Int.reduceBNe, not_true_eq_false, undef] <;> rfl) ?_
  refine s_block (fun t g _ => t 5 = .slice (some ⟨n + 1 + 1, 0, some ((told m).length + 1)⟩) ((told m).length + 1) 1 ∧ t 6 = .int .i64 (told m).length ∧ g = G2) ?_ ?_
  · refine w_loop (fun t g _ => ∃ k : Nat, 2 ^ k ≤ m + 1 ∧ k ≤ 12 ∧ t 0 = .int .i64 m ∧ t 5 = .slice (some ⟨n + 1 + 1, 0, some ((told m).length + 1)⟩) ((told m).length + 1) 1 ∧ t 6 = .int .i64 k ∧ g = G2) (fun t _ _ => match t 6 with | .int _ k => 13 - k.toNat | _ => 0)
      ⟨0, by simp, by omega, by simp [upd_app, t0], by simp [upd_app, t5], by simp [upd_app], rfl⟩ ?_
    clear t0 t5
    rintro t g n' ⟨k, hk1, hk2, t0, t5, t6, rfl⟩
    have hp : 2 ^ (k + 1) ≤ 2 ^ 13 := Nat.pow_le_pow_right (by omega) (by omega)
    have w1 : IntKind.i64.wrap ((k : Int) + 1) = ((k + 1 : Nat) : Int) := wrap_succ (by omega)
    have w2 : IntKind.u64.wrap ((k + 1 : Nat) : Int) = ((k + 1 : Nat) : Int) := wrapU64_of (by omega) (by omega)
    have w3 : IntKind.i64.wrap (1 * 2 ^ (min (((k + 1 : Nat) : Int)).toNat IntKind.i64.bits)) = ((2 ^ (k + 1) : Nat) : Int) := by
      have : min (((k + 1 : Nat) : Int)).toNat IntKind.i64.bits = k + 1 := by rw [Int.toNat_natCast]; exact Nat.min_eq_left (by show k + 1 ≤ 64; omega)
      have e : (2 : Int) ^ (k + 1) = ((2 ^ (k + 1) : Nat) : Int) := by simp
      rw [this, Int.one_mul, e, wrap_nat (by omega)]
    have hp1 : 1 ≤ 2 ^ (k + 1) := Nat.pow_pos (by omega)
    have w4 : IntKind.i64.wrap (((2 ^ (k + 1) : Nat) : Int) - 1) = ((2 ^ (k + 1) - 1 : Nat) : Int) := wrap_sub1 hp1 (by omega)
    by_cases hle : 2 ^ (k + 1) ≤ m + 1
    · have d : decide (((2 ^ (k + 1) - 1 : Nat) : Int) ≤ (m : Int)) = true := decide_eq_true (by omega)
      have hk3 : k < 12 := by
        rcases Nat.lt_or_ge k 12 with h | h
        · exact h
        · have : k = 12 := by omega
          subst this
          omega
      refine w_assoc (s_run (by simp only [runL, List.drop_succ_cons, List.drop_zero, awant_some, Option.getD_some, List.getElem?_toArray, List.getElem?_cons_succ, List.getElem?_cons_zero, Option.bind_some, b_tt, b_tf, b_ft, b_ff, Bool.not_true, Bool.not_false, List.take_succ_cons, List.take_zero, awant_none, astep, evl, put, ap_none, ap_new, ap_wr, List.length_nil, List.length_cons, Nat.add_zero, Nat.zero_add, upd_app, stepBin, abin, stepUn, stepPick, stepExtract, stepCall, if_true, if_false, reduceCtorEq, ↓reduceIte, Nat.reduceEqDiff, Nat.reduceAdd, List.map_cons, List.map_nil, Option.map_some, Option.map_none, Bool.false_eq_true, Int.reduceLE, Int.reduceToNat, ne_eq, not_false_eq_true, and_self, and_true, true_and, decide_true, decide_false, Int.reduceEq, Int.reduceLT, Int.reduceBEq, Int.reduceBNe, not_true_eq_false, undef, t0, t6, w1, conv3_25, w2, w3, w4, d, show (0 : Int) ≤ ((k + 1 : Nat) : Int) from Int.natCast_nonneg _] <;> rfl) ?_)
      refine s_true (by simp [evl, upd_app]) (s_skip (w_block ?_))
      refine region_run (id := 6) (by simp only [runL, List.drop_succ_cons, List.drop_zero, awant_some, Option.getD_some, List.getElem?_toArray, List.getElem?_cons_succ, List.getElem?_cons_zero, Option.bind_some, b_tt, b_tf, b_ft, b_ff, Bool.not_true, Bool.not_false, List.take_succ_cons, List.take_zero, awant_none, astep, evl, put, ap_none, ap_new, ap_wr, List.length_nil, List.length_cons, Nat.add_zero, Nat.zero_add, upd_app, stepBin, abin, stepUn, stepPick, stepExtract, stepCall, if_true, if_false, reduceCtorEq, ↓reduceIte, Nat.reduceEqDiff, Nat.reduceAdd, List.map_cons, List.map_nil, Option.map_some, Option.map_none, Bool.false_eq_true, Int.reduceLE, Int.reduceToNat, ne_eq, not_false_eq_true, and_self, and_true, true_and, decide_true, decide_false, Int.reduceEq, Int.reduceLT, Int.reduceBEq, Int.reduceBNe, not_true_eq_false, undef, t6, w1] <;> rfl) ?_
      refine ⟨⟨k + 1, hle, by omega, by simp [upd_app, t0], by simp [upd_app, t5], by simp [upd_app], rfl⟩, ?_⟩
      rw [t6]
      simp only [upd_app, if_true, Int.toNat_natCast]
      omega
    · have d : decide (((2 ^ (k + 1) - 1 : Nat) : Int) ≤ (m : Int)) = false := decide_eq_false (by omega)
      refine w_assoc (s_run (by simp only [runL, List.drop_succ_cons, List.drop_zero, awant_some, Option.getD_some, List.getElem?_toArray, List.getElem?_cons_succ, List.getElem?_cons_zero, Option.bind_some, b_tt, b_tf, b_ft, b_ff, Bool.not_true, Bool.not_false, List.take_succ_cons, List.take_zero, awant_none, astep, evl, put, ap_none, ap_new, ap_wr, List.length_nil, List.length_cons, Nat.add_zero, Nat.zero_add, upd_app, stepBin, abin, stepUn, stepPick, stepExtract, stepCall, if_true, if_false, reduceCtorEq, ↓reduceIte, Nat.reduceEqDiff, Nat.reduceAdd, List.map_cons, List.map_nil, Option.map_some, Option.map_none, Bool.false_eq_true, Int.reduceLE, Int.reduceToNat, ne_eq, not_false_eq_true, and_self, and_true, true_and, decide_true, decide_false, Int.reduceEq, Int.reduceLT, Int.reduceBEq, Int.reduceBNe, not_true_eq_false, undef, t0, t6, w1, conv3_25, w2, w3, w4, d, show (0 : Int) ≤ ((k + 1 : Nat) : Int) from Int.natCast_nonneg _] <;> rfl) ?_)
      refine s_false (by simp [evl, upd_app]) (s_exit ?_)
      exact ⟨by simp [upd_app, t5], by simp [upd_app, t6, told_log_eq hk1 (by omega)], rfl⟩
  · rintro t g n' ⟨t5, t6, rfl⟩
    have w1 : IntKind.i64.wrap (((told m).length : Int) + 1) = (((told m).length + 1 : Nat) : Int) := wrap_succ (by omega)
    refine s_take 6 (by simp only [runL, List.drop_succ_cons, List.drop_zero, awant_some, Option.getD_some, List.getElem?_toArray, List.getElem?_cons_succ, List.getElem?_cons_zero, Option.bind_some, b_tt, b_tf, b_ft, b_ff, Bool.not_true, Bool.not_false, List.take_succ_cons, List.take_zero, awant_none, astep, evl, put, ap_none, ap_new, ap_wr, List.length_nil, List.length_cons, Nat.add_zero, Nat.zero_add, upd_app, stepBin, abin, stepUn, stepPick, stepExtract, stepCall, if_true, if_false, reduceCtorEq, ↓reduceIte, Nat.reduceEqDiff, Nat.reduceAdd, List.map_cons, List.map_nil, Option.map_some, Option.map_none, Bool.false_eq_true, Int.reduceLE, Int.reduceToNat, ne_eq, not_false_eq_true, and_self, and_true, true_and, decide_true, decide_false, Int.reduceEq, Int.reduceLT, Int.reduceBEq, Int.reduceBNe, not_true_eq_false, undef, t5, t6, hL, w1, beq_self_eq_true] <;> rfl) ?_
    refine g_call 25 _ (by simp only [runL, List.drop_succ_cons, List.drop_zero, awant_some, Option.getD_some, List.getElem?_toArray, List.getElem?_cons_succ, List.getElem?_cons_zero, Option.bind_some, b_tt, b_tf, b_ft, b_ff, Bool.not_true, Bool.not_false, List.take_succ_cons, List.take_zero, awant_none, astep, evl, put, ap_none, ap_new, ap_wr, List.length_nil, List.length_cons, Nat.add_zero, Nat.zero_add, upd_app, stepBin, abin, stepUn, stepPick, stepExtract, stepCall, if_true, if_false, reduceCtorEq, ↓reduceIte, Nat.reduceEqDiff, Nat.reduceAdd, List.map_cons, List.map_nil, Option.map_some, Option.map_none, Bool.false_eq_true, Int.reduceLE, Int.reduceToNat, ne_eq, not_false_eq_true, and_self, and_true, true_and, decide_true, decide_false, Int.reduceEq, Int.reduceLT, Int.reduceBEq, Int.reduceBNe, not_true_eq_false, undef] <;> rfl) rfl (rknown_spec _) (by simp) ?_
    refine ops_run (by simp only [runL, List.drop_succ_cons, List.drop_zero, awant_some, Option.getD_some, List.getElem?_toArray, List.getElem?_cons_succ, List.getElem?_cons_zero, Option.bind_some, b_tt, b_tf, b_ft, b_ff, Bool.not_true, Bool.not_false, List.take_succ_cons, List.take_zero, awant_none, astep, evl, put, ap_none, ap_new, ap_wr, List.length_nil, List.length_cons, Nat.add_zero, Nat.zero_add, upd_app, stepBin, abin, stepUn, stepPick, stepExtract, stepCall, if_true, if_false, reduceCtorEq, ↓reduceIte, Nat.reduceEqDiff, Nat.reduceAdd, List.map_cons, List.map_nil, Option.map_some, Option.map_none, Bool.false_eq_true, Int.reduceLE, Int.reduceToNat, ne_eq, not_false_eq_true, and_self, and_true, true_and, decide_true, decide_false, Int.reduceEq, Int.reduceLT, Int.reduceBEq, Int.reduceBNe, not_true_eq_false, undef] <;> rfl) ?_
    refine w_ret ⟨.inr rfl, by simp, [], fin_plain hs hwf (k1.trans k2 (by omega)) ?_ trivial⟩
    simp [resVal, upd_app]
end Go.Proofs.Ytahinegnblankaa
