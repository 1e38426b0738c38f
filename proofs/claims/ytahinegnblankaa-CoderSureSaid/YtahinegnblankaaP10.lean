import Derived.Test.YtahinegnblankaaP9
namespace Go.Proofs.Ytahinegnblankaa
open Go Abs
set_option linter.unusedSimpArgs false
set_option linter.unusedVariables false

theorem and65535 (a : Int) : ∃ m : Nat, m ≤ 65535 ∧ bits .and .i64 a 65535 = (m : Int) := by
  refine ⟨(BitVec.ofInt 64 a).toNat &&& 65535, Nat.and_le_right, ?_⟩
  have h : (BitVec.ofInt 64 a).toNat &&& 65535 ≤ 65535 := Nat.and_le_right
  have e : bits .and .i64 a 65535 = IntKind.i64.wrap (((BitVec.ofInt 64 a).toNat &&& 65535 : Nat) : Int) := by
    simp only [bits, BitVec.toNat_and]
    rfl
  rw [e, wrap_nat (by omega)]

set_option maxRecDepth 10000 in
theorem lawROdd_spec (v : Value) (l : List Int) (a sym most : Int) (g : Heap) (hv : Src g v 1 l.length (l.map (Value.int .i64))) : FnSpec Try.prog 12 [v, .int .i64 a, .int .i64 sym, .int .i64 most] g { v := .bool true, r := srcBlk v } := by
  refine spec_of_body [8] follows Try.func12 rfl (by kernel_rfl) (by simp [Try.f12]) (by kernel_rfl) rfl ?_
  intro g2 s2 n hg hfr hs hn hwf hsv
  have hv2 : Src g2 v 1 l.length (l.map (Value.int .i64)) := hv.congr fun i hi => hg i (by simp [Eff.fp, hi])
  have hlen := hv2.len Try.underlying22
  have hdom : ∀ i ∈ srcBlk v, i < n := fun i hi => by
    obtain ⟨b, hb⟩ := Option.isSome_iff_exists.1 (hv2.dom i hi)
    exact hs i (hwf i b hb).1
  refine s_run (by simp only [runL, List.drop_succ_cons, List.drop_zero, awant_some, Option.getD_some, List.getElem?_toArray, List.getElem?_cons_succ, List.getElem?_cons_zero, Option.bind_some, b_tt, b_tf, b_ft, b_ff, Bool.not_true, Bool.not_false, List.take_succ_cons, List.take_zero, awant_none, astep, evl, put, ap_none, ap_new, ap_wr, List.length_nil, List.length_cons, Nat.add_zero, Nat.zero_add, upd_app, stepBin, abin, stepUn, stepPick, stepExtract, stepCall, if_true, if_false, reduceCtorEq, ↓reduceIte, Nat.reduceEqDiff, Nat.reduceAdd, List.map_cons, List.map_nil, Option.map_some, Option.map_none, Bool.false_eq_true, Int.reduceLE, Int.reduceToNat, ne_eq, not_false_eq_true, and_self, and_true, true_and, decide_true, decide_false, Int.reduceEq, Int.reduceLT, Int.reduceBEq, Int.reduceBNe, not_true_eq_false, undef] <;> rfl) ?_
  by_cases c1 : (l.length : Int) > 50
  · have e1 : decide ((l.length : Int) > 50) = true := decide_eq_true c1
    refine w_assoc (s_run (by simp only [runL, List.drop_succ_cons, List.drop_zero, awant_some, Option.getD_some, List.getElem?_toArray, List.getElem?_cons_succ, List.getElem?_cons_zero, Option.bind_some, b_tt, b_tf, b_ft, b_ff, Bool.not_true, Bool.not_false, List.take_succ_cons, List.take_zero, awant_none, astep, evl, put, ap_none, ap_new, ap_wr, List.length_nil, List.length_cons, Nat.add_zero, Nat.zero_add, upd_app, stepBin, abin, stepUn, stepPick, stepExtract, stepCall, if_true, if_false, reduceCtorEq, ↓reduceIte, Nat.reduceEqDiff, Nat.reduceAdd, List.map_cons, List.map_nil, Option.map_some, Option.map_none, Bool.false_eq_true, Int.reduceLE, Int.reduceToNat, ne_eq, not_false_eq_true, and_self, and_true, true_and, decide_true, decide_false, Int.reduceEq, Int.reduceLT, Int.reduceBEq, Int.reduceBNe, not_true_eq_false, undef, hlen, e1] <;> rfl) ?_)
    refine s_true (by simp [evl, upd_app]) (w_assoc (s_run (by simp only [runL, List.drop_succ_cons, List.drop_zero, awant_some, Option.getD_some, List.getElem?_toArray, List.getElem?_cons_succ, List.getElem?_cons_zero, Option.bind_some, b_tt, b_tf, b_ft, b_ff, Bool.not_true, Bool.not_false, List.take_succ_cons, List.take_zero, awant_none, astep, evl, put, ap_none, ap_new, ap_wr, List.length_nil, List.length_cons, Nat.add_zero, Nat.zero_add, upd_app, stepBin, abin, stepUn, stepPick, stepExtract, stepCall, if_true, if_false, reduceCtorEq, ↓reduceIte, Nat.reduceEqDiff, Nat.reduceAdd, List.map_cons, List.map_nil, Option.map_some, Option.map_none, Bool.false_eq_true, Int.reduceLE, Int.reduceToNat, ne_eq, not_false_eq_true, and_self, and_true, true_and, decide_true, decide_false, Int.reduceEq, Int.reduceLT, Int.reduceBEq, Int.reduceBNe, not_true_eq_false, undef] <;> rfl) ?_))
    refine s_ret ⟨.inr rfl, by simp, [], fin_plain hs hwf (Kp.refl _ _) ?_ trivial⟩
    simp [resVal, upd_app]
  have e1 : decide ((l.length : Int) > 50) = false := decide_eq_false c1
  by_cases hin : 0 ≤ sym ∧ sym ≤ 256
  · have e2 : decide (sym ≥ 0) = true := decide_eq_true hin.1
    have e3 : decide (sym ≤ 256) = true := decide_eq_true hin.2
    refine w_assoc (s_run (by simp only [runL, List.drop_succ_cons, List.drop_zero, awant_some, Option.getD_some, List.getElem?_toArray, List.getElem?_cons_succ, List.getElem?_cons_zero, Option.bind_some, b_tt, b_tf, b_ft, b_ff, Bool.not_true, Bool.not_false, List.take_succ_cons, List.take_zero, awant_none, astep, evl, put, ap_none, ap_new, ap_wr, List.length_nil, List.length_cons, Nat.add_zero, Nat.zero_add, upd_app, stepBin, abin, stepUn, stepPick, stepExtract, stepCall, if_true, if_false, reduceCtorEq, ↓reduceIte, Nat.reduceEqDiff, Nat.reduceAdd, List.map_cons, List.map_nil, Option.map_some, Option.map_none, Bool.false_eq_true, Int.reduceLE, Int.reduceToNat, ne_eq, not_false_eq_true, and_self, and_true, true_and, decide_true, decide_false, Int.reduceEq, Int.reduceLT, Int.reduceBEq, Int.reduceBNe, not_true_eq_false, undef, hlen, e1, e2, e3] <;> rfl) ?_)
    refine s_true (by simp [evl, upd_app]) (w_assoc (s_run (by simp only [runL, List.drop_succ_cons, List.drop_zero, awant_some, Option.getD_some, List.getElem?_toArray, List.getElem?_cons_succ, List.getElem?_cons_zero, Option.bind_some, b_tt, b_tf, b_ft, b_ff, Bool.not_true, Bool.not_false, List.take_succ_cons, List.take_zero, awant_none, astep, evl, put, ap_none, ap_new, ap_wr, List.length_nil, List.length_cons, Nat.add_zero, Nat.zero_add, upd_app, stepBin, abin, stepUn, stepPick, stepExtract, stepCall, if_true, if_false, reduceCtorEq, ↓reduceIte, Nat.reduceEqDiff, Nat.reduceAdd, List.map_cons, List.map_nil, Option.map_some, Option.map_none, Bool.false_eq_true, Int.reduceLE, Int.reduceToNat, ne_eq, not_false_eq_true, and_self, and_true, true_and, decide_true, decide_false, Int.reduceEq, Int.reduceLT, Int.reduceBEq, Int.reduceBNe, not_true_eq_false, undef] <;> rfl) ?_))
    refine s_ret ⟨.inr rfl, by simp, [], fin_plain hs hwf (Kp.refl _ _) ?_ trivial⟩
    simp [resVal, upd_app]
  have hbad : sym < 0 ∨ 257 ≤ sym := by omega
  -- the rest, whichever way the symbol is none
  have rest : ∀ (t : Nat → Value), t 0 = v → t 1 = .int .i64 a → t 2 = .int .i64 sym → t 3 = .int .i64 most → ¬ most < 0 → ¬ most > 5000 →
      awp Try.prog (match Try.f12.body with | some (.seq _ (.seq _ c)) => c | _ => .skip) (fun e t' g' _ => (e = .normal ∨ e = .ret) ∧ (([8] : List Tmp).length ≠ 1 → ∀ r ∈ ([8] : List Tmp), isTup (t' r) = false) ∧ ∃ ids, Abs.Fin { v := .bool true, r := srcBlk v } ids s2 g2 n g' (resVal [8] t')) t g2 n := by
    intro t t0 t1 t2 t3 hm1 hm2
    show awp Try.prog (.seq _ _) _ t g2 n
    have kz : Kp n g2 (upd g2 n (some ⟨false, 3, []⟩)) := kp_upd (Kp.refl _ _) (Nat.le_refl _)
    have hz : OwnB 3 (upd g2 n (some ⟨false, 3, []⟩)) (.slice (some ⟨n, 0, some 0⟩) 0 1) [] n := ⟨rfl, by simp⟩
    obtain ⟨f, hf, hfa, hO, hk⟩ := hz.append (P := Try.prog) (T := 22) (j := n + 1) (y := v) (news := l.map (Value.int .i64)) (by simpa using kz.src hv2 hdom) Try.underlying22 tinf3 (by simp; omega) (by omega)
    rw [List.nil_append] at hO
    refine s_run (by simp only [runL, List.drop_succ_cons, List.drop_zero, awant_some, Option.getD_some, List.getElem?_toArray, List.getElem?_cons_succ, List.getElem?_cons_zero, Option.bind_some, b_tt, b_tf, b_ft, b_ff, Bool.not_true, Bool.not_false, List.take_succ_cons, List.take_zero, awant_none, astep, evl, put, ap_none, ap_new, ap_wr, List.length_nil, List.length_cons, Nat.add_zero, Nat.zero_add, upd_app, stepBin, abin, stepUn, stepPick, stepExtract, stepCall, if_true, if_false, reduceCtorEq, ↓reduceIte, Nat.reduceEqDiff, Nat.reduceAdd, List.map_cons, List.map_nil, Option.map_some, Option.map_none, Bool.false_eq_true, Int.reduceLE, Int.reduceToNat, ne_eq, not_false_eq_true, and_self, and_true, true_and, decide_true, decide_false, Int.reduceEq, Int.reduceLT, Int.reduceBEq, Int.reduceBNe, not_true_eq_false, undef, t0, lit22_0, hf] <;> rfl) (w_heap fun G1 hG1 => ?_)
    rw [← hG1] at hO
    have k1 : Kp n g2 G1 := fun i hi => by rw [hG1, hk i (by omega), upd_ne _ _ (by omega)]
    simp only [hfa, List.length_nil, Nat.add_zero]
    refine w_gen (fun t => t 0 = v ∧ t 1 = .int .i64 a ∧ t 2 = .int .i64 sym ∧ t 3 = .int .i64 most ∧ t 9 = f.v) (by simp [upd_app, put, t0, t1, t2, t3]) ?_
    clear t0 t1 t2 t3
    rintro t ⟨t0, t1, t2, t3, t9⟩
    obtain ⟨q, hq, w1⟩ := and65535 a
    have w2 : IntKind.i64.wrap ((l.length : Int) + 1) = ((l.length + 1 : Nat) : Int) := wrap_succ (by omega)
    have w3 : (q : Int).tmod ((l.length + 1 : Nat) : Int) = ((q % (l.length + 1) : Nat) : Int) := rfl
    have w4 : ((l.length + 1 : Nat) : Int) ≠ 0 := by omega
    have hk2 : q % (l.length + 1) ≤ l.length := by have := Nat.mod_lt q (show l.length + 1 > 0 by omega); omega
    refine s_run (by simp only [runL, List.drop_succ_cons, List.drop_zero, awant_some, Option.getD_some, List.getElem?_toArray, List.getElem?_cons_succ, List.getElem?_cons_zero, Option.bind_some, b_tt, b_tf, b_ft, b_ff, Bool.not_true, Bool.not_false, List.take_succ_cons, List.take_zero, awant_none, astep, evl, put, ap_none, ap_new, ap_wr, List.length_nil, List.length_cons, Nat.add_zero, Nat.zero_add, upd_app, stepBin, abin, stepUn, stepPick, stepExtract, stepCall, if_true, if_false, reduceCtorEq, ↓reduceIte, Nat.reduceEqDiff, Nat.reduceAdd, List.map_cons, List.map_nil, Option.map_some, Option.map_none, Bool.false_eq_true, Int.reduceLE, Int.reduceToNat, ne_eq, not_false_eq_true, and_self, and_true, true_and, decide_true, decide_false, Int.reduceEq, Int.reduceLT, Int.reduceBEq, Int.reduceBNe, not_true_eq_false, undef, t0, t1, hlen, w1, w2, w3, w4] <;> rfl) ?_
    generalize q % (l.length + 1) = k at hk2 ⊢
    refine w_gen (fun t => t 2 = .int .i64 sym ∧ t 3 = .int .i64 most ∧ t 9 = f.v ∧ t 10 = .int .i64 k) (by simp [upd_app, put, t2, t3, t9]) ?_
    clear t0 t1 t2 t3 t9
    rintro t ⟨t2, t3, t9, t10⟩
    -- the row is put together
    have hS := hO.src
    rw [List.length_map] at hS
    obtain ⟨va, a1, a2, a3, _⟩ := hS.slice (P := Try.prog) Try.underlying22 tsize3 none (some (.int .i64 (k : Int))) 0 k rfl rfl (by omega) hk2
    obtain ⟨vb, b1, b2, b3, _⟩ := hS.slice (P := Try.prog) Try.underlying22 tsize3 (some (.int .i64 (k : Int))) none k l.length rfl rfl hk2 (Nat.le_refl _)
    have a2' : Src G1 va 1 ((l.take k).map (Value.int .i64)).length ((l.take k).map (Value.int .i64)) := by
      rw [List.length_map, List.length_take, Nat.min_eq_left hk2]; simpa using a2
    have b2' : Src G1 vb 1 ((l.drop k).map (Value.int .i64)).length ((l.drop k).map (Value.int .i64)) := by
      rw [List.length_map, List.length_drop]
      have e : (((l.map (Value.int .i64)).drop (k * 1)).take ((l.length - k) * 1)) = (l.drop k).map (Value.int .i64) := by
        rw [Nat.mul_one, Nat.mul_one, ← List.map_drop, List.take_of_length_le (by simp)]
      rw [e] at b2; exact b2
    have hfb : ∀ i ∈ srcBlk f.v, i = n := by rw [hO.1]; exact srcBlk_own
    have da : ∀ i ∈ srcBlk va, i < n + 1 := fun i hi => by have := hfb i (a3 i hi); omega
    have db : ∀ i ∈ srcBlk vb, i < n + 1 := fun i hi => by have := hfb i (b3 i hi); omega
    refine s_drawn #[0, 0, 0, 6, 15, 0, 32, 127, 0, 0, 768, 2047, 4095] (by decide +kernel) ?_
    refine d_new _ (by simp only [runL, List.drop_succ_cons, List.drop_zero, awant_some, Option.getD_some, List.getElem?_toArray, List.getElem?_cons_succ, List.getElem?_cons_zero, Option.bind_some, b_tt, b_tf, b_ft, b_ff, Bool.not_true, Bool.not_false, List.take_succ_cons, List.take_zero, awant_none, astep, evl, put, ap_none, ap_new, ap_wr, List.length_nil, List.length_cons, Nat.add_zero, Nat.zero_add, upd_app, stepBin, abin, stepUn, stepPick, stepExtract, stepCall, if_true, if_false, reduceCtorEq, ↓reduceIte, Nat.reduceEqDiff, Nat.reduceAdd, List.map_cons, List.map_nil, Option.map_some, Option.map_none, Bool.false_eq_true, Int.reduceLE, Int.reduceToNat, ne_eq, not_false_eq_true, and_self, and_true, true_and, decide_true, decide_false, Int.reduceEq, Int.reduceLT, Int.reduceBEq, Int.reduceBNe, not_true_eq_false, undef, lit22_0] <;> rfl) rfl (AccB.nil (n + 1) (n + 1) 0) rfl rfl _ rfl rfl (by omega) fun acc h1 => ?_
    refine d_pure 3 (by simp only [runP, List.drop_succ_cons, List.drop_zero, awant_some, Option.getD_some, List.getElem?_toArray, List.getElem?_cons_succ, List.getElem?_cons_zero, Option.bind_some, b_tt, b_tf, b_ft, b_ff, Bool.not_true, Bool.not_false, List.take_succ_cons, List.take_zero, awant_none, astep, evl, put, ap_none, ap_new, ap_wr, List.length_nil, List.length_cons, Nat.add_zero, Nat.zero_add, upd_app, stepBin, abin, stepUn, stepPick, stepExtract, stepCall, if_true, if_false, reduceCtorEq, ↓reduceIte, Nat.reduceEqDiff, Nat.reduceAdd, List.map_cons, List.map_nil, Option.map_some, Option.map_none, Bool.false_eq_true, Int.reduceLE, Int.reduceToNat, ne_eq, not_false_eq_true, and_self, and_true, true_and, decide_true, decide_false, Int.reduceEq, Int.reduceLT, Int.reduceBEq, Int.reduceBNe, not_true_eq_false, undef, List.isEmpty_nil, Bool.and_self, Bool.and_true, t9, t10, a1] <;> rfl) ?_
    dsimp only
    refine d_heap fun G2 hG2 => ?_
    have k2 : Kp (n + 1) G1 G2 := by rw [hG2]; exact kp_upd (Kp.refl _ _) (Nat.le_refl _)
    have o2 : OwnB 3 G2 (.slice (some ⟨n + 1, 0, some 0⟩) 0 1) [] (n + 1) := ⟨rfl, by rw [hG2]; simp [ap_new]⟩
    obtain ⟨f1, hf1, hfa1, o3, hk3⟩ := o2.append (P := Try.prog) (T := 22) (j := n + 2) (k2.src a2' da) Try.underlying22 tinf3 (by simp; omega) (by omega)
    rw [List.nil_append] at o3
    obtain ⟨fr1, fw1⟩ := append_fp_some hf1
    refine d_full f1 (by simp only [astep, evl, upd_app, put, stepCall, ↓reduceIte, Nat.reduceEqDiff]; exact hf1) rfl (h1.le (Nat.le_refl _) (Nat.le_refl _) (by simp)) rfl (fun x hx => by
      rcases fr1 x hx with h | h
      · simp only at h; omega
      · have := da x h; omega) (fun x hx => by have := fw1 x hx; simp only at this; omega) (by omega) fun acc h2 => ?_
    simp only [hfa1, List.length_nil, Nat.add_zero] at h2 ⊢
    refine d_heap fun G3 hG3 => ?_
    rw [← hG3] at o3 hk3
    refine d_pure 1 (by simp only [runP, List.drop_succ_cons, List.drop_zero, awant_some, Option.getD_some, List.getElem?_toArray, List.getElem?_cons_succ, List.getElem?_cons_zero, Option.bind_some, b_tt, b_tf, b_ft, b_ff, Bool.not_true, Bool.not_false, List.take_succ_cons, List.take_zero, awant_none, astep, evl, put, ap_none, ap_new, ap_wr, List.length_nil, List.length_cons, Nat.add_zero, Nat.zero_add, upd_app, stepBin, abin, stepUn, stepPick, stepExtract, stepCall, if_true, if_false, reduceCtorEq, ↓reduceIte, Nat.reduceEqDiff, Nat.reduceAdd, List.map_cons, List.map_nil, Option.map_some, Option.map_none, Bool.false_eq_true, Int.reduceLE, Int.reduceToNat, ne_eq, not_false_eq_true, and_self, and_true, true_and, decide_true, decide_false, Int.reduceEq, Int.reduceLT, Int.reduceBEq, Int.reduceBNe, not_true_eq_false, undef, List.isEmpty_nil, Bool.and_self, Bool.and_true, t2] <;> rfl) ?_
    dsimp only
    refine d_new _ (by simp only [runL, List.drop_succ_cons, List.drop_zero, awant_some, Option.getD_some, List.getElem?_toArray, List.getElem?_cons_succ, List.getElem?_cons_zero, Option.bind_some, b_tt, b_tf, b_ft, b_ff, Bool.not_true, Bool.not_false, List.take_succ_cons, List.take_zero, awant_none, astep, evl, put, ap_none, ap_new, ap_wr, List.length_nil, List.length_cons, Nat.add_zero, Nat.zero_add, upd_app, stepBin, abin, stepUn, stepPick, stepExtract, stepCall, if_true, if_false, reduceCtorEq, ↓reduceIte, Nat.reduceEqDiff, Nat.reduceAdd, List.map_cons, List.map_nil, Option.map_some, Option.map_none, Bool.false_eq_true, Int.reduceLE, Int.reduceToNat, ne_eq, not_false_eq_true, and_self, and_true, true_and, decide_true, decide_false, Int.reduceEq, Int.reduceLT, Int.reduceBEq, Int.reduceBNe, not_true_eq_false, undef, lit22_1] <;> rfl) rfl (h2.le (Nat.le_refl _) (Nat.le_refl _) (by simp)) rfl rfl _ rfl rfl (by omega) fun acc h3 => ?_
    obtain ⟨f2, hf2, hfa2, o4, hk4⟩ := o3.push (P := Try.prog) (T := 22) (j := n + 1 + 1) (c := .int .i64 sym) (by omega) Try.underlying22 tinf3 (by simp; omega) (by omega)
    have fw2 : (∀ x ∈ f2.r, x = n + 1 ∨ x = n + 1 + 1) ∧ ∀ x ∈ f2.wr, x = n + 1 := by
      rw [o3.1] at hf2
      obtain ⟨p1, p2⟩ := append_fp_some hf2
      exact ⟨fun x hx => (p1 x hx).imp id fun h => srcBlk_own x h, p2⟩
    refine d_full f2 (by simp only [astep, evl, upd_app, put, stepCall, ↓reduceIte, Nat.reduceEqDiff]; exact hf2) rfl (h3.le (Nat.le_refl _) (Nat.le_refl _) (by simp)) rfl (fun x hx => by have := fw2.1 x hx; omega) (fun x hx => by have := fw2.2 x hx; omega) (by omega) fun acc h4 => ?_
    simp only [hfa2, List.length_nil, Nat.add_zero] at h4 ⊢
    refine d_heap fun G4 hG4 => ?_
    have o4' : OwnB 3 G4 f2.v ((l.take k).map (Value.int .i64) ++ [.int .i64 sym]) (n + 1) := by rw [hG4]; exact o4
    have hk4' : ∀ q, q < n + 1 → G4 q = G3 q := fun q hq => by rw [hG4]; exact hk4 q (by omega) (by omega)
    refine d_pure 3 (by simp only [runP, List.drop_succ_cons, List.drop_zero, awant_some, Option.getD_some, List.getElem?_toArray, List.getElem?_cons_succ, List.getElem?_cons_zero, Option.bind_some, b_tt, b_tf, b_ft, b_ff, Bool.not_true, Bool.not_false, List.take_succ_cons, List.take_zero, awant_none, astep, evl, put, ap_none, ap_new, ap_wr, List.length_nil, List.length_cons, Nat.add_zero, Nat.zero_add, upd_app, stepBin, abin, stepUn, stepPick, stepExtract, stepCall, if_true, if_false, reduceCtorEq, ↓reduceIte, Nat.reduceEqDiff, Nat.reduceAdd, List.map_cons, List.map_nil, Option.map_some, Option.map_none, Bool.false_eq_true, Int.reduceLE, Int.reduceToNat, ne_eq, not_false_eq_true, and_self, and_true, true_and, decide_true, decide_false, Int.reduceEq, Int.reduceLT, Int.reduceBEq, Int.reduceBNe, not_true_eq_false, undef, List.isEmpty_nil, Bool.and_self, Bool.and_true, t9, t10, b1] <;> rfl) ?_
    dsimp only
    have kb : Kp (n + 1) G1 G4 := fun q hq => by rw [hk4' q hq, hk3 q (by omega), k2 q hq]
    obtain ⟨f3, hf3, hfa3, o5, hk5⟩ := o4'.append (P := Try.prog) (T := 22) (j := n + 1 + 1 + 1) (kb.src b2' db) Try.underlying22 tinf3 (by simp; omega) (by omega)
    have fw3 : (∀ x ∈ f3.r, x = n + 1 ∨ x ∈ srcBlk vb) ∧ ∀ x ∈ f3.wr, x = n + 1 := by
      rw [o4'.1] at hf3
      exact append_fp_some hf3
    refine d_full f3 (by simp only [astep, evl, upd_app, put, stepCall, ↓reduceIte, Nat.reduceEqDiff]; exact hf3) rfl (h4.le (Nat.le_refl _) (Nat.le_refl _) (by simp)) rfl (fun x hx => by
      rcases fw3.1 x hx with h | h
      · omega
      · have := db x h; omega) (fun x hx => by have := fw3.2 x hx; omega) (by omega) fun acc h5 => ?_
    simp only [hfa3, List.length_nil, Nat.add_zero] at h5 ⊢
    refine d_heap fun G5 hG5 => ?_
    rw [← hG5] at o5 hk5
    refine d_pure 1 (by simp only [runP, List.drop_succ_cons, List.drop_zero, awant_some, Option.getD_some, List.getElem?_toArray, List.getElem?_cons_succ, List.getElem?_cons_zero, Option.bind_some, b_tt, b_tf, b_ft, b_ff, Bool.not_true, Bool.not_false, List.take_succ_cons, List.take_zero, awant_none, astep, evl, put, ap_none, ap_new, ap_wr, List.length_nil, List.length_cons, Nat.add_zero, Nat.zero_add, upd_app, stepBin, abin, stepUn, stepPick, stepExtract, stepCall, if_true, if_false, reduceCtorEq, ↓reduceIte, Nat.reduceEqDiff, Nat.reduceAdd, List.map_cons, List.map_nil, Option.map_some, Option.map_none, Bool.false_eq_true, Int.reduceLE, Int.reduceToNat, ne_eq, not_false_eq_true, and_self, and_true, true_and, decide_true, decide_false, Int.reduceEq, Int.reduceLT, Int.reduceBEq, Int.reduceBNe, not_true_eq_false, undef, List.isEmpty_nil, Bool.and_self, Bool.and_true] <;> rfl) ?_
    have hcell : (l.take k).map (Value.int .i64) ++ [.int .i64 sym] ++ (l.drop k).map (Value.int .i64) = (l.take k ++ sym :: l.drop k).map (Value.int .i64) := by simp
    rw [hcell] at o5
    have hll : (l.take k ++ sym :: l.drop k).length = l.length + 1 := by simp; omega
    have k5 : Kp n g2 G5 := fun q hq => by rw [hk5 q (by omega), kb q (by omega), k1 q hq]
    refine w_gen (fun t => t 3 = .int .i64 most ∧ t 9 = f3.v) (by simp [upd_app, put, t3]) ?_
    clear t2 t3 t9 t10
    rintro t ⟨t3, t9⟩
    refine s_take 2 (by simp only [runL, List.drop_succ_cons, List.drop_zero, awant_some, Option.getD_some, List.getElem?_toArray, List.getElem?_cons_succ, List.getElem?_cons_zero, Option.bind_some, b_tt, b_tf, b_ft, b_ff, Bool.not_true, Bool.not_false, List.take_succ_cons, List.take_zero, awant_none, astep, evl, put, ap_none, ap_new, ap_wr, List.length_nil, List.length_cons, Nat.add_zero, Nat.zero_add, upd_app, stepBin, abin, stepUn, stepPick, stepExtract, stepCall, if_true, if_false, reduceCtorEq, ↓reduceIte, Nat.reduceEqDiff, Nat.reduceAdd, List.map_cons, List.map_nil, Option.map_some, Option.map_none, Bool.false_eq_true, Int.reduceLE, Int.reduceToNat, ne_eq, not_false_eq_true, and_self, and_true, true_and, decide_true, decide_false, Int.reduceEq, Int.reduceLT, Int.reduceBEq, Int.reduceBNe, not_true_eq_false, undef, t3, t9] <;> rfl) ?_
    have hbk := back_spec f3.v (l.take k ++ sym :: l.drop k) most G5 (n + 1 + 1 + 1) (by omega) (by omega) (by simpa using o5.src)
    have hno : (if most < 0 then none else rback (l.take k ++ sym :: l.drop k) most.toNat [] 1) = none := by rw [if_neg hm1]; exact rback_bad hbad _ _ _ _
    rw [hno] at hbk
    refine ops_call 37 _ rfl hbk (by intro h; exact (h rfl).elim) ?_
    refine ops_run (by simp only [runL, List.drop_succ_cons, List.drop_zero, awant_some, Option.getD_some, List.getElem?_toArray, List.getElem?_cons_succ, List.getElem?_cons_zero, Option.bind_some, b_tt, b_tf, b_ft, b_ff, Bool.not_true, Bool.not_false, List.take_succ_cons, List.take_zero, awant_none, astep, evl, put, ap_none, ap_new, ap_wr, List.length_nil, List.length_cons, Nat.add_zero, Nat.zero_add, upd_app, stepBin, abin, stepUn, stepPick, stepExtract, stepCall, if_true, if_false, reduceCtorEq, ↓reduceIte, Nat.reduceEqDiff, Nat.reduceAdd, List.map_cons, List.map_nil, Option.map_some, Option.map_none, Bool.false_eq_true, Int.reduceLE, Int.reduceToNat, ne_eq, not_false_eq_true, and_self, and_true, true_and, decide_true, decide_false, Int.reduceEq, Int.reduceLT, Int.reduceBEq, Int.reduceBNe, not_true_eq_false, undef, backE] <;> rfl) ?_
    refine w_gen (fun t => t 11 = .slice none 0 0 ∧ t 12 = .bool false) (by simp [upd_app, put]) ?_
    clear t3 t9
    rintro t ⟨t11, t12⟩
    refine s_take 0 (by simp only [runL, List.drop_succ_cons, List.drop_zero, awant_some, Option.getD_some, List.getElem?_toArray, List.getElem?_cons_succ, List.getElem?_cons_zero, Option.bind_some, b_tt, b_tf, b_ft, b_ff, Bool.not_true, Bool.not_false, List.take_succ_cons, List.take_zero, awant_none, astep, evl, put, ap_none, ap_new, ap_wr, List.length_nil, List.length_cons, Nat.add_zero, Nat.zero_add, upd_app, stepBin, abin, stepUn, stepPick, stepExtract, stepCall, if_true, if_false, reduceCtorEq, ↓reduceIte, Nat.reduceEqDiff, Nat.reduceAdd, List.map_cons, List.map_nil, Option.map_some, Option.map_none, Bool.false_eq_true, Int.reduceLE, Int.reduceToNat, ne_eq, not_false_eq_true, and_self, and_true, true_and, decide_true, decide_false, Int.reduceEq, Int.reduceLT, Int.reduceBEq, Int.reduceBNe, not_true_eq_false, undef] <;> rfl) ?_
    have hb1 := back_spec (.slice none 0 0) [] (-1) G5 (n + 1 + 1 + 1) (by simp) (by omega) (.inl ⟨rfl, rfl, rfl⟩)
    rw [if_pos (by omega)] at hb1
    refine ops_call 37 _ rfl hb1 (by intro h; exact (h rfl).elim) ?_
    refine ops_run (by simp only [runL, List.drop_succ_cons, List.drop_zero, awant_some, Option.getD_some, List.getElem?_toArray, List.getElem?_cons_succ, List.getElem?_cons_zero, Option.bind_some, b_tt, b_tf, b_ft, b_ff, Bool.not_true, Bool.not_false, List.take_succ_cons, List.take_zero, awant_none, astep, evl, put, ap_none, ap_new, ap_wr, List.length_nil, List.length_cons, Nat.add_zero, Nat.zero_add, upd_app, stepBin, abin, stepUn, stepPick, stepExtract, stepCall, if_true, if_false, reduceCtorEq, ↓reduceIte, Nat.reduceEqDiff, Nat.reduceAdd, List.map_cons, List.map_nil, Option.map_some, Option.map_none, Bool.false_eq_true, Int.reduceLE, Int.reduceToNat, ne_eq, not_false_eq_true, and_self, and_true, true_and, decide_true, decide_false, Int.reduceEq, Int.reduceLT, Int.reduceBEq, Int.reduceBNe, not_true_eq_false, undef, backE] <;> rfl) ?_
    refine w_gen (fun t => t 11 = .slice none 0 0 ∧ t 12 = .bool false ∧ t 14 = .bool false) (by simp [upd_app, put, t11, t12]) ?_
    clear t11 t12
    rintro t ⟨t11, t12, t14⟩
    refine s_take 0 (by simp only [runL, List.drop_succ_cons, List.drop_zero, awant_some, Option.getD_some, List.getElem?_toArray, List.getElem?_cons_succ, List.getElem?_cons_zero, Option.bind_some, b_tt, b_tf, b_ft, b_ff, Bool.not_true, Bool.not_false, List.take_succ_cons, List.take_zero, awant_none, astep, evl, put, ap_none, ap_new, ap_wr, List.length_nil, List.length_cons, Nat.add_zero, Nat.zero_add, upd_app, stepBin, abin, stepUn, stepPick, stepExtract, stepCall, if_true, if_false, reduceCtorEq, ↓reduceIte, Nat.reduceEqDiff, Nat.reduceAdd, List.map_cons, List.map_nil, Option.map_some, Option.map_none, Bool.false_eq_true, Int.reduceLE, Int.reduceToNat, ne_eq, not_false_eq_true, and_self, and_true, true_and, decide_true, decide_false, Int.reduceEq, Int.reduceLT, Int.reduceBEq, Int.reduceBNe, not_true_eq_false, undef] <;> rfl) ?_
    have hb2 := back_spec (.slice none 0 0) [] 0 G5 (n + 1 + 1 + 1) (by simp) (by omega) (.inl ⟨rfl, rfl, rfl⟩)
    rw [if_neg (by omega), rback] at hb2
    refine ops_call 37 _ rfl hb2 (by intro _; rfl) (ops_heap fun G6 hG6 => ?_)
    have k6 : Kp (n + 1 + 1 + 1) G5 G6 := by rw [hG6]; exact kp_ap (Kp.refl _ _) (backE_w _ _ _) (fun _ => Nat.le_refl _)
    refine ops_run (by simp only [runL, List.drop_succ_cons, List.drop_zero, awant_some, Option.getD_some, List.getElem?_toArray, List.getElem?_cons_succ, List.getElem?_cons_zero, Option.bind_some, b_tt, b_tf, b_ft, b_ff, Bool.not_true, Bool.not_false, List.take_succ_cons, List.take_zero, awant_none, astep, evl, put, ap_none, ap_new, ap_wr, List.length_nil, List.length_cons, Nat.add_zero, Nat.zero_add, upd_app, stepBin, abin, stepUn, stepPick, stepExtract, stepCall, if_true, if_false, reduceCtorEq, ↓reduceIte, Nat.reduceEqDiff, Nat.reduceAdd, List.map_cons, List.map_nil, Option.map_some, Option.map_none, Bool.false_eq_true, Int.reduceLE, Int.reduceToNat, ne_eq, not_false_eq_true, and_self, and_true, true_and, decide_true, decide_false, Int.reduceEq, Int.reduceLT, Int.reduceBEq, Int.reduceBNe, not_true_eq_false, undef, backE] <;> rfl) ?_
    have L1 : stepLen Try.prog 24 (.slice none 0 0) = some { v := .int .i64 0 } := by simp [stepLen, Try.underlying24]
    have L2 : ∀ q, stepLen Try.prog 24 (.slice (some ⟨q, 0, some 0⟩) 0 1) = some { v := .int .i64 0 } := fun q => by simp [stepLen, Try.underlying24]
    refine w_gen (fun t => t 11 = .slice none 0 0 ∧ t 12 = .bool false ∧ t 14 = .bool false ∧ t 15 = .slice (some ⟨n + 1 + 1 + 1, 0, some 0⟩) 0 1 ∧ t 16 = .bool true) (by simp [upd_app, put, t11, t12, t14]) ?_
    clear t11 t12 t14
    rintro t ⟨t11, t12, t14, t15, t16⟩
    refine s_take 20 (by simp only [runL, List.drop_succ_cons, List.drop_zero, awant_some, Option.getD_some, List.getElem?_toArray, List.getElem?_cons_succ, List.getElem?_cons_zero, Option.bind_some, b_tt, b_tf, b_ft, b_ff, Bool.not_true, Bool.not_false, List.take_succ_cons, List.take_zero, awant_none, astep, evl, put, ap_none, ap_new, ap_wr, List.length_nil, List.length_cons, Nat.add_zero, Nat.zero_add, upd_app, stepBin, abin, stepUn, stepPick, stepExtract, stepCall, if_true, if_false, reduceCtorEq, ↓reduceIte, Nat.reduceEqDiff, Nat.reduceAdd, List.map_cons, List.map_nil, Option.map_some, Option.map_none, Bool.false_eq_true, Int.reduceLE, Int.reduceToNat, ne_eq, not_false_eq_true, and_self, and_true, true_and, decide_true, decide_false, Int.reduceEq, Int.reduceLT, Int.reduceBEq, Int.reduceBNe, not_true_eq_false, undef, t11, t12, t14, t15, t16, L1, L2, beq_self_eq_true] <;> rfl) ?_
    refine g_call 25 _ (by simp only [runL, List.drop_succ_cons, List.drop_zero, awant_some, Option.getD_some, List.getElem?_toArray, List.getElem?_cons_succ, List.getElem?_cons_zero, Option.bind_some, b_tt, b_tf, b_ft, b_ff, Bool.not_true, Bool.not_false, List.take_succ_cons, List.take_zero, awant_none, astep, evl, put, ap_none, ap_new, ap_wr, List.length_nil, List.length_cons, Nat.add_zero, Nat.zero_add, upd_app, stepBin, abin, stepUn, stepPick, stepExtract, stepCall, if_true, if_false, reduceCtorEq, ↓reduceIte, Nat.reduceEqDiff, Nat.reduceAdd, List.map_cons, List.map_nil, Option.map_some, Option.map_none, Bool.false_eq_true, Int.reduceLE, Int.reduceToNat, ne_eq, not_false_eq_true, and_self, and_true, true_and, decide_true, decide_false, Int.reduceEq, Int.reduceLT, Int.reduceBEq, Int.reduceBNe, not_true_eq_false, undef] <;> rfl) rfl (rknown_spec _) (by simp) ?_
    refine ops_run (by simp only [runL, List.drop_succ_cons, List.drop_zero, awant_some, Option.getD_some, List.getElem?_toArray, List.getElem?_cons_succ, List.getElem?_cons_zero, Option.bind_some, b_tt, b_tf, b_ft, b_ff, Bool.not_true, Bool.not_false, List.take_succ_cons, List.take_zero, awant_none, astep, evl, put, ap_none, ap_new, ap_wr, List.length_nil, List.length_cons, Nat.add_zero, Nat.zero_add, upd_app, stepBin, abin, stepUn, stepPick, stepExtract, stepCall, if_true, if_false, reduceCtorEq, ↓reduceIte, Nat.reduceEqDiff, Nat.reduceAdd, List.map_cons, List.map_nil, Option.map_some, Option.map_none, Bool.false_eq_true, Int.reduceLE, Int.reduceToNat, ne_eq, not_false_eq_true, and_self, and_true, true_and, decide_true, decide_false, Int.reduceEq, Int.reduceLT, Int.reduceBEq, Int.reduceBNe, not_true_eq_false, undef] <;> rfl) ?_
    refine w_ret ⟨.inr rfl, by simp, [], fin_plain hs hwf (k5.trans k6 (by omega)) ?_ trivial⟩
    simp [resVal, upd_app]
  by_cases c2 : sym ≥ 0
  · have e2 : decide (sym ≥ 0) = true := decide_eq_true c2
    have e3 : decide (sym ≤ 256) = false := decide_eq_false (by omega)
    by_cases cf1 : most < 0
    · have f1 : decide (most < 0) = true := decide_eq_true cf1
      refine w_assoc (s_run (by simp only [runL, List.drop_succ_cons, List.drop_zero, awant_some, Option.getD_some, List.getElem?_toArray, List.getElem?_cons_succ, List.getElem?_cons_zero, Option.bind_some, b_tt, b_tf, b_ft, b_ff, Bool.not_true, Bool.not_false, List.take_succ_cons, List.take_zero, awant_none, astep, evl, put, ap_none, ap_new, ap_wr, List.length_nil, List.length_cons, Nat.add_zero, Nat.zero_add, upd_app, stepBin, abin, stepUn, stepPick, stepExtract, stepCall, if_true, if_false, reduceCtorEq, ↓reduceIte, Nat.reduceEqDiff, Nat.reduceAdd, List.map_cons, List.map_nil, Option.map_some, Option.map_none, Bool.false_eq_true, Int.reduceLE, Int.reduceToNat, ne_eq, not_false_eq_true, and_self, and_true, true_and, decide_true, decide_false, Int.reduceEq, Int.reduceLT, Int.reduceBEq, Int.reduceBNe, not_true_eq_false, undef, hlen, e1, e2, e3, f1] <;> rfl) ?_)
      refine s_true (by simp [evl, upd_app]) (w_assoc (s_run (by simp only [runL, List.drop_succ_cons, List.drop_zero, awant_some, Option.getD_some, List.getElem?_toArray, List.getElem?_cons_succ, List.getElem?_cons_zero, Option.bind_some, b_tt, b_tf, b_ft, b_ff, Bool.not_true, Bool.not_false, List.take_succ_cons, List.take_zero, awant_none, astep, evl, put, ap_none, ap_new, ap_wr, List.length_nil, List.length_cons, Nat.add_zero, Nat.zero_add, upd_app, stepBin, abin, stepUn, stepPick, stepExtract, stepCall, if_true, if_false, reduceCtorEq, ↓reduceIte, Nat.reduceEqDiff, Nat.reduceAdd, List.map_cons, List.map_nil, Option.map_some, Option.map_none, Bool.false_eq_true, Int.reduceLE, Int.reduceToNat, ne_eq, not_false_eq_true, and_self, and_true, true_and, decide_true, decide_false, Int.reduceEq, Int.reduceLT, Int.reduceBEq, Int.reduceBNe, not_true_eq_false, undef] <;> rfl) ?_))
      refine s_ret ⟨.inr rfl, by simp, [], fin_plain hs hwf (Kp.refl _ _) ?_ trivial⟩
      simp [resVal, upd_app]
    have f1 : decide (most < 0) = false := decide_eq_false cf1
    by_cases cf2 : most > 5000
    · have f2 : decide (most > 5000) = true := decide_eq_true cf2
      refine w_assoc (s_run (by simp only [runL, List.drop_succ_cons, List.drop_zero, awant_some, Option.getD_some, List.getElem?_toArray, List.getElem?_cons_succ, List.getElem?_cons_zero, Option.bind_some, b_tt, b_tf, b_ft, b_ff, Bool.not_true, Bool.not_false, List.take_succ_cons, List.take_zero, awant_none, astep, evl, put, ap_none, ap_new, ap_wr, List.length_nil, List.length_cons, Nat.add_zero, Nat.zero_add, upd_app, stepBin, abin, stepUn, stepPick, stepExtract, stepCall, if_true, if_false, reduceCtorEq, ↓reduceIte, Nat.reduceEqDiff, Nat.reduceAdd, List.map_cons, List.map_nil, Option.map_some, Option.map_none, Bool.false_eq_true, Int.reduceLE, Int.reduceToNat, ne_eq, not_false_eq_true, and_self, and_true, true_and, decide_true, decide_false, Int.reduceEq, Int.reduceLT, Int.reduceBEq, Int.reduceBNe, not_true_eq_false, undef, hlen, e1, e2, e3, f1, f2] <;> rfl) ?_)
      refine s_true (by simp [evl, upd_app]) (w_assoc (s_run (by simp only [runL, List.drop_succ_cons, List.drop_zero, awant_some, Option.getD_some, List.getElem?_toArray, List.getElem?_cons_succ, List.getElem?_cons_zero, Option.bind_some, b_tt, b_tf, b_ft, b_ff, Bool.not_true, Bool.not_false, List.take_succ_cons, List.take_zero, awant_none, astep, evl, put, ap_none, ap_new, ap_wr, List.length_nil, List.length_cons, Nat.add_zero, Nat.zero_add, upd_app, stepBin, abin, stepUn, stepPick, stepExtract, stepCall, if_true, if_false, reduceCtorEq, ↓reduceIte, Nat.reduceEqDiff, Nat.reduceAdd, List.map_cons, List.map_nil, Option.map_some, Option.map_none, Bool.false_eq_true, Int.reduceLE, Int.reduceToNat, ne_eq, not_false_eq_true, and_self, and_true, true_and, decide_true, decide_false, Int.reduceEq, Int.reduceLT, Int.reduceBEq, Int.reduceBNe, not_true_eq_false, undef] <;> rfl) ?_))
      refine s_ret ⟨.inr rfl, by simp, [], fin_plain hs hwf (Kp.refl _ _) ?_ trivial⟩
      simp [resVal, upd_app]
    have f2 : decide (most > 5000) = false := decide_eq_false cf2
    refine w_assoc (s_run (by simp only [runL, List.drop_succ_cons, List.drop_zero, awant_some, Option.getD_some, List.getElem?_toArray, List.getElem?_cons_succ, List.getElem?_cons_zero, Option.bind_some, b_tt, b_tf, b_ft, b_ff, Bool.not_true, Bool.not_false, List.take_succ_cons, List.take_zero, awant_none, astep, evl, put, ap_none, ap_new, ap_wr, List.length_nil, List.length_cons, Nat.add_zero, Nat.zero_add, upd_app, stepBin, abin, stepUn, stepPick, stepExtract, stepCall, if_true, if_false, reduceCtorEq, ↓reduceIte, Nat.reduceEqDiff, Nat.reduceAdd, List.map_cons, List.map_nil, Option.map_some, Option.map_none, Bool.false_eq_true, Int.reduceLE, Int.reduceToNat, ne_eq, not_false_eq_true, and_self, and_true, true_and, decide_true, decide_false, Int.reduceEq, Int.reduceLT, Int.reduceBEq, Int.reduceBNe, not_true_eq_false, undef, hlen, e1, e2, e3, f1, f2] <;> rfl) ?_)
    refine s_false (by simp [evl, upd_app]) (s_skip ?_)
    exact rest _ (by simp [upd_app]) (by simp [upd_app]) (by simp [upd_app]) (by simp [upd_app]) cf1 cf2
  · have e2 : decide (sym ≥ 0) = false := decide_eq_false c2
    by_cases cf1 : most < 0
    · have f1 : decide (most < 0) = true := decide_eq_true cf1
      refine w_assoc (s_run (by simp only [runL, List.drop_succ_cons, List.drop_zero, awant_some, Option.getD_some, List.getElem?_toArray, List.getElem?_cons_succ, List.getElem?_cons_zero, Option.bind_some, b_tt, b_tf, b_ft, b_ff, Bool.not_true, Bool.not_false, List.take_succ_cons, List.take_zero, awant_none, astep, evl, put, ap_none, ap_new, ap_wr, List.length_nil, List.length_cons, Nat.add_zero, Nat.zero_add, upd_app, stepBin, abin, stepUn, stepPick, stepExtract, stepCall, if_true, if_false, reduceCtorEq, ↓reduceIte, Nat.reduceEqDiff, Nat.reduceAdd, List.map_cons, List.map_nil, Option.map_some, Option.map_none, Bool.false_eq_true, Int.reduceLE, Int.reduceToNat, ne_eq, not_false_eq_true, and_self, and_true, true_and, decide_true, decide_false, Int.reduceEq, Int.reduceLT, Int.reduceBEq, Int.reduceBNe, not_true_eq_false, undef, hlen, e1, e2, f1] <;> rfl) ?_)
      refine s_true (by simp [evl, upd_app]) (w_assoc (s_run (by simp only [runL, List.drop_succ_cons, List.drop_zero, awant_some, Option.getD_some, List.getElem?_toArray, List.getElem?_cons_succ, List.getElem?_cons_zero, Option.bind_some, b_tt, b_tf, b_ft, b_ff, Bool.not_true, Bool.not_false, List.take_succ_cons, List.take_zero, awant_none, astep, evl, put, ap_none, ap_new, ap_wr, List.length_nil, List.length_cons, Nat.add_zero, Nat.zero_add, upd_app, stepBin, abin, stepUn, stepPick, stepExtract, stepCall, if_true, if_false, reduceCtorEq, ↓reduceIte, Nat.reduceEqDiff, Nat.reduceAdd, List.map_cons, List.map_nil, Option.map_some, Option.map_none, Bool.false_eq_true, Int.reduceLE, Int.reduceToNat, ne_eq, not_false_eq_true, and_self, and_true, true_and, decide_true, decide_false, Int.reduceEq, Int.reduceLT, Int.reduceBEq, Int.reduceBNe, not_true_eq_false, undef] <;> rfl) ?_))
      refine s_ret ⟨.inr rfl, by simp, [], fin_plain hs hwf (Kp.refl _ _) ?_ trivial⟩
      simp [resVal, upd_app]
    have f1 : decide (most < 0) = false := decide_eq_false cf1
    by_cases cf2 : most > 5000
    · have f2 : decide (most > 5000) = true := decide_eq_true cf2
      refine w_assoc (s_run (by simp only [runL, List.drop_succ_cons, List.drop_zero, awant_some, Option.getD_some, List.getElem?_toArray, List.getElem?_cons_succ, List.getElem?_cons_zero, Option.bind_some, b_tt, b_tf, b_ft, b_ff, Bool.not_true, Bool.not_false, List.take_succ_cons, List.take_zero, awant_none, astep, evl, put, ap_none, ap_new, ap_wr, List.length_nil, List.length_cons, Nat.add_zero, Nat.zero_add, upd_app, stepBin, abin, stepUn, stepPick, stepExtract, stepCall, if_true, if_false, reduceCtorEq, ↓reduceIte, Nat.reduceEqDiff, Nat.reduceAdd, List.map_cons, List.map_nil, Option.map_some, Option.map_none, Bool.false_eq_true, Int.reduceLE, Int.reduceToNat, ne_eq, not_false_eq_true, and_self, and_true, true_and, decide_true, decide_false, Int.reduceEq, Int.reduceLT, Int.reduceBEq, Int.reduceBNe, not_true_eq_false, undef, hlen, e1, e2, f1, f2] <;> rfl) ?_)
      refine s_true (by simp [evl, upd_app]) (w_assoc (s_run (by simp only [runL, List.drop_succ_cons, List.drop_zero, awant_some, Option.getD_some, List.getElem?_toArray, List.getElem?_cons_succ, List.getElem?_cons_zero, Option.bind_some, b_tt, b_tf, b_ft, b_ff, Bool.not_true, Bool.not_false, List.take_succ_cons, List.take_zero, awant_none, astep, evl, put, ap_none, ap_new, ap_wr, List.length_nil, List.length_cons, Nat.add_zero, Nat.zero_add, upd_app, stepBin, abin, stepUn, stepPick, stepExtract, stepCall, if_true, if_false, reduceCtorEq, ↓reduceIte, Nat.reduceEqDiff, Nat.reduceAdd, List.map_cons, List.map_nil, Option.map_some, Option.map_none, Bool.false_eq_true, Int.reduceLE, Int.reduceToNat, ne_eq, not_false_eq_true, and_self, and_true, true_and, decide_true, decide_false, Int.reduceEq, Int.reduceLT, Int.reduceBEq, Int.reduceBNe, not_true_eq_false, undef] <;> rfl) ?_))
      refine s_ret ⟨.inr rfl, by simp, [], fin_plain hs hwf (Kp.refl _ _) ?_ trivial⟩
      simp [resVal, upd_app]
    have f2 : decide (most > 5000) = false := decide_eq_false cf2
    refine w_assoc (s_run (by simp only [runL, List.drop_succ_cons, List.drop_zero, awant_some, Option.getD_some, List.getElem?_toArray, List.getElem?_cons_succ, List.getElem?_cons_zero, Option.bind_some, b_tt, b_tf, b_ft, b_ff, Bool.not_true, Bool.not_false, List.take_succ_cons, List.take_zero, awant_none, astep, evl, put, ap_none, ap_new, ap_wr, List.length_nil, List.length_cons, Nat.add_zero, Nat.zero_add, upd_app, stepBin, abin, stepUn, stepPick, stepExtract, stepCall, if_true, if_false, reduceCtorEq, ↓reduceIte, Nat.reduceEqDiff, Nat.reduceAdd, List.map_cons, List.map_nil, Option.map_some, Option.map_none, Bool.false_eq_true, Int.reduceLE, Int.reduceToNat, ne_eq, not_false_eq_true, and_self, and_true, true_and, decide_true, decide_false, Int.reduceEq, Int.reduceLT, Int.reduceBEq, Int.reduceBNe, not_true_eq_false, undef, hlen, e1, e2, f1, f2] <;> rfl) ?_)
    refine s_false (by simp [evl, upd_app]) (s_skip ?_)
    exact rest _ (by simp [upd_app]) (by simp [upd_app]) (by simp [upd_app]) (by simp [upd_app]) cf1 cf2
end Go.Proofs.Ytahinegnblankaa
