import Derived.Test.YtdpkhijbikbhnaaGreatT41
namespace Go.Proofs.YtdpkhijbikbhnaaGreat
open Go Abs Plain
set_option linter.unusedSimpArgs false
set_option linter.unusedVariables false

theorem beq_t (b : Bool) : (b == b) = true := by simp
set_option maxRecDepth 40000 in
theorem lawChecks_spec (v w u : Value) (s : List Nat) (a h : List Int) (g : Heap) (hb : ∀ x ∈ s, x < 256) (hv : Src g v 1 s.length (bs s)) (hw : Src g w 1 a.length (intsI a)) (hu : Src g u 1 h.length (intsI h)) :
    FnSpec Tryz.prog 3 [v, w, u] g { v := .bool true, r := srcBlk v ++ srcBlk w ++ srcBlk u } := by
  refine spec_of_body [6] follows Tryz.func3 rfl (by kernel_rfl) (by simp [Tryz.f3]) (by kernel_rfl) rfl ?_
  intro g2 s2 n hg hfr hs hn hwf hsv
  have hv2 : Src g2 v 1 s.length (bs s) := hv.congr fun i hi => hg i (by simp [Eff.fp, hi])
  have hvd : ∀ i ∈ srcBlk v, i < n := dom_of hs hwf hv2
  have hw2 : Src g2 w 1 a.length (intsI a) := hw.congr fun i hi => hg i (by simp [Eff.fp, hi])
  have hwd : ∀ i ∈ srcBlk w, i < n := dom_of hs hwf hw2
  have hu2 : Src g2 u 1 h.length (intsI h) := hu.congr fun i hi => hg i (by simp [Eff.fp, hi])
  have hud : ∀ i ∈ srcBlk u, i < n := dom_of hs hwf hu2
  have hlv := hv2.len Tryz.underlying22
  have hlw := hw2.len Tryz.underlying23
  have hlu := hu2.len Tryz.underlying23
  clear hg hfr hn hv hw hu
  refine s_run (by simp only [runL, awant_none, astep, evl, put, ap_none, List.length_nil, Nat.add_zero, undef] <;> rfl) ?_
  by_cases ea1 : (s.length : Int) > 100
  · have ed1 : (decide ((s.length : Int) > 100)) = true := decide_eq_true ea1
    refine w_assoc (s_run (by simp only [runL, awant_some, Option.getD_some, List.getElem?_toArray, List.getElem?_cons_succ, List.getElem?_cons_zero, Option.bind_some, b_tf, awant_none, astep, evl, put, ap_none, List.length_nil, Nat.add_zero, upd_app, stepBin, abin, stepPick, stepCall, reduceCtorEq, ↓reduceIte, Nat.reduceEqDiff, undef, hlv, ed1] <;> rfl) ?_)
    refine s_true (by simp [evl]) (w_assoc (s_run (by simp only [runL, awant_none, astep, evl, put, ap_none, List.length_nil, Nat.add_zero] <;> rfl) ?_))
    refine s_ret ⟨.inr rfl, by simp, [], fin_none ?_ trivial (fun _ _ h => h)⟩
    simp [resVal]
  have ed1 : (decide ((s.length : Int) > 100)) = false := decide_eq_false ea1
  by_cases ea2 : (a.length : Int) > 120
  · have ed2 : (decide ((a.length : Int) > 120)) = true := decide_eq_true ea2
    refine w_assoc (s_run (by simp only [runL, awant_some, Option.getD_some, List.getElem?_toArray, List.getElem?_cons_succ, List.getElem?_cons_zero, Option.bind_some, b_tf, b_ff, awant_none, astep, evl, put, ap_none, List.length_nil, Nat.add_zero, upd_app, stepBin, abin, stepPick, stepCall, reduceCtorEq, ↓reduceIte, Nat.reduceEqDiff, Bool.false_eq_true, undef, hlv, hlw, ed1, ed2] <;> rfl) ?_)
    refine s_true (by simp [evl]) (w_assoc (s_run (by simp only [runL, awant_none, astep, evl, put, ap_none, List.length_nil, Nat.add_zero] <;> rfl) ?_))
    refine s_ret ⟨.inr rfl, by simp, [], fin_none ?_ trivial (fun _ _ h => h)⟩
    simp [resVal]
  have ed2 : (decide ((a.length : Int) > 120)) = false := decide_eq_false ea2
  by_cases ea3 : (h.length : Int) > 120
  · have ed3 : (decide ((h.length : Int) > 120)) = true := decide_eq_true ea3
    refine w_assoc (s_run (by simp only [runL, awant_some, Option.getD_some, List.getElem?_toArray, List.getElem?_cons_succ, List.getElem?_cons_zero, Option.bind_some, b_ff, awant_none, astep, evl, put, ap_none, List.length_nil, Nat.add_zero, upd_app, stepBin, abin, stepPick, stepCall, reduceCtorEq, ↓reduceIte, Nat.reduceEqDiff, Bool.false_eq_true, hlv, hlw, hlu, ed1, ed2, ed3] <;> rfl) ?_)
    refine s_true (by simp [evl]) (w_assoc (s_run (by simp only [runL, awant_none, astep, evl, put, ap_none, List.length_nil, Nat.add_zero] <;> rfl) ?_))
    refine s_ret ⟨.inr rfl, by simp, [], fin_none ?_ trivial (fun _ _ h => h)⟩
    simp [resVal]
  have ed3 : (decide ((h.length : Int) > 120)) = false := decide_eq_false ea3
  refine w_assoc (s_run (by simp only [runL, awant_some, Option.getD_some, List.getElem?_toArray, List.getElem?_cons_succ, List.getElem?_cons_zero, Option.bind_some, b_ff, awant_none, astep, evl, put, ap_none, List.length_nil, Nat.add_zero, upd_app, stepBin, abin, stepPick, stepCall, reduceCtorEq, ↓reduceIte, Nat.reduceEqDiff, Bool.false_eq_true, hlv, hlw, hlu, ed1, ed2, ed3] <;> rfl) ?_)
  refine s_false (by simp [evl]) (s_skip ?_)
  have h1 := sa_spec v w s a g2 (by omega) (by omega) hv2 hw2
  have h2 := rsa_spec v w s a g2 (by omega) (by omega) hb hv2 hw2
  have h3 := clcp_spec v w u s a h g2 (by omega) (by omega) (by omega) hv2 hw2 hu2
  have h4 := rclcp_spec v w u s a h g2 (by omega) (by omega) (by omega) hb hv2 hw2 hu2
  refine s_take 2 (by simp only [runL, Option.getD_some, List.getElem?_cons_succ, List.getElem?_cons_zero, List.take_succ_cons, List.take_zero, awant_none, astep, evl, put, ap_none, List.length_nil, Nat.add_zero, upd_app, reduceCtorEq, ↓reduceIte, Nat.reduceEqDiff] <;> rfl) ?_
  refine ops_call 4 _ rfl (by simp only [upd_app, evl, List.map_cons, List.map_nil]; exact h1) (fun h => (h rfl).elim) ?_
  refine ops_take 2 (by simp only [runL, Option.getD_some, List.getElem?_cons_succ, List.getElem?_cons_zero, List.take_succ_cons, List.take_zero, awant_none, astep, evl, put, ap_none, List.length_nil, Nat.add_zero, upd_app, reduceCtorEq, ↓reduceIte, Nat.reduceEqDiff] <;> rfl) ?_
  refine ops_call 5 _ rfl (by simp only [upd_app, evl, List.map_cons, List.map_nil]; exact h2) (fun h => (h rfl).elim) ?_
  refine ops_take 5 (by simp only [runL, awant_some, Option.getD_some, List.getElem?_toArray, List.getElem?_cons_succ, List.getElem?_cons_zero, Option.bind_some, List.take_succ_cons, List.take_zero, awant_none, astep, evl, put, ap_none, List.length_nil, Nat.add_zero, upd_app, stepBin, abin, reduceCtorEq, ↓reduceIte, Nat.reduceEqDiff, Tryz.underlying4, beq_t] <;> rfl) ?_
  refine g_call 6 _ (by simp only [awant_some, List.getElem?_toArray, List.getElem?_cons_succ, List.getElem?_cons_zero, Option.bind_some, b_tt, upd_app, ↓reduceIte, Nat.reduceEqDiff] <;> rfl) rfl (by simp only [upd_app, evl, List.map_cons, List.map_nil]; exact h3) (fun h => (h rfl).elim) ?_
  refine ops_take 3 (by simp only [runL, awant_some, Option.getD_some, List.getElem?_toArray, List.getElem?_cons_succ, List.getElem?_cons_zero, Option.bind_some, b_tt, List.take_succ_cons, List.take_zero, astep, evl, put, ap_none, List.length_nil, Nat.add_zero, upd_app, reduceCtorEq, ↓reduceIte, Nat.reduceEqDiff] <;> rfl) ?_
  refine g_call 7 _ (by simp only [awant_some, List.getElem?_toArray, List.getElem?_cons_succ, List.getElem?_cons_zero, Option.bind_some, b_tt, upd_app, ↓reduceIte, Nat.reduceEqDiff] <;> rfl) rfl (by simp only [upd_app, evl, List.map_cons, List.map_nil]; exact h4) (fun h => (h rfl).elim) ?_
  refine ops_take 3 (by simp only [runL, awant_some, List.getElem?_toArray, List.getElem?_cons_succ, List.getElem?_cons_zero, Option.bind_some, List.take_succ_cons, List.take_zero, awant_none, astep, evl, put, ap_none, List.length_nil, Nat.add_zero, upd_app, stepBin, abin, stepPick, ↓reduceIte, Nat.reduceEqDiff, Tryz.underlying4, beq_t] <;> rfl) ?_
  refine g_call 8 _ (by simp only [awant_some, List.getElem?_toArray, List.getElem?_cons_succ, List.getElem?_cons_zero, Option.bind_some, b_tt, upd_app, ↓reduceIte] <;> rfl) rfl (by simp only [List.map_nil]; exact known_ok _) (fun h => (h rfl).elim) ?_
  refine ops_run (by simp only [runL, awant_none, astep, evl, put, ap_none, List.length_nil, Nat.add_zero, upd_app, stepPick, ↓reduceIte, Nat.reduceEqDiff] <;> rfl) ?_
  exact w_ret ⟨.inr rfl, by simp, [], fin_none (by simp [resVal]) trivial (fun _ _ h => h)⟩
end Go.Proofs.YtdpkhijbikbhnaaGreat
