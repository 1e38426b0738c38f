import Derived.Test.YtdpkhijbikbhnaaT8
namespace Go.Proofs.Ytdpkhijbikbhnaa
open Go Abs Plain
set_option linter.unusedSimpArgs false
set_option linter.unusedVariables false

def lcpOK (s : List Nat) (a h : List Int) : Bool := saB s a && decide (zs (lcpL s (nats a)) = h)
theorem lcpB_of {s : List Nat} {a : List Int} (h : saB s a = true) : lcpB s a = some (zs (lcpL s (nats a))) := by
  simp only [saB, Bool.and_eq_true, decide_eq_true_eq] at h
  rw [lcpB, if_pos ⟨h.1, h.2.1⟩]

set_option maxRecDepth 10000 in
theorem clcp_spec (v w u : Value) (s : List Nat) (a h : List Int) (g : Heap) (hl : s.length ≤ 2 ^ 38) (hla : a.length ≤ 2 ^ 38) (hlh : h.length ≤ 2 ^ 38) (hv : Src g v 1 s.length (bs s)) (hw : Src g w 1 a.length (intsI a)) (hu : Src g u 1 h.length (intsI h)) :
    FnSpec Try.prog 16 [v, w, u] g { v := .bool (lcpOK s a h), r := srcBlk v ++ srcBlk w ++ srcBlk u } := by
  refine spec_of_body [6] follows Try.func16 rfl (by kernel_rfl) (by simp [Try.f16]) (by kernel_rfl) rfl ?_
  intro g2 s2 n hg hfr hs hn hwf hsv
  have hv2 : Src g2 v 1 s.length (bs s) := hv.congr fun i hi => hg i (by simp [Eff.fp, hi])
  have hvd : ∀ i ∈ srcBlk v, i < n := dom_of hs hwf hv2
  have hw2 : Src g2 w 1 a.length (intsI a) := hw.congr fun i hi => hg i (by simp [Eff.fp, hi])
  have hwd : ∀ i ∈ srcBlk w, i < n := dom_of hs hwf hw2
  have hu2 : Src g2 u 1 h.length (intsI h) := hu.congr fun i hi => hg i (by simp [Eff.fp, hi])
  have hud : ∀ i ∈ srcBlk u, i < n := dom_of hs hwf hu2
  clear hg hfr hn hv hw hu
  refine s_run (by simp only [runL, awant_none, astep, evl, put, ap_none, List.length_nil, Nat.add_zero, undef] <;> rfl) ?_
  have hcall := lcp_spec v w s a g2 n hl hla hv2 hw2
  refine s_take 2 (by simp only [runL, Option.getD_some, List.getElem?_cons_succ, List.getElem?_cons_zero, List.take_succ_cons, List.take_zero, awant_none, astep, evl, put, ap_none, List.length_nil, Nat.add_zero, upd_app, reduceCtorEq, ↓reduceIte, Nat.reduceEqDiff] <;> rfl) ?_
  refine ops_call 12 _ rfl hcall (fun _ => okE_j _ _ _) ?_
  refine ops_heap fun G1 hG1 => ?_
  have k1 : Kp n g2 G1 := by rw [hG1]; exact kp_ap (Kp.refl _ _) (okE_w _ _ _) (fun _ => by rw [okE_j]; exact Nat.le_refl _)
  have hsa := sa_spec v w s a G1 hl hla (k1.src hv2 hvd) (k1.src hw2 hwd)
  by_cases hB : saB s a = true
  · have hO := lcpB_of hB
    rw [hO] at hG1 ⊢
    have b1 : G1 n = some ⟨false, 3, intsI (zs (lcpL s (nats a)))⟩ := by rw [hG1]; simp only [okE, ap_new]; simp []
    refine ops_run (by simp only [runL, List.getElem?_toArray, List.getElem?_cons_succ, List.getElem?_cons_zero, awant_none, astep, evl, put, ap_none, List.length_nil, List.length_cons, Nat.add_zero, Nat.zero_add, upd_app, stepExtract, ↓reduceIte, Nat.reduceEqDiff, okE] <;> rfl) ?_
    refine w_gen (fun t => t 0 = v ∧ t 1 = w ∧ t 2 = u ∧ t 7 = .slice (some ⟨n, 0, some (zs (lcpL s (nats a))).length⟩) (zs (lcpL s (nats a))).length 1) (by simp [upd_app]) ?_
    rintro t ⟨t0, t1, t2, t7⟩
    have hlen : (zs (lcpL s (nats a))).length = a.length := by simp [zs, lcpL_len, nats_len]
    have heq := equal_spec _ u (zs (lcpL s (nats a))) h G1 (by omega) (by omega) (src_intsI' b1 rfl) (k1.src hu2 hud)
    refine s_take 2 (by simp only [runL, List.take_succ_cons, List.take_zero, awant_none, astep, evl, put, ap_none, List.length_nil, Nat.add_zero, upd_app, ↓reduceIte, Nat.reduceEqDiff, t0, t1] <;> rfl) ?_
    refine ops_call 15 _ rfl (by simp only [upd_app, evl, List.map_cons, List.map_nil]; exact hsa) (fun h => (h rfl).elim) ?_
    rw [hB]
    refine ops_take 3 (by simp only [runL, awant_some, List.getElem?_toArray, List.getElem?_cons_succ, List.getElem?_cons_zero, Option.bind_some, b_tt, List.take_succ_cons, List.take_zero, awant_none, astep, evl, put, ap_none, List.length_nil, Nat.add_zero, upd_app, ↓reduceIte, Nat.reduceEqDiff, t2, t7] <;> rfl) ?_
    refine g_call 30 _ (by simp only [awant_some, List.getElem?_toArray, List.getElem?_cons_succ, List.getElem?_cons_zero, Option.bind_some, b_tt, upd_app, ↓reduceIte, Nat.reduceEqDiff] <;> rfl) rfl (by simp only [upd_app, evl, List.map_cons, List.map_nil]; exact heq) (fun h => (h rfl).elim) ?_
    refine ops_run (by simp only [runL, awant_none, astep, evl, put, ap_none, List.length_nil, Nat.add_zero, upd_app, stepPick, ↓reduceIte, Nat.reduceEqDiff] <;> rfl) ?_
    refine w_ret ⟨.inr rfl, by simp, [], fin_plain hs hwf k1 (by simp [resVal, lcpOK, hB]) trivial⟩
  · have hB' : saB s a = false := by simpa using hB
    have fin : ∀ t : Nat → Value, t 0 = v → t 1 = w → ∀ N, awp Try.prog (cr (cr (Try.f16.body.getD .skip))) (fun e t' g' _ => (e = .normal ∨ e = .ret) ∧ ([6].length ≠ 1 → ∀ r ∈ [6], isTup (t' r) = false) ∧ ∃ ids, Abs.Fin { v := .bool (lcpOK s a h), r := srcBlk v ++ srcBlk w ++ srcBlk u } ids s2 g2 n g' (resVal [6] t')) t G1 N := by
      intro t t0 t1 N
      show awp _ (.seq (.region _ _ _) .ret) _ _ _ _
      refine s_take 2 (by simp only [runL, List.take_succ_cons, List.take_zero, awant_none, astep, evl, put, ap_none, List.length_nil, Nat.add_zero, upd_app, ↓reduceIte, Nat.reduceEqDiff, t0, t1] <;> rfl) ?_
      refine ops_call 15 _ rfl (by simp only [upd_app, evl, List.map_cons, List.map_nil]; exact hsa) (fun h => (h rfl).elim) ?_
      rw [hB']
      refine ops_run (by simp only [runL, awant_some, List.getElem?_toArray, List.getElem?_cons_succ, List.getElem?_cons_zero, Option.bind_some, b_ft, awant_none, astep, evl, put, ap_none, List.length_nil, Nat.add_zero, upd_app, stepPick, ↓reduceIte, Nat.reduceEqDiff, Bool.false_eq_true, undef] <;> rfl) ?_
      refine w_ret ⟨.inr rfl, by simp, [], fin_plain hs hwf k1 (by simp [resVal, lcpOK, hB']) trivial⟩
    cases hO : lcpB s a with
    | none =>
      refine ops_run (by simp only [runL, List.getElem?_toArray, List.getElem?_cons_succ, List.getElem?_cons_zero, awant_none, astep, evl, put, ap_none, List.length_nil, Nat.add_zero, upd_app, stepExtract, ↓reduceIte, Nat.reduceEqDiff, okE] <;> rfl) ?_
      exact fin _ (by simp [upd_app]) (by simp [upd_app]) _
    | some l =>
      refine ops_run (by simp only [runL, List.getElem?_toArray, List.getElem?_cons_succ, List.getElem?_cons_zero, awant_none, astep, evl, put, ap_none, List.length_nil, List.length_cons, Nat.add_zero, Nat.zero_add, upd_app, stepExtract, ↓reduceIte, Nat.reduceEqDiff, okE] <;> rfl) ?_
      exact fin _ (by simp [upd_app]) (by simp [upd_app]) _

-- the document's
end Go.Proofs.Ytdpkhijbikbhnaa
