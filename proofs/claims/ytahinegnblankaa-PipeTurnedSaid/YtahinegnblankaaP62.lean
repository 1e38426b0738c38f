import Derived.Test.YtahinegnblankaaP60
namespace Go.Proofs.Ytahinegnblankaa
open Go Abs
set_option linter.unusedSimpArgs false
set_option linter.unusedVariables false

/-- What both answer of an option: none is nil, some is its bytes. -/
theorem backE_two {O : Option (List Nat)} {r : List Nat} {j : Nat} (G : Heap) : ∃ u, (backE O r j).v = .tuple #[u, .bool O.isSome] ∧ Src ((backE O r j).ap G) u 1 (O.getD []).length (bs (O.getD [])) ∧ ∀ i ∈ srcBlk u, i = j ∧ (backE O r j).a.length = 1 := by
  cases O with
  | none => exact ⟨_, rfl, .inl ⟨rfl, rfl, rfl⟩, by simp [srcBlk]⟩
  | some l => exact ⟨_, rfl, src_bs (m := l.length) (k := j) (ro := false) (e := 5) (by simp [backE, ap_new]) rfl, fun i hi => ⟨srcBlk_own (e := 1) i hi, rfl⟩⟩
theorem rbackE_two {O : Option (List Nat)} {r : List Nat} {j : Nat} (G : Heap) : ∃ u, (rbackE O r j).v = .tuple #[u, .bool O.isSome] ∧ Src ((rbackE O r j).ap G) u 1 (O.getD []).length (bs (O.getD [])) := by
  cases O with
  | none => exact ⟨_, rfl, .inl ⟨rfl, rfl, rfl⟩⟩
  | some l =>
    refine ⟨_, rfl, ?_⟩
    have h := newE_src 5 (bs l) r j G
    have e : (rbackE (some l) r j).ap G = (newE 5 (bs l) r j).ap G := by
      show addAll (setAll G []) j _ = addAll (setAll G (newE 5 (bs l) r j).w) (newE 5 (bs l) r j).j _
      rw [newE_j, newE_w]
      rfl
    rw [e]
    simpa using h

set_option maxRecDepth 10000 in
theorem lawPUnp_spec (v : Value) (l : List Nat) (x most : Int) (g : Heap) (hb : ∀ x ∈ l, x < 256) (hv : Src g v 1 l.length (bs l)) : FnSpec Try.prog 20 [v, .int .i64 x, .int .i64 most] g { v := .bool true, r := srcBlk v } := by
  refine spec_of_body [6] follows Try.func20 rfl (by kernel_rfl) (by simp [Try.f20]) (by kernel_rfl) rfl ?_
  intro g2 s2 n hg hfr hs hn hwf hsv
  have hv2 : Src g2 v 1 l.length (bs l) := hv.congr fun i hi => hg i (by simp [Eff.fp, hi])
  have hlen := hv2.len Try.underlying24
  have hdom : ∀ i ∈ srcBlk v, i < n := fun i hi => by
    obtain ⟨b, hb⟩ := Option.isSome_iff_exists.1 (hv2.dom i hi)
    exact hs i (hwf i b hb).1
  clear hv hg hfr hn
  refine s_run (by simp only [runL, awant_none, astep, evl, put, ap_none, List.length_nil, Nat.add_zero, undef] <;> rfl) ?_
  by_cases ea1 : (l.length : Int) > 200
  · have ed1 : (decide ((l.length : Int) > 200)) = true := decide_eq_true ea1
    refine w_assoc (s_run (by simp only [runL, awant_some, Option.getD_some, List.getElem?_toArray, List.getElem?_cons_succ, List.getElem?_cons_zero, Option.bind_some, b_tf, awant_none, astep, evl, put, ap_none, List.length_nil, Nat.add_zero, upd_app, stepBin, abin, stepPick, stepCall, reduceCtorEq, ↓reduceIte, Nat.reduceEqDiff, undef, hlen, ed1] <;> rfl) ?_)
    refine s_true (by simp [evl]) (w_assoc (s_run (by simp only [runL, awant_none, astep, evl, put, ap_none, List.length_nil, Nat.add_zero] <;> rfl) ?_))
    refine s_ret ⟨.inr rfl, by simp, [], fin_none ?_ trivial (fun _ _ h => h)⟩
    simp [resVal]
  have ed1 : (decide ((l.length : Int) > 200)) = false := decide_eq_false ea1
  by_cases ea2 : most > 2000
  · have ed2 : (decide (most > 2000)) = true := decide_eq_true ea2
    refine w_assoc (s_run (by simp only [runL, awant_some, Option.getD_some, List.getElem?_toArray, List.getElem?_cons_succ, List.getElem?_cons_zero, Option.bind_some, b_ff, awant_none, astep, evl, put, ap_none, List.length_nil, Nat.add_zero, upd_app, stepBin, abin, stepPick, stepCall, reduceCtorEq, ↓reduceIte, Nat.reduceEqDiff, Bool.false_eq_true, hlen, ed1, ed2] <;> rfl) ?_)
    refine s_true (by simp [evl]) (w_assoc (s_run (by simp only [runL, awant_none, astep, evl, put, ap_none, List.length_nil, Nat.add_zero] <;> rfl) ?_))
    refine s_ret ⟨.inr rfl, by simp, [], fin_none ?_ trivial (fun _ _ h => h)⟩
    simp [resVal]
  have ed2 : (decide (most > 2000)) = false := decide_eq_false ea2
  refine w_assoc (s_run (by simp only [runL, awant_some, Option.getD_some, List.getElem?_toArray, List.getElem?_cons_succ, List.getElem?_cons_zero, Option.bind_some, b_ff, awant_none, astep, evl, put, ap_none, List.length_nil, Nat.add_zero, upd_app, stepBin, abin, stepPick, stepCall, reduceCtorEq, ↓reduceIte, Nat.reduceEqDiff, Bool.false_eq_true, hlen, ed1, ed2] <;> rfl) ?_)
  refine s_false (by simp [evl]) (s_skip ?_)
  refine w_gen (fun t => t 0 = v ∧ t 1 = .int .i64 x ∧ t 2 = .int .i64 most) (by simp [upd_app]) ?_
  rintro t ⟨t0, t1, t2⟩
  have kz : Kp n g2 (upd g2 n (some ⟨false, 5, []⟩)) := kp_upd (Kp.refl _ _) (Nat.le_refl _)
  have hO : OwnI 5 1 (upd g2 n (some ⟨false, 5, []⟩)) (.slice (some ⟨n, 0, some 0⟩) 0 1) 0 [] (some n) := .inr ⟨n, rfl, rfl, by simp, rfl⟩
  obtain ⟨f, i', hf, hO2, hi', hk⟩ := own_append (P := Try.prog) (n := n + 1) hO (kz.src hv2 hdom).cells (by simp) Try.underlying24 tinf5 (by omega) (by omega) (by omega)
  have hfa : f.a = [] := by
    rcases hi' with ⟨_, h⟩ | ⟨h, _⟩
    · exact h
    · cases h
  rw [List.nil_append, Nat.zero_add] at hO2
  refine s_take 5 (by simp only [runL, List.take_succ_cons, List.take_zero, awant_none, astep, evl, put, ap_none, ap_new, List.length_nil, List.length_cons, Nat.add_zero, Nat.zero_add, upd_app, stepCall, reduceCtorEq, ↓reduceIte, Nat.reduceEqDiff, List.map_nil, undef, t0, t1, t2, lit24_0, hf] <;> rfl) (ops_heap fun G1 hG1 => ops_num fun N1 hN1 => ?_)
  have hN1' : N1 = n + 1 := by rw [hN1, hfa]; rfl
  subst hN1'
  have hG1' : G1 = f.ap (upd g2 n (some ⟨false, 5, []⟩)) := hG1
  have k1 : Kp n g2 G1 := fun i hi => by rw [hG1', hk i (by omega) (fun e => by
    rcases hi' with ⟨h, _⟩ | ⟨h, _⟩
    · rw [h] at hO2; cases e; omega
    · cases h), upd_ne _ _ (by omega)]
  rw [← hG1'] at hO2
  have hcv : Src G1 f.v 1 l.length (bs l) := hO2.toSrc
  have hS := unpack_spec f.v l x most G1 (n + 1) (by omega) hb hcv
  obtain ⟨u, hu, hus, hub⟩ := backE_two (O := unpO x most l) (r := srcBlk f.v) (j := n + 1) G1
  have hEj := backE_j (unpO x most l) (srcBlk f.v) (n + 1)
  have hEw := backE_w (unpO x most l) (srcBlk f.v) (n + 1)
  have hR := fun G J s => runpack_spec v l x most G J (by omega) (by omega) hb s
  rw [unpR_eq (show most ≤ 100000 by omega)] at hR
  generalize unpO x most l = O at hS hu hus hub hEj hEw hR
  generalize backE O (srcBlk f.v) (n + 1) = E at hS hu hus hub hEj hEw
  refine ops_call 61 E rfl hS (fun _ => hEj) (ops_heap fun G2 hG2 => ops_num fun N2 hN2 => ?_)
  have hG2' : G2 = E.ap G1 := hG2
  have hN2' : N2 = n + 1 + E.a.length := hN2
  have k2 : Kp (n + 1) G1 G2 := by rw [hG2']; exact kp_ap (Kp.refl _ _) hEw (fun _ => by rw [hEj]; exact Nat.le_refl _)
  rw [← hG2'] at hus
  clear hG1 hG1' hG2 hG2' hN1 hN2 hO hO2 hi' hf hk
  have hkk : Kp n g2 G2 := k1.trans k2 (by omega)
  refine ops_run (by simp only [runL, List.getElem?_toArray, List.getElem?_cons_succ, List.getElem?_cons_zero, awant_none, astep, evl, put, ap_none, List.length_nil, Nat.add_zero, upd_app, stepExtract, ↓reduceIte, Nat.reduceEqDiff, hu] <;> rfl) ?_
  refine w_gen (fun t => t 0 = v ∧ t 1 = .int .i64 x ∧ t 2 = .int .i64 most ∧ t 7 = u ∧ t 8 = .bool O.isSome) (by simp [upd_app, t0, t1, t2]) ?_
  clear t0 t1 t2
  rintro t ⟨t0, t1, t2, t7, t8⟩
  obtain ⟨w, hw, hws⟩ := rbackE_two (O := O) (r := srcBlk v) (j := N2) G2
  have hFj := rbackE_j O (srcBlk v) N2
  have hFw := rbackE_w O (srcBlk v) N2
  have hR2 := hR G2 N2 (hkk.src hv2 hdom)
  generalize rbackE O (srcBlk v) N2 = E2 at hR2 hw hws hFj hFw
  refine s_take 3 (by simp only [runL, List.take_succ_cons, List.take_zero, awant_none, astep, evl, put, ap_none, List.length_nil, Nat.add_zero, upd_app, ↓reduceIte, Nat.reduceEqDiff, t0, t1, t2] <;> rfl) ?_
  refine ops_call 63 E2 rfl hR2 (fun _ => hFj) (ops_heap fun G3 hG3 => ?_)
  have hG3' : G3 = E2.ap G2 := hG3
  have k3 : Kp N2 G2 G3 := by rw [hG3']; exact kp_ap (Kp.refl _ _) hFw (fun _ => by rw [hFj]; exact Nat.le_refl _)
  rw [← hG3'] at hws
  clear hG3 hG3'
  have hus3 : Src G3 u 1 (O.getD []).length (bs (O.getD [])) := hus.congr fun i hi => k3 i (by have := hub i hi; omega)
  have kk : Kp n g2 G3 := hkk.trans k3 (by omega)
  refine ops_run (by simp only [runL, List.getElem?_toArray, List.getElem?_cons_succ, List.getElem?_cons_zero, awant_none, astep, evl, put, ap_none, List.length_nil, Nat.add_zero, upd_app, stepExtract, ↓reduceIte, Nat.reduceEqDiff, hw] <;> rfl) ?_
  refine w_gen (fun t => t 7 = u ∧ t 8 = .bool O.isSome ∧ t 9 = w ∧ t 10 = .bool O.isSome) (by simp [upd_app, t7, t8]) ?_
  clear t0 t1 t2 t7 t8
  rintro t ⟨t7, t8, t9, t10⟩
  obtain ⟨ra, sa, _⟩ := src_str hus3
  obtain ⟨rb, sb, _⟩ := src_str hws
  have e1 : ((nstr (O.getD [])).toList == (nstr (O.getD [])).toList) = true := beq_self_eq_true _
  have e2 : (O.isSome == O.isSome) = true := beq_self_eq_true _
  refine s_take 11 (by simp only [runL, awant_some, List.getElem?_toArray, List.getElem?_cons_succ, List.getElem?_cons_zero, Option.bind_some, b_tt, List.take_succ_cons, List.take_zero, awant_none, astep, evl, put, ap_none, List.length_nil, Nat.add_zero, upd_app, stepBin, abin, stepPick, ↓reduceIte, Nat.reduceEqDiff, t7, t8, t9, t10, Try.underlying4, sa, sb, e1, e2] <;> rfl) ?_
  refine g_call 62 _ (by simp only [awant_some, List.getElem?_toArray, List.getElem?_cons_succ, List.getElem?_cons_zero, Option.bind_some, b_tt, upd_app, ↓reduceIte] <;> rfl) rfl (pknown_spec G3) (by simp) ?_
  refine ops_run (by simp only [runL, awant_none, astep, evl, put, ap_none, List.length_nil, Nat.add_zero, upd_app, stepPick, ↓reduceIte, Nat.reduceEqDiff] <;> rfl) ?_
  exact w_ret ⟨.inr rfl, by simp, [], fin_plain hs hwf kk (by simp [resVal]) trivial⟩
end Go.Proofs.Ytahinegnblankaa
