import Derived.Test.YtahinegnblankaaP54
namespace Go.Proofs.Ytahinegnblankaa
open Go Abs
set_option linter.unusedSimpArgs false
set_option linter.unusedVariables false

theorem ints_cast (l : List Nat) : ints l = (l.map fun (b : Nat) => (b : Int)).map (Value.int .i64) := by simp

theorem src_intsI {g : Heap} {v : Value} {l : List Nat} (h : Src g v 1 (ints l).length (ints l)) : Src g v 1 (l.map fun (b : Nat) => (b : Int)).length ((l.map fun (b : Nat) => (b : Int)).map (Value.int .i64)) := by
  rw [← ints_cast]; simpa using h

theorem unpP_eq {o : Nat} {F : List Nat} {m k : Nat} : unpP o F m k = match symsO o F k with
    | none => none
    | some l => match rback (zs l) m [] 1 with
      | none => none
      | some p => if packB o (back p row0) = F then some (back p row0) else none := by
  unfold unpP symsO
  split <;> rfl

/-- What Unpack answers, for every order and bound. -/
def unpO (x most : Int) (F : List Nat) : Option (List Nat) := if (x = 0 ∨ x = 1) ∧ 0 ≤ most then unpP x.toNat F (min most.toNat 100000) (min most.toNat 100000 + 1) else none

set_option maxRecDepth 10000 in
theorem unpack_spec (v : Value) (F : List Nat) (x most : Int) (g : Heap) (j : Nat) (hl : F.length ≤ 2 ^ 37) (hF : ∀ x ∈ F, x < 256) (hv : Src g v 1 F.length (bs F)) : FnSpec Try.prog 61 [v, .int .i64 x, .int .i64 most] g (backE (unpO x most F) (srcBlk v) j) := by
  refine spec_of_body [6, 7] follows Try.func61 rfl (by kernel_rfl) (by simp [Try.f61]) (by kernel_rfl) rfl ?_
  intro g2 s2 n hg hfr hs hn hwf hsv
  rw [backE_fp] at hg
  have hv2 : Src g2 v 1 F.length (bs F) := hv.congr fun i hi => hg i hi
  have hdom : ∀ i ∈ srcBlk v, i < n := fun i hi => by
    obtain ⟨b, hb⟩ := Option.isSome_iff_exists.1 (hv2.dom i hi)
    exact hs i (hwf i b hb).1
  clear hg hfr hn hv
  have outNone : ∀ {t : Nat → Value} {g : Heap}, t 6 = .slice none 0 0 → t 7 = .bool false → Kp n g2 g → unpO x most F = none →
      ((Exit.ret = .normal ∨ Exit.ret = .ret) ∧ (([6, 7] : List Tmp).length ≠ 1 → ∀ r ∈ ([6, 7] : List Tmp), isTup (t r) = false) ∧ ∃ ids, Abs.Fin (backE (unpO x most F) (srcBlk v) j) ids s2 g2 n g (resVal [6, 7] t)) := by
    intro t g h4 h5 hk ho
    rw [ho]
    refine ⟨.inr rfl, fun _ r hr => ?_, [], fin_plain hs hwf hk ?_ (by intro c hc; simp at hc; rcases hc with rfl | rfl <;> trivial)⟩
    · simp at hr
      rcases hr with rfl | rfl
      · rw [h4]; rfl
      · rw [h5]; rfl
    · simp [resVal, h4, h5]
  refine s_run (by simp only [runL, awant_none, astep, evl, put, ap_none, List.length_nil, Nat.add_zero, undef] <;> rfl) ?_
  have hiso := isOrder_spec x g2
  by_cases hx : x = 0 ∨ x = 1
  case neg =>
    rw [decide_eq_false hx] at hiso
    refine w_assoc (s_take 1 (by simp only [runL, Option.getD_some, List.getElem?_cons_succ, List.getElem?_cons_zero, List.take_succ_cons, List.take_zero, awant_none, astep, evl, put, ap_none, List.length_nil, Nat.add_zero, upd_app, ↓reduceIte, Nat.reduceEqDiff] <;> rfl) ?_)
    refine ops_call 80 _ rfl hiso (by simp) ?_
    refine ops_run (by simp only [runL, awant_some, List.getElem?_toArray, List.getElem?_cons_succ, List.getElem?_cons_zero, Option.bind_some, b_tf, Bool.not_false, awant_none, astep, evl, put, ap_none, List.length_nil, Nat.add_zero, upd_app, stepUn, stepPick, ↓reduceIte, Nat.reduceEqDiff, undef] <;> rfl) ?_
    refine s_true (by simp [evl]) (w_assoc (s_run (by simp only [runL, awant_none, astep, evl, put, ap_none, List.length_nil, Nat.add_zero] <;> rfl) ?_))
    exact s_ret (outNone (by simp [upd_app]) (by simp []) (Kp.refl _ _) (if_neg (fun h => hx h.1)))
  rw [decide_eq_true hx] at hiso
  by_cases hm : most < 0
  · have d1 : decide (most < 0) = true := decide_eq_true hm
    refine w_assoc (s_take 1 (by simp only [runL, Option.getD_some, List.getElem?_cons_succ, List.getElem?_cons_zero, List.take_succ_cons, List.take_zero, awant_none, astep, evl, put, ap_none, List.length_nil, Nat.add_zero, upd_app, ↓reduceIte, Nat.reduceEqDiff] <;> rfl) ?_)
    refine ops_call 80 _ rfl hiso (by simp) ?_
    refine ops_run (by simp only [runL, awant_some, Option.getD_some, List.getElem?_toArray, List.getElem?_cons_succ, List.getElem?_cons_zero, Option.bind_some, b_ff, Bool.not_true, awant_none, astep, evl, put, ap_none, List.length_nil, Nat.add_zero, upd_app, stepBin, abin, stepUn, stepPick, ↓reduceIte, Nat.reduceEqDiff, Bool.false_eq_true, d1] <;> rfl) ?_
    refine s_true (by simp [evl]) (w_assoc (s_run (by simp only [runL, awant_none, astep, evl, put, ap_none, List.length_nil, Nat.add_zero] <;> rfl) ?_))
    exact s_ret (outNone (by simp [upd_app]) (by simp []) (Kp.refl _ _) (if_neg (fun h => by omega)))
  have d1 : decide (most < 0) = false := decide_eq_false hm
  refine w_assoc (s_take 1 (by simp only [runL, Option.getD_some, List.getElem?_cons_succ, List.getElem?_cons_zero, List.take_succ_cons, List.take_zero, awant_none, astep, evl, put, ap_none, List.length_nil, Nat.add_zero, upd_app, ↓reduceIte, Nat.reduceEqDiff] <;> rfl) ?_)
  refine ops_call 80 _ rfl hiso (by simp) ?_
  refine ops_run (by simp only [runL, awant_some, Option.getD_some, List.getElem?_toArray, List.getElem?_cons_succ, List.getElem?_cons_zero, Option.bind_some, b_ff, Bool.not_true, awant_none, astep, evl, put, ap_none, List.length_nil, Nat.add_zero, upd_app, stepBin, abin, stepUn, stepPick, ↓reduceIte, Nat.reduceEqDiff, Bool.false_eq_true, d1] <;> rfl) ?_
  refine s_false (by simp [evl]) (s_skip ?_)
  obtain ⟨o, ho, rfl⟩ : ∃ o : Nat, o ≤ 1 ∧ x = (o : Int) := ⟨x.toNat, by omega, by omega⟩
  obtain ⟨m, hmm⟩ : ∃ m, min most.toNat 100000 = m := ⟨_, rfl⟩
  have hm1 : m ≤ 100000 := by omega
  have hO : unpO (o : Int) most F = unpP o F m (m + 1) := by
    unfold unpO
    rw [if_pos ⟨hx, by omega⟩, Int.toNat_natCast, hmm]
  have hmin : stepMin (.int .i64 most) (.int .i64 100000) = some { v := .int .i64 (m : Nat) } := by
    show some ({ v := .int .i64 (if (100000 : Int) < most then 100000 else most) } : Eff) = _
    by_cases h : (100000 : Int) < most
    · rw [if_pos h, show (m : Int) = 100000 by omega]
    · rw [if_neg h, show (m : Int) = most by omega]
  rw [unpP_eq] at hO
  generalize unpO (o : Int) most F = O at *
  refine w_gen (fun t => t 0 = v ∧ t 1 = .int .i64 o ∧ t 2 = .int .i64 most) (by simp [upd_app]) ?_
  rintro t ⟨t0, t1, t2⟩
  refine s_run (by simp only [runL, awant_none, astep, evl, put, ap_none, List.length_nil, Nat.add_zero, upd_app, stepCall, ↓reduceIte, t2, hmin] <;> rfl) ?_
  refine w_gen (fun t => t 0 = v ∧ t 1 = .int .i64 o ∧ t 2 = .int .i64 m) (by simp [upd_app, t0, t1]) ?_
  clear t0 t1 t2
  rintro t ⟨t0, t1, t2⟩
  have hS := symbols_spec v F o m g2 n ho hl hF hm1 hv2
  refine s_take 3 (by simp only [runL, List.take_succ_cons, List.take_zero, awant_none, astep, evl, put, ap_none, List.length_nil, Nat.add_zero, upd_app, ↓reduceIte, Nat.reduceEqDiff, t0, t1, t2] <;> rfl) ?_
  cases hT : symsO o F (m + 1) with
  | none =>
    rw [hT] at hS hO
    refine ops_call 86 _ rfl hS (by intro h; exact (h rfl).elim) ?_
    refine ops_run (by simp only [runL, List.getElem?_toArray, List.getElem?_cons_succ, List.getElem?_cons_zero, awant_none, astep, evl, put, ap_none, List.length_nil, Nat.add_zero, upd_app, stepExtract, ↓reduceIte, Nat.reduceEqDiff, symE] <;> rfl) ?_
    refine w_gen (fun t => t 9 = .bool false) (by simp []) ?_
    clear t0 t1 t2
    rintro t t9
    refine w_assoc (s_run (by simp only [runL, Bool.not_false, awant_none, astep, evl, put, ap_none, List.length_nil, Nat.add_zero, upd_app, stepUn, ↓reduceIte, t9] <;> rfl) ?_)
    refine s_true (by simp [evl]) (w_assoc (s_run (by simp only [runL, awant_none, astep, evl, put, ap_none, List.length_nil, Nat.add_zero] <;> rfl) ?_))
    exact s_ret (outNone (by simp [upd_app]) (by simp []) (Kp.refl _ _) hO)
  | some L =>
    rw [hT] at hS hO
    dsimp only at hO
    have hLl : L.length ≤ m := by
      unfold symsO at hT
      split at hT
      · cases hT
      · have := dall_len hT
        omega
    obtain ⟨E, hE⟩ : ∃ E, symE (some L) (srcBlk v) n = E := ⟨_, rfl⟩
    obtain ⟨i4, hO4, hi4⟩ := newE_OwnI 3 (ints L) (srcBlk v) n g2
    have hEap : E.ap g2 = (newE 3 (ints L) (srcBlk v) n).ap g2 := by
      rw [← hE]
      show addAll (setAll g2 []) n _ = addAll (setAll g2 (newE 3 (ints L) (srcBlk v) n).w) (newE 3 (ints L) (srcBlk v) n).j _
      rw [newE_j, newE_w]
      rfl
    have hEv : E.v = .tuple #[(newE 3 (ints L) (srcBlk v) n).v, .bool true] := by rw [← hE]; rfl
    have hEa : E.a.length = (newE 3 (ints L) (srcBlk v) n).a.length := by rw [← hE]; rfl
    have hEj : E.j = n := by rw [← hE]; rfl
    have hEw : E.w = [] := by rw [← hE]; rfl
    rw [← hEap] at hO4
    rw [← hEa] at hi4
    rw [hE] at hS
    clear hEap hEa hE
    generalize (newE 3 (ints L) (srcBlk v) n).v = u at hO4 hEv
    refine ops_call 86 E rfl hS (fun _ => hEj) (ops_heap fun G1 hG1 => ops_num fun M1 hM1 => ?_)
    have hG1' : G1 = E.ap g2 := hG1
    have hM1' : M1 = n + E.a.length := hM1
    have k1 : Kp n g2 G1 := by rw [hG1']; exact kp_ap (Kp.refl _ _) hEw (fun _ => by rw [hEj]; exact Nat.le_refl _)
    rw [← hG1'] at hO4
    have hub : ∀ i ∈ srcBlk u, i < M1 := fun i hi => by
      rcases hO4 with ⟨_, e, _⟩ | ⟨k, e, e2, _⟩
      · rw [e] at hi; simp [srcBlk] at hi
      · have := hi4 k e
        rw [e2] at hi
        have := srcBlk_own (e := 1) i hi
        omega
    have s1 : Src G1 u 1 (zs L).length ((zs L).map (Value.int .i64)) := src_intsI hO4.toSrc
    refine ops_run (by simp only [runL, List.getElem?_toArray, List.getElem?_cons_succ, List.getElem?_cons_zero, awant_none, astep, evl, put, ap_none, List.length_nil, Nat.add_zero, upd_app, stepExtract, ↓reduceIte, Nat.reduceEqDiff, hEv] <;> rfl) ?_
    clear hO4 hi4 hG1 hM1
    refine w_gen (fun t => t 0 = v ∧ t 1 = .int .i64 o ∧ t 2 = .int .i64 m ∧ t 8 = u ∧ t 9 = .bool true) (by simp [upd_app, t0, t1, t2]) ?_
    clear t0 t1 t2
    rintro t ⟨t0, t1, t2, t8, t9⟩
    refine w_assoc (s_run (by simp only [runL, Bool.not_true, awant_none, astep, evl, put, ap_none, List.length_nil, Nat.add_zero, upd_app, stepUn, ↓reduceIte, t9] <;> rfl) ?_)
    refine s_false (by simp [evl]) (s_skip ?_)
    refine w_gen (fun t => t 0 = v ∧ t 1 = .int .i64 o ∧ t 2 = .int .i64 m ∧ t 8 = u) (by simp [upd_app, t0, t1, t2, t8]) ?_
    clear t0 t1 t2 t8 t9
    rintro t ⟨t0, t1, t2, t8⟩
    have hB := back_spec u (zs L) (m : Int) G1 M1 (by simp; omega) (by omega) s1
    rw [if_neg (show ¬ ((m : Nat) : Int) < 0 by omega), Int.toNat_natCast] at hB
    refine s_take 2 (by simp only [runL, List.take_succ_cons, List.take_zero, awant_none, astep, evl, put, ap_none, List.length_nil, Nat.add_zero, upd_app, ↓reduceIte, Nat.reduceEqDiff, t8, t2] <;> rfl) ?_
    cases hr : rback (zs L) m [] 1 with
    | none =>
      rw [hr] at hB hO
      refine ops_call 37 _ rfl hB (by intro h; exact (h rfl).elim) ?_
      refine ops_run (by simp only [runL, List.getElem?_toArray, List.getElem?_cons_succ, List.getElem?_cons_zero, awant_none, astep, evl, put, ap_none, List.length_nil, Nat.add_zero, upd_app, stepExtract, ↓reduceIte, Nat.reduceEqDiff, backE] <;> rfl) ?_
      refine w_gen (fun t => t 9 = .bool false) (by simp []) ?_
      clear t0 t1 t2 t8
      rintro t t9
      refine w_assoc (s_run (by simp only [runL, Bool.not_false, awant_none, astep, evl, put, ap_none, List.length_nil, Nat.add_zero, upd_app, stepUn, ↓reduceIte, t9] <;> rfl) ?_)
      refine s_true (by simp [evl]) (w_assoc (s_run (by simp only [runL, awant_none, astep, evl, put, ap_none, List.length_nil, Nat.add_zero] <;> rfl) ?_))
      exact s_ret (outNone (by simp [upd_app]) (by simp []) k1 hO)
    | some p =>
      rw [hr] at hB hO
      dsimp only at hO
      have hpl := rback_len hr (by simp)
      have hpb := rback_lt hr (by simp)
      have hMn : n ≤ M1 := by omega
      refine ops_call 37 _ rfl hB (by intro _; rfl) (ops_heap fun G2 hG2 => ?_)
      have k2 : Kp M1 G1 G2 := by rw [hG2]; exact kp_ap (Kp.refl _ _) (backE_w _ _ _) (fun _ => Nat.le_refl _)
      have b2 : G2 M1 = some ⟨false, 5, bs p⟩ := by rw [hG2]; simp [backE, ap_new]
      refine ops_run (by simp only [runL, List.getElem?_toArray, List.getElem?_cons_succ, List.getElem?_cons_zero, awant_none, astep, evl, put, ap_none, List.length_nil, List.length_cons, Nat.add_zero, Nat.zero_add, upd_app, stepExtract, ↓reduceIte, Nat.reduceEqDiff, backE] <;> rfl) ?_
      refine w_gen (fun t => t 0 = v ∧ t 1 = .int .i64 o ∧ t 9 = .bool true ∧ t 10 = .slice (some ⟨M1, 0, some p.length⟩) p.length 1) (by simp [upd_app, t0, t1]) ?_
      clear t0 t1 t2 t8
      rintro t ⟨t0, t1, t9, t10⟩
      refine w_assoc (s_run (by simp only [runL, Bool.not_true, awant_none, astep, evl, put, ap_none, List.length_nil, Nat.add_zero, upd_app, stepUn, ↓reduceIte, t9] <;> rfl) ?_)
      refine s_false (by simp [evl]) (s_skip ?_)
      refine w_gen (fun t => t 0 = v ∧ t 1 = .int .i64 o ∧ t 10 = .slice (some ⟨M1, 0, some p.length⟩) p.length 1) (by simp [upd_app, t0, t1, t10]) ?_
      clear t0 t1 t9 t10
      rintro t ⟨t0, t1, t10⟩
      refine s_take 1 (by simp only [runL, List.take_succ_cons, List.take_zero, awant_none, astep, evl, put, ap_none, List.length_nil, Nat.add_zero, t10] <;> rfl) ?_
      refine ops_call 27 _ rfl (fback_spec _ p G2 (M1 + 1) (by omega) hpb (src_bs b2 rfl)) (by intro _; rfl) (ops_heap fun G3 hG3 => ?_)
      have k3 : Kp (M1 + 1) G2 G3 := by rw [hG3]; exact kp_ap (Kp.refl _ _) rfl (fun _ => Nat.le_refl _)
      have hbl := back_len p row0
      have hbb := back_lt hpb full0
      have b3 : G3 (M1 + 1) = some ⟨false, 5, bs (back p row0)⟩ := by rw [hG3]; simp [ap_new]
      obtain ⟨b, hbe⟩ : ∃ b, back p row0 = b := ⟨_, rfl⟩
      rw [hbe] at hbl hbb b3 hO
      refine ops_run (by simp only [runL, awant_none, astep, evl, put, ap_none, List.length_nil, List.length_cons, Nat.add_zero, Nat.zero_add, upd_app, ↓reduceIte] <;> rfl) ?_
      refine w_gen (fun t => t 0 = v ∧ t 1 = .int .i64 o ∧ t 11 = .slice (some ⟨M1 + 1, 0, some b.length⟩) b.length 1) (by simp [upd_app, t0, t1, hbl]) ?_
      clear t0 t1 t10
      rintro t ⟨t0, t1, t11⟩
      refine w_assoc (s_take 2 (by simp only [runL, List.take_succ_cons, List.take_zero, awant_none, astep, evl, put, ap_none, List.length_nil, Nat.add_zero, upd_app, ↓reduceIte, Nat.reduceEqDiff, t11, t1] <;> rfl) ?_)
      refine ops_call 59 _ rfl (pack_spec _ b o G3 (M1 + 2) ho (by omega) hbb (src_bs b3 rfl)) (by intro _; rfl) (ops_heap fun G4 hG4 => ?_)
      have k4 : Kp (M1 + 2) G3 G4 := by rw [hG4]; exact kp_ap (Kp.refl _ _) rfl (fun _ => Nat.le_refl _)
      have b4 : G4 (M1 + 2) = some ⟨false, 5, bs (packB o b)⟩ := by rw [hG4]; exact packE_ap _ _ _ _
      refine ops_run (by simp only [runL, List.getElem?_toArray, List.getElem?_cons_succ, List.getElem?_cons_zero, awant_none, astep, evl, put, ap_none, List.length_nil, Nat.add_zero, upd_app, stepExtract, ↓reduceIte, Nat.reduceEqDiff, packE_v] <;> rfl) ?_
      obtain ⟨N, hN⟩ : ∃ N, packB o b = N := ⟨_, rfl⟩
      have hNb := packB_lt (o := o) hbb
      rw [hN] at b4 hO hNb
      rw [hN]
      refine w_gen (fun t => t 0 = v ∧ t 11 = .slice (some ⟨M1 + 1, 0, some b.length⟩) b.length 1 ∧ t 12 = .slice (some ⟨M1 + 2, 0, some N.length⟩) N.length 1) (by simp [upd_app, t0, t11]) ?_
      clear t0 t1 t11
      rintro t ⟨t0, t11, t12⟩
      have kk : Kp n g2 G4 := ((k1.trans k2 hMn).trans k3 (by omega)).trans k4 (by omega)
      have b34 : G4 (M1 + 1) = some ⟨false, 5, bs b⟩ := k4.at (by omega) b3
      have hq := equal_spec _ v N F G4 hNb hF (src_bs b4 rfl) (kk.src hv2 hdom)
      refine w_assoc (s_take 2 (by simp only [runL, List.take_succ_cons, List.take_zero, awant_none, astep, evl, put, ap_none, List.length_nil, Nat.add_zero, upd_app, reduceCtorEq, ↓reduceIte, t0, t12] <;> rfl) ?_)
      refine ops_call 87 _ rfl hq (by simp) ?_
      by_cases he : N = F
      · rw [decide_eq_true he]
        rw [if_pos he] at hO
        subst hO
        refine ops_run (by simp only [runL, Bool.not_true, awant_none, astep, evl, put, ap_none, List.length_nil, Nat.add_zero, upd_app, stepUn, ↓reduceIte] <;> rfl) ?_
        refine s_false (by simp [evl]) (s_skip ?_)
        refine w_gen (fun t => t 11 = .slice (some ⟨M1 + 1, 0, some b.length⟩) b.length 1) (by simp [upd_app, t11]) ?_
        clear t0 t11 t12
        rintro t t11
        refine s_run (by simp only [runL, awant_none, astep, evl, put, ap_none, List.length_nil, Nat.add_zero, upd_app, ↓reduceIte, t11] <;> rfl) ?_
        refine w_ret ⟨.inr rfl, by simp [upd_app, isTup], [M1 + 1], ?_⟩
        refine fin_one (by simp [resVal, upd_app, renT, renA, ren1]) (fun c hc => ?_) (by omega) b34 (fun c hc => plain_ints c hc) (fun i b hb => kk.at (hs i (hwf i b hb).1) hb)
        simp at hc
        rcases hc with rfl | rfl
        · exact .inr (.inr rfl)
        · trivial
      · rw [decide_eq_false he]
        rw [if_neg he] at hO
        refine ops_run (by simp only [runL, Bool.not_false, awant_none, astep, evl, put, ap_none, List.length_nil, Nat.add_zero, upd_app, stepUn, ↓reduceIte] <;> rfl) ?_
        refine s_true (by simp [evl]) (w_assoc (s_run (by simp only [runL, awant_none, astep, evl, put, ap_none, List.length_nil, Nat.add_zero] <;> rfl) ?_))
        exact s_ret (outNone (by simp [upd_app]) (by simp []) kk hO)

set_option maxRecDepth 10000 in
theorem packB_nil : (packB 0 []).length = 5 := by decide +kernel
theorem unpO_pack {o : Nat} {b : List Nat} {most : Nat} (ho : o ≤ 1) (hb : ∀ x ∈ b, x < 256) (hl : b.length ≤ 100000) (hm : b.length ≤ most) : unpO o most (packB o b) = some b := by
  unfold unpO
  rw [if_pos ⟨by omega, by omega⟩, Int.toNat_natCast, Int.toNat_natCast]
  exact unpP_pack hb (by omega) (by omega)

set_option maxRecDepth 10000 in
theorem pknown_spec (g : Heap) : FnSpec Try.prog 62 [] g { v := .bool true } := by
  refine spec_of_body [0] follows Try.func62 rfl (by kernel_rfl) (by simp [Try.f62]) (by kernel_rfl) rfl ?_
  intro g2 s2 n hg hfr hs hn hwf hsv
  refine s_run (by simp only [runL, awant_none, astep, evl, put, ap_none, List.length_nil, Nat.add_zero, undef] <;> rfl) ?_
  refine s_take 0 rfl ?_
  have hP := pack_spec (.slice none 0 0) [] 0 g2 n (by omega) (by simp) (by simp) (.inl ⟨rfl, rfl, rfl⟩)
  refine ops_call 59 _ rfl hP (by intro _; rfl) (ops_heap fun G1 hG1 => ?_)
  have k1 : Kp n g2 G1 := by rw [hG1]; exact kp_ap (Kp.refl _ _) rfl (fun _ => Nat.le_refl _)
  have b1 : G1 n = some ⟨false, 5, bs (packB 0 [])⟩ := by rw [hG1]; exact packE_ap _ _ _ _
  have hU := unpO_pack (o := 0) (b := []) (most := 0) (by omega) (by simp) (by simp) (by simp)
  have hNl := packB_nil
  have hNb := packB_lt (o := 0) (b := []) (by simp)
  refine ops_run (by simp only [runL, List.getElem?_toArray, List.getElem?_cons_succ, List.getElem?_cons_zero, awant_none, astep, evl, put, ap_none, List.length_nil, Nat.add_zero, upd_app, stepExtract, ↓reduceIte, Nat.reduceEqDiff, packE_v] <;> rfl) ?_
  generalize packB 0 [] = N at *
  refine w_gen (fun t => t 1 = .slice (some ⟨n, 0, some N.length⟩) N.length 1 ∧ t 2 = .bool true) (by simp [upd_app]) ?_
  rintro t ⟨t1, t2⟩
  have hS := unpack_spec (.slice (some ⟨n, 0, some N.length⟩) N.length 1) N 0 0 G1 (n + 1) (by omega) hNb (src_bs b1 rfl)
  have hU' : unpO 0 0 N = some [] := hU
  rw [hU'] at hS
  refine s_take 1 (by simp only [runL, List.take_succ_cons, List.take_zero, awant_none, astep, evl, put, ap_none, List.length_nil, Nat.add_zero, t1] <;> rfl) ?_
  refine ops_call 61 _ rfl hS (by intro _; rfl) (ops_heap fun G2 hG2 => ?_)
  have k2 : Kp n g2 G2 := by rw [hG2]; exact kp_ap k1 (backE_w _ _ _) (fun _ => by show n ≤ n + 1; omega)
  refine ops_run (by simp only [runL, List.getElem?_toArray, List.getElem?_cons_succ, List.getElem?_cons_zero, awant_none, astep, evl, put, ap_none, List.length_nil, List.length_cons, Nat.add_zero, Nat.zero_add, upd_app, stepExtract, ↓reduceIte, Nat.reduceEqDiff, List.map_nil, backE] <;> rfl) ?_
  refine w_gen (fun t => t 1 = .slice (some ⟨n, 0, some N.length⟩) N.length 1 ∧ t 2 = .bool true ∧ t 3 = .slice (some ⟨n + 1, 0, some 0⟩) 0 1 ∧ t 4 = .bool true) (by simp [upd_app, t1, t2]) ?_
  clear t1 t2
  rintro t ⟨t1, t2, t3, t4⟩
  have l1 := len24 n N.length (some N.length)
  rw [hNl] at l1 t1
  have l3 : stepLen Try.prog 24 (.slice (some ⟨n + 1, 0, some 0⟩) 0 1) = some { v := .int .i64 0 } := len24 (n + 1) 0 (some 0)
  have l1' : stepLen Try.prog 24 (.slice (some ⟨n, 0, some 5⟩) 5 1) = some { v := .int .i64 5 } := l1
  refine s_take 15 (by simp only [runL, awant_some, List.getElem?_toArray, List.getElem?_cons_succ, List.getElem?_cons_zero, Option.bind_some, b_tt, List.take_succ_cons, List.take_zero, awant_none, astep, evl, put, ap_none, List.length_nil, Nat.add_zero, upd_app, stepBin, abin, stepPick, stepCall, ↓reduceIte, Nat.reduceEqDiff, Int.reduceBEq, t1, t2, t3, t4, l1', l3] <;> rfl) ?_
  refine g_call 64 _ (by simp only [awant_some, List.getElem?_toArray, List.getElem?_cons_succ, List.getElem?_cons_zero, Option.bind_some, b_tt, upd_app, ↓reduceIte] <;> rfl) rfl (class_spec 5 G2) (by simp) ?_
  have c5 : clsI 5 = 1 := by decide
  have c257 : clsI 257 = 2 := by decide
  refine ops_take 3 (by simp only [runL, awant_some, List.getElem?_toArray, List.getElem?_cons_succ, List.getElem?_cons_zero, Option.bind_some, b_tt, List.take_succ_cons, List.take_zero, awant_none, astep, evl, put, ap_none, List.length_nil, Nat.add_zero, upd_app, stepBin, abin, stepPick, ↓reduceIte, Nat.reduceEqDiff, Int.reduceBEq, c5] <;> rfl) ?_
  refine g_call 64 _ (by simp only [awant_some, List.getElem?_toArray, List.getElem?_cons_succ, List.getElem?_cons_zero, Option.bind_some, b_tt, upd_app, ↓reduceIte] <;> rfl) rfl (class_spec 257 G2) (by simp) ?_
  refine ops_run (by simp only [runL, awant_some, List.getElem?_toArray, List.getElem?_cons_succ, List.getElem?_cons_zero, Option.bind_some, b_tt, awant_none, astep, evl, put, ap_none, List.length_nil, Nat.add_zero, upd_app, stepBin, abin, stepPick, ↓reduceIte, Nat.reduceEqDiff, Int.reduceBEq, c257] <;> rfl) ?_
  exact w_ret ⟨.inr rfl, by simp, [], fin_plain hs hwf k2 (by simp [resVal]) trivial⟩
end Go.Proofs.Ytahinegnblankaa
