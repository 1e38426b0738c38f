import Derived.Test.YtahinegnblankaaP59
namespace Go.Proofs.Ytahinegnblankaa
open Go Abs
set_option linter.unusedSimpArgs false
set_option linter.unusedVariables false

/-- What the document's Unpack answers, for every order and bound. -/
def unpR (x most : Int) (F : List Nat) : Option (List Nat) := if (x = 0 ∨ x = 1) ∧ 0 ≤ most then unpP x.toNat F most.toNat (2 * most.toNat + 3) else none
theorem unpR_eq {x most : Int} {F : List Nat} (h : most ≤ 100000) : unpR x most F = unpO x most F := by
  unfold unpR unpO
  split
  · rename_i h1
    rw [Nat.min_eq_left (by omega)]
    exact unpP_fuel (by omega)
  · rfl

def rsymm (m : Nat) (t : Nat → Value) : Nat := match t 11 with
  | .slice _ k _ => 2 * m + 6 - k
  | _ => 0
theorem rsymm_t {m : Nat} {t : Nat → Value} {g : Heap} {l : List Value} {n n' : Nat} (h : Own 3 g (t 11) l n n') : rsymm m t = 2 * m + 6 - l.length := by
  obtain ⟨a, k, e⟩ := own_sl h
  simp [rsymm, e]

set_option maxRecDepth 10000 in
theorem runpack_spec (v : Value) (F : List Nat) (x most : Int) (g : Heap) (j : Nat) (hl : F.length ≤ 2 ^ 37) (hmost : most ≤ 100000) (hF : ∀ x ∈ F, x < 256) (hv : Src g v 1 F.length (bs F)) : FnSpec Try.prog 63 [v, .int .i64 x, .int .i64 most] g (rbackE (unpR x most F) (srcBlk v) j) := by
  refine spec_of_body [6, 7] follows Try.func63 rfl (by kernel_rfl) (by simp [Try.f63]) (by kernel_rfl) rfl ?_
  intro g2 s2 n hg hfr hs hn hwf hsv
  rw [rbackE_fp] at hg
  have hv2 : Src g2 v 1 F.length (bs F) := hv.congr fun i hi => hg i hi
  have hdom : ∀ i ∈ srcBlk v, i < n := fun i hi => by
    obtain ⟨b, hb⟩ := Option.isSome_iff_exists.1 (hv2.dom i hi)
    exact hs i (hwf i b hb).1
  clear hg hfr hn hv
  have outNone : ∀ {t : Nat → Value} {g : Heap}, t 6 = .slice none 0 0 → t 7 = .bool false → Kp n g2 g → unpR x most F = none →
      ((Exit.ret = .normal ∨ Exit.ret = .ret) ∧ (([6, 7] : List Tmp).length ≠ 1 → ∀ r ∈ ([6, 7] : List Tmp), isTup (t r) = false) ∧ ∃ ids, Abs.Fin (rbackE (unpR x most F) (srcBlk v) j) ids s2 g2 n g (resVal [6, 7] t)) := by
    intro t g h4 h5 hk ho
    rw [ho]
    refine ⟨.inr rfl, fun _ r hr => ?_, [], fin_plain hs hwf hk ?_ (by intro c hc; simp at hc; rcases hc with rfl | rfl <;> trivial)⟩
    · simp at hr
      rcases hr with rfl | rfl
      · rw [h4]; rfl
      · rw [h5]; rfl
    · simp [resVal, h4, h5]
  refine s_run (by simp only [runL, awant_none, astep, evl, put, ap_none, List.length_nil, Nat.add_zero, undef] <;> rfl) ?_
  by_cases h4 : F.length < 4
  · have hO : unpR x most F = none := by
      have hP : ∀ a b c, unpP a F b c = none := fun _ _ _ => if_pos h4
      unfold unpR
      rw [hP]
      split <;> rfl
    refine s_take 1 (by simp only [runL, Option.getD_some, List.getElem?_cons_zero, List.take_succ_cons, List.take_zero, awant_none, astep, evl, put, ap_none, List.length_nil, Nat.add_zero, upd_app, reduceCtorEq, ↓reduceIte] <;> rfl) ?_
    refine ops_call 53 _ rfl (rnewRd_no v F g2 h4 hv2) (by simp) ?_
    refine ops_run (by simp only [runL, List.getElem?_toArray, List.getElem?_cons_succ, List.getElem?_cons_zero, awant_none, astep, evl, put, ap_none, List.length_nil, Nat.add_zero, upd_app, stepExtract, ↓reduceIte, Nat.reduceEqDiff] <;> rfl) ?_
    refine w_gen (fun t => t 9 = .bool false) (by simp []) ?_
    rintro t t9
    refine w_assoc (s_run (by simp only [runL, awant_some, List.getElem?_toArray, List.getElem?_cons_succ, List.getElem?_cons_zero, Option.bind_some, b_tf, Bool.not_false, awant_none, astep, evl, put, ap_none, List.length_nil, Nat.add_zero, upd_app, stepUn, stepPick, ↓reduceIte, Nat.reduceEqDiff, undef, t9] <;> rfl) ?_)
    refine s_true (by simp [evl]) (w_assoc (s_run (by simp only [runL, awant_none, astep, evl, put, ap_none, List.length_nil, Nat.add_zero] <;> rfl) ?_))
    exact s_ret (outNone (by simp [upd_app]) (by simp []) (Kp.refl _ _) hO)
  have h4' : 4 ≤ F.length := by omega
  refine s_take 1 (by simp only [runL, Option.getD_some, List.getElem?_cons_zero, List.take_succ_cons, List.take_zero, awant_none, astep, evl, put, ap_none, List.length_nil, Nat.add_zero, upd_app, reduceCtorEq, ↓reduceIte] <;> rfl) ?_
  refine ops_call 53 _ rfl (rnewRd_yes v F g2 n h4' hF hv2) (by intro _; rfl) (ops_heap fun G1 hG1 => ?_)
  have k1 : Kp n g2 G1 := by rw [hG1]; exact kp_ap (Kp.refl _ _) rfl (fun _ => Nat.le_refl _)
  have R1 : Rd 70 n v F 4 (be (F.take 4)) 4294967295 G1 := by rw [hG1]; exact rnewRdE_ap' hv2 hdom
  refine ops_run (by simp only [runL, List.getElem?_toArray, List.getElem?_cons_succ, List.getElem?_cons_zero, awant_none, astep, evl, put, ap_none, List.length_nil, Nat.add_zero, upd_app, stepExtract, ↓reduceIte, Nat.reduceEqDiff, rnewRdE_v'] <;> rfl) ?_
  refine w_gen (fun t => t 0 = v ∧ t 1 = .int .i64 x ∧ t 2 = .int .i64 most ∧ t 8 = ptr4 n ∧ t 9 = .bool true) (by simp [upd_app]) ?_
  rintro t ⟨t0, t1, t2, t8, t9⟩
  by_cases hx0 : x < 0
  · have d0 : decide (x < 0) = true := decide_eq_true hx0
    refine w_assoc (s_run (by simp only [runL, awant_some, List.getElem?_toArray, List.getElem?_cons_succ, List.getElem?_cons_zero, Option.bind_some, b_tf, b_ff, Bool.not_true, awant_none, astep, evl, put, ap_none, List.length_nil, Nat.add_zero, upd_app, stepBin, abin, stepUn, stepPick, ↓reduceIte, Nat.reduceEqDiff, Bool.false_eq_true, undef, t9, t1, d0] <;> rfl) ?_)
    refine s_true (by simp [evl]) (w_assoc (s_run (by simp only [runL, awant_none, astep, evl, put, ap_none, List.length_nil, Nat.add_zero] <;> rfl) ?_))
    exact s_ret (outNone (by simp [upd_app]) (by simp []) k1 (if_neg (fun h => by omega)))
  have d0 : decide (x < 0) = false := decide_eq_false hx0
  by_cases hx1 : x > 1
  · have d1 : decide (x > 1) = true := decide_eq_true hx1
    refine w_assoc (s_run (by simp only [runL, awant_some, List.getElem?_toArray, List.getElem?_cons_succ, List.getElem?_cons_zero, Option.bind_some, b_tf, b_ff, Bool.not_true, awant_none, astep, evl, put, ap_none, List.length_nil, Nat.add_zero, upd_app, stepBin, abin, stepUn, stepPick, ↓reduceIte, Nat.reduceEqDiff, Bool.false_eq_true, undef, t9, t1, d0, d1] <;> rfl) ?_)
    refine s_true (by simp [evl]) (w_assoc (s_run (by simp only [runL, awant_none, astep, evl, put, ap_none, List.length_nil, Nat.add_zero] <;> rfl) ?_))
    exact s_ret (outNone (by simp [upd_app]) (by simp []) k1 (if_neg (fun h => by omega)))
  have d1 : decide (x > 1) = false := decide_eq_false hx1
  by_cases hm0 : most < 0
  · have d2 : decide (most < 0) = true := decide_eq_true hm0
    refine w_assoc (s_run (by simp only [runL, awant_some, List.getElem?_toArray, List.getElem?_cons_succ, List.getElem?_cons_zero, Option.bind_some, b_ff, Bool.not_true, awant_none, astep, evl, put, ap_none, List.length_nil, Nat.add_zero, upd_app, stepBin, abin, stepUn, stepPick, ↓reduceIte, Nat.reduceEqDiff, Bool.false_eq_true, t9, t1, t2, d0, d1, d2] <;> rfl) ?_)
    refine s_true (by simp [evl]) (w_assoc (s_run (by simp only [runL, awant_none, astep, evl, put, ap_none, List.length_nil, Nat.add_zero] <;> rfl) ?_))
    exact s_ret (outNone (by simp [upd_app]) (by simp []) k1 (if_neg (fun h => by omega)))
  have d2 : decide (most < 0) = false := decide_eq_false hm0
  refine w_assoc (s_run (by simp only [runL, awant_some, List.getElem?_toArray, List.getElem?_cons_succ, List.getElem?_cons_zero, Option.bind_some, b_ff, Bool.not_true, awant_none, astep, evl, put, ap_none, List.length_nil, Nat.add_zero, upd_app, stepBin, abin, stepUn, stepPick, ↓reduceIte, Nat.reduceEqDiff, Bool.false_eq_true, t9, t1, t2, d0, d1, d2] <;> rfl) ?_)
  refine s_false (by simp [evl]) (s_skip ?_)
  obtain ⟨o, ho, rfl⟩ : ∃ o : Nat, o ≤ 1 ∧ x = (o : Int) := ⟨x.toNat, by omega, by omega⟩
  obtain ⟨m, rfl⟩ : ∃ m : Nat, most = (m : Int) := ⟨most.toNat, by omega⟩
  have hm1 : m ≤ 100000 := by omega
  have hO : unpR (o : Int) (m : Int) F = match dall o F (2 * m + 3) (ds0 F) with
      | none => none
      | some l => match rback (zs l) m [] 1 with
        | none => none
        | some p => if packB o (back p row0) = F then some (back p row0) else none := by
    unfold unpR
    rw [if_pos ⟨by omega, by omega⟩, Int.toNat_natCast, Int.toNat_natCast, unpP, if_neg h4]
    rfl
  generalize unpR (o : Int) (m : Int) F = O at *
  obtain ⟨T, hT0⟩ : ∃ T, T = dall o F (2 * m + 3) (ds0 F) := ⟨_, rfl⟩
  rw [← hT0] at hO
  refine w_gen (fun t => t 0 = v ∧ t 1 = .int .i64 o ∧ t 2 = .int .i64 m ∧ t 8 = ptr4 n) (by simp [upd_app, t0, t1, t2, t8]) ?_
  clear t0 t1 t2 t8 t9
  rintro t ⟨t0, t1, t2, t8⟩
  refine s_take 0 rfl ?_
  refine ops_call 84 _ rfl (rmod_spec G1 (n + 1)) (by intro _; rfl) (ops_heap fun G2 hG2 => ?_)
  have M2 : Rs (n + 1) (fun _ => ones 258) G2 := by rw [hG2]; exact rmodE_ap (n + 1) G1
  have k2 : Kp (n + 1) G1 G2 := by rw [hG2]; exact kp_ap (Kp.refl _ _) rfl (fun _ => Nat.le_refl _)
  have R2 : Rd 70 n v F 4 (be (F.take 4)) 4294967295 G2 := R1.congr (k2 _ (by omega)) (fun i hi => k2 i (by have := hdom i hi; omega))
  have kg : Kp n g2 G2 := k1.trans k2 (by omega)
  refine ops_run (by simp only [runL, awant_none, astep, evl, put, ap_none, List.length_nil, Nat.add_zero, upd_app, ↓reduceIte, rmodE_v] <;> rfl) ?_
  refine w_gen (fun t => t 0 = v ∧ t 1 = .int .i64 o ∧ t 2 = .int .i64 m ∧ t 8 = ptr4 n ∧ t 10 = .slice (some ⟨n + 1 + 6, 0, some 3⟩) 3 1) (by simp [upd_app, t0, t1, t2, t8]) ?_
  clear t0 t1 t2 t8
  rintro t ⟨t0, t1, t2, t8, t10⟩
  refine s_run (by simp only [runL, awant_none, astep, evl, put, ap_none, List.length_nil, Nat.add_zero] <;> rfl) ?_
  refine s_run (by simp only [runL, awant_none, astep, evl, put, ap_none, List.length_nil, Nat.add_zero] <;> rfl) ?_
  refine s_block (fun t g n' => t 0 = v ∧ t 1 = .int .i64 o ∧ t 2 = .int .i64 m ∧ Kp n g2 g ∧ n + 8 ≤ n' ∧ ∃ pre, Own 3 g (t 11) (ints (pre ++ [257])) (n + 8) n' ∧ T = some pre ∧ pre.length ≤ 2 * m + 3) ?_ ?_
  · refine w_loop (fun t g n' => t 0 = v ∧ t 1 = .int .i64 o ∧ t 2 = .int .i64 m ∧ Kp n g2 g ∧ n + 8 ≤ n' ∧ ((t 12 = .int .i64 257 ∧ ∃ pre, Own 3 g (t 11) (ints (pre ++ [257])) (n + 8) n' ∧ T = some pre ∧ pre.length ≤ 2 * m + 3) ∨ (t 8 = ptr4 n ∧ t 10 = .slice (some ⟨n + 1 + 6, 0, some 3⟩) 3 1 ∧ ∃ (d : DS) (pre : List Nat), d.last ≠ 257 ∧ t 12 = .int .i64 (d.last : Nat) ∧ Own 3 g (t 11) (ints pre) (n + 8) n' ∧ Rd 70 n v F d.u d.c d.r g ∧ Rs (n + 1) d.ms g ∧ DG F d ∧ pre.length ≤ 2 * m + 3 ∧ T = (dall o F (2 * m + 3 - pre.length) d).map (pre ++ ·))))
      (fun t _ _ => rsymm m t) ⟨by simp [upd_app, t0], by simp [upd_app, t1], by simp [upd_app, t2], kg, by show n + 8 ≤ n + 1 + 7; omega, .inr ⟨by simp [upd_app, t8], by simp [upd_app, t10], ds0 F, [], by show (0 : Nat) ≠ 257; omega, by simp []; rfl, by simp only [upd_app]; exact Own.nil _ _ _ _, R2, M2, DG.start hF h4', by simp, by rw [hT0]; simp⟩⟩ ?_
    clear t0 t1 t2 t8 t10 kg R2 M2 k2 R1 k1
    rintro t g n' ⟨t0, t1, t2, hkp, hn', ⟨t12, pre, hO', hT, hpl⟩ | ⟨t8, t10, d, pre, hlast, t12, hOw, hR, hMs, hDG, hpl, hT⟩⟩
    · have e0 : ((257 : Int) != 257) = false := rfl
      refine w_assoc (s_run (by simp only [runL, awant_none, astep, evl, put, ap_none, List.length_nil, Nat.add_zero, upd_app, stepBin, abin, ↓reduceIte, t12, e0] <;> rfl) ?_)
      refine s_false (by simp [evl]) (s_exit ?_)
      exact ⟨by simp [upd_app, t0], by simp [upd_app, t1], by simp [upd_app, t2], hkp, hn', pre, by simpa [upd_app] using hO', hT, hpl⟩
    have e0 : (((d.last : Nat) : Int) != 257) = true := ine_t (by omega)
    refine w_assoc (s_run (by simp only [runL, awant_none, astep, evl, put, ap_none, List.length_nil, Nat.add_zero, upd_app, stepBin, abin, ↓reduceIte, t12, e0] <;> rfl) ?_)
    refine s_true (by simp [evl]) (s_skip (w_block ?_))
    have hμ : rsymm m t = 2 * m + 6 - pre.length := by
      have := rsymm_t (m := m) hOw
      simpa using this
    rw [hμ]
    clear hμ hT0
    obtain ⟨lv, hlv⟩ : ∃ lv, t 11 = lv := ⟨_, rfl⟩
    rw [hlv] at hOw
    refine w_gen (fun t => t 0 = v ∧ t 1 = .int .i64 o ∧ t 2 = .int .i64 m ∧ t 8 = ptr4 n ∧ t 10 = .slice (some ⟨n + 1 + 6, 0, some 3⟩) 3 1 ∧ t 11 = lv ∧ t 12 = .int .i64 (d.last : Nat)) (by simp [upd_app, t0, t1, t2, t8, t10, t12, hlv]) ?_
    clear t0 t1 t2 t8 t10 t12 hlv
    rintro t ⟨t0, t1, t2, t8, t10, t11, t12⟩
    refine rsym_round (p := n) (A := n + 1) (B := n + 8) (m := m) t1 t2 t8 t10 t11 t12 ho hm1 hF (by omega) hOw hR hMs hDG (by omega) (by omega) (by omega) hn' (fun hor t' g' h6 h7 hf => ?_) (fun hD hle t' g' n'' e0 e1 e2 e8 e10 e12 hnn hO2 hR2 hM2 hf => ?_) (fun i hi => by have := hdom i hi; omega)
    · have hTn : T = none := by
        rw [hT]
        rcases hor with h | h
        · cases hk : 2 * m + 3 - pre.length with
          | zero => rfl
          | succ k => rw [dall, h]; rfl
        · rw [show 2 * m + 3 - pre.length = 0 by omega]; rfl
      rw [hTn] at hO
      exact outNone h6 h7 (fun i hi => by rw [hf i (by omega), hkp i hi]) hO
    · have hTs : T = (if dsx o d = 257 then some [] else (dall o F (2 * m + 2 - pre.length) (dsN o F d)).map (dsx o d :: ·)).map (pre ++ ·) := by
        rw [hT, show 2 * m + 3 - pre.length = (2 * m + 2 - pre.length) + 1 by omega, dall, hD]
        rfl
      have hkg : Kp n g2 g' := fun i hi => by rw [hf i (by omega) (by omega) (by omega), hkp i hi]
      refine ⟨⟨by rw [e0]; exact t0, e1, e2, hkg, by omega, ?_⟩, ?_⟩
      · by_cases hx : dsx o d = 257
        · rw [hx] at hO2 e12
          rw [if_pos hx] at hTs
          exact .inl ⟨e12, pre, hO2, by rw [hTs]; simp, hpl⟩
        · rw [if_neg hx] at hTs
          refine .inr ⟨e8, e10, dsN o F d, pre ++ [dsx o d], hx, e12, hO2, hR2, hM2, hDG.next hF hD, by simp; omega, ?_⟩
          rw [hTs, List.length_append, List.length_singleton, show 2 * m + 3 - (pre.length + 1) = 2 * m + 2 - pre.length by omega]
          cases dall o F (2 * m + 2 - pre.length) (dsN o F d) <;> simp
      · rw [rsymm_t hO2]
        simp
        omega
  · clear t0 t1 t2 t8 t10 kg R2 M2 k2 R1 k1
    rintro t g n' ⟨t0, t1, t2, hkp, hn', pre, hOw, hT, hpl⟩
    rw [hT] at hO
    dsimp only at hO
    obtain ⟨lv, hlv⟩ : ∃ lv, t 11 = lv := ⟨_, rfl⟩
    rw [hlv] at hOw
    have hsrc := hOw.src
    have hlen : stepLen Try.prog 22 lv = some { v := .int .i64 ((pre.length + 1 : Nat) : Int) } := by
      have := hsrc.len (P := Try.prog) Try.underlying22
      simpa using this
    have hw1 : IntKind.i64.wrap (((pre.length + 1 : Nat) : Int) - 1) = ((pre.length : Nat) : Int) := by rw [show ((pre.length + 1 : Nat) : Int) - 1 = ((pre.length : Nat) : Int) by omega, wrap_nat (by omega)]
    obtain ⟨c1, c2, c3, _⟩ := src_slV (P := Try.prog) hsrc Try.underlying22 tsize3 none (some (.int .i64 ((pre.length : Nat) : Int))) 0 pre.length rfl rfl (by omega) (by simp)
    have hpt : ((ints (pre ++ [257])).drop 0).take (pre.length - 0) = ints pre := by simp
    rw [hpt, Nat.sub_zero] at c2
    have c2' : Src g (slV lv 0 pre.length) 1 (zs pre).length ((zs pre).map (Value.int .i64)) := src_intsI (by simpa using c2)
    have hubd : ∀ i ∈ srcBlk (slV lv 0 pre.length), i < n' := fun i hi => by have := hOw.blk i (c3 i hi); omega
    generalize slV lv 0 pre.length = u at c1 c2 c2' c3 hubd
    have hB := refback_spec u (zs pre) (m : Int) g n' (by simp; omega) (by omega) c2'
    rw [if_neg (show ¬ ((m : Nat) : Int) < 0 by omega), Int.toNat_natCast] at hB
    refine s_take 6 (by simp only [runL, List.take_succ_cons, List.take_zero, awant_none, astep, evl, put, ap_none, List.length_nil, Nat.add_zero, upd_app, stepBin, abin, stepCall, ↓reduceIte, Nat.reduceEqDiff, Option.map_some, Option.map_none, hlv, hlen, hw1, c1, t2] <;> rfl) ?_
    cases hr : rback (zs pre) m [] 1 with
    | none =>
      rw [hr] at hB hO
      refine ops_call 40 _ rfl hB (by intro h; exact (h rfl).elim) ?_
      refine ops_run (by simp only [runL, List.getElem?_toArray, List.getElem?_cons_succ, List.getElem?_cons_zero, awant_none, astep, evl, put, ap_none, List.length_nil, Nat.add_zero, upd_app, stepExtract, ↓reduceIte, Nat.reduceEqDiff, rbackE] <;> rfl) ?_
      refine w_gen (fun t => t 22 = .bool false) (by simp []) ?_
      clear t0 t1 t2
      rintro t t22
      refine w_assoc (s_run (by simp only [runL, Bool.not_false, awant_none, astep, evl, put, ap_none, List.length_nil, Nat.add_zero, upd_app, stepUn, ↓reduceIte, t22] <;> rfl) ?_)
      refine s_true (by simp [evl]) (w_assoc (s_run (by simp only [runL, awant_none, astep, evl, put, ap_none, List.length_nil, Nat.add_zero] <;> rfl) ?_))
      exact s_ret (outNone (by simp [upd_app]) (by simp []) hkp hO)
    | some p =>
      rw [hr] at hB hO
      dsimp only at hO
      have hpl2 := rback_len hr (by simp)
      have hpb := rback_lt hr (by simp)
      have hbsl : (bs p).length = p.length := by simp
      have hEv : (rbackE (some p) (srcBlk u) n').v = .tuple #[(newE 5 (bs p) (srcBlk u) n').v, .bool true] := rfl
      have hEap : (rbackE (some p) (srcBlk u) n').ap g = (newE 5 (bs p) (srcBlk u) n').ap g := by
        show addAll (setAll g []) n' _ = addAll (setAll g (newE 5 (bs p) (srcBlk u) n').w) (newE 5 (bs p) (srcBlk u) n').j _
        rw [newE_j, newE_w]
        rfl
      have hEa : (rbackE (some p) (srcBlk u) n').a.length = (newE 5 (bs p) (srcBlk u) n').a.length := rfl
      have hEj := rbackE_j (some p) (srcBlk u) n'
      have hEw := rbackE_w (some p) (srcBlk u) n'
      have s4 := newE_src 5 (bs p) (srcBlk u) n' g
      have b4 := newE_blk 5 (bs p) (srcBlk u) n'
      rw [← hEap, hbsl] at s4
      rw [← hEa] at b4
      generalize rbackE (some p) (srcBlk u) n' = E at hB hEv hEap hEa hEj hEw s4 b4
      generalize (newE 5 (bs p) (srcBlk u) n').v = u4 at hEv s4 b4
      clear hEap hEa
      refine ops_call 40 E rfl hB (fun _ => hEj) (ops_heap fun G4 hG4 => ops_num fun N4 hN4 => ?_)
      have hG4' : G4 = E.ap g := hG4
      have hN4' : N4 = n' + E.a.length := hN4
      have k4 : Kp n' g G4 := by rw [hG4']; exact kp_ap (Kp.refl _ _) hEw (fun _ => by rw [hEj]; exact Nat.le_refl _)
      rw [← hG4'] at s4
      have hb4 : ∀ i ∈ srcBlk u4, i < N4 := fun i hi => by have := b4 i hi; omega
      clear hG4 hN4 hG4' b4
      refine ops_run (by simp only [runL, List.getElem?_toArray, List.getElem?_cons_succ, List.getElem?_cons_zero, awant_none, astep, evl, put, ap_none, List.length_nil, Nat.add_zero, upd_app, stepExtract, ↓reduceIte, Nat.reduceEqDiff, hEv] <;> rfl) ?_
      refine w_gen (fun t => t 0 = v ∧ t 1 = .int .i64 o ∧ t 21 = u4 ∧ t 22 = .bool true) (by simp [upd_app, t0, t1]) ?_
      clear t0 t1 t2 hlv
      rintro t ⟨t0, t1, t21, t22⟩
      refine w_assoc (s_run (by simp only [runL, Bool.not_true, awant_none, astep, evl, put, ap_none, List.length_nil, Nat.add_zero, upd_app, stepUn, ↓reduceIte, t22] <;> rfl) ?_)
      refine s_false (by simp [evl]) (s_skip ?_)
      refine w_gen (fun t => t 0 = v ∧ t 1 = .int .i64 o ∧ t 21 = u4) (by simp [upd_app, t0, t1, t21]) ?_
      clear t0 t1 t21 t22
      rintro t ⟨t0, t1, t21⟩
      have hFB := rback_spec u4 p G4 N4 (by omega) hpb s4
      have hbl := back_len p row0
      have hbb := back_lt hpb full0
      obtain ⟨b, hbe⟩ : ∃ b, back p row0 = b := ⟨_, rfl⟩
      rw [hbe] at hbl hbb hO hFB
      have hbsb : (bs b).length = b.length := by simp
      have o5 := newE_Own (e := 5) (cs := bs b) (r := srcBlk u4) (j := N4) (n := n) G4 (by omega)
      have hj5 := newE_j 5 (bs b) (srcBlk u4) N4
      have hw5 := newE_w 5 (bs b) (srcBlk u4) N4
      generalize newE 5 (bs b) (srcBlk u4) N4 = E5 at hFB o5 hj5 hw5
      refine s_take 1 (by simp only [runL, List.take_succ_cons, List.take_zero, awant_none, astep, evl, put, ap_none, List.length_nil, Nat.add_zero, t21] <;> rfl) ?_
      refine ops_call 29 E5 rfl hFB (fun _ => hj5) (ops_heap fun G5 hG5 => ops_num fun N5 hN5 => ?_)
      have hG5' : G5 = E5.ap G4 := hG5
      have hN5' : N5 = N4 + E5.a.length := hN5
      have k5 : Kp N4 G4 G5 := by rw [hG5']; exact kp_ap (Kp.refl _ _) hw5 (fun _ => by rw [hj5]; exact Nat.le_refl _)
      rw [← hG5', ← hN5'] at o5
      generalize E5.v = u5 at o5 ⊢
      clear hG5 hN5 hG5'
      refine ops_run (by simp only [runL, awant_none, astep, evl, put, ap_none, List.length_nil, Nat.add_zero, upd_app, ↓reduceIte] <;> rfl) ?_
      refine w_gen (fun t => t 0 = v ∧ t 1 = .int .i64 o ∧ t 21 = u5) (by simp [upd_app, t0, t1]) ?_
      clear t0 t1 t21
      rintro t ⟨t0, t1, t21⟩
      have s5 := o5.src
      rw [hbsb] at s5
      refine s_take 2 (by simp only [runL, List.take_succ_cons, List.take_zero, awant_none, astep, evl, put, ap_none, List.length_nil, Nat.add_zero, upd_app, ↓reduceIte, Nat.reduceEqDiff, t1, t21] <;> rfl) ?_
      refine ops_call 60 _ rfl (rpack_spec u5 b o G5 N5 ho (by omega) hbb s5) (by intro _; rfl) (ops_heap fun G6 hG6 => ?_)
      have k6 : Kp N5 G5 G6 := by rw [hG6]; exact kp_ap (Kp.refl _ _) rfl (fun _ => Nat.le_refl _)
      have b6 : G6 N5 = some ⟨false, 5, bs (packB o b)⟩ := by rw [hG6]; exact packE_ap _ _ _ _
      refine ops_run (by simp only [runL, List.getElem?_toArray, List.getElem?_cons_succ, List.getElem?_cons_zero, awant_none, astep, evl, put, ap_none, List.length_nil, Nat.add_zero, upd_app, stepExtract, ↓reduceIte, Nat.reduceEqDiff, packE_v] <;> rfl) ?_
      obtain ⟨N, hN⟩ : ∃ N, packB o b = N := ⟨_, rfl⟩
      have hNb := packB_lt (o := o) hbb
      rw [hN] at b6 hO hNb
      rw [hN]
      refine w_gen (fun t => t 0 = v ∧ t 21 = u5 ∧ t 23 = .slice (some ⟨N5, 0, some N.length⟩) N.length 1 ∧ t 24 = .bool true) (by simp [upd_app, t0, t21]) ?_
      clear t0 t1 t21
      rintro t ⟨t0, t21, t23, t24⟩
      have kk : Kp n g2 G6 := fun q hq => by rw [k6 q (by omega), k5 q (by omega), k4 q (by omega), hkp q hq]
      obtain ⟨ra, sa, _⟩ := src_str (src_bs (m := N.length) b6 rfl)
      obtain ⟨rb, sb, _⟩ := src_str (kk.src hv2 hdom)
      have hq := nstr_beq hNb hF
      by_cases he : N = F
      · rw [decide_eq_true he] at hq
        rw [if_pos he] at hO
        refine w_assoc (s_run (by simp only [runL, awant_some, List.getElem?_toArray, List.getElem?_cons_succ, List.getElem?_cons_zero, Option.bind_some, b_ff, Bool.not_true, awant_none, astep, evl, put, ap_none, List.length_nil, Nat.add_zero, upd_app, stepBin, abin, stepUn, stepPick, reduceCtorEq, ↓reduceIte, Nat.reduceEqDiff, Bool.false_eq_true, t24, t23, t0, sa, sb, hq] <;> rfl) ?_)
        refine s_false (by simp [evl]) (s_skip ?_)
        refine w_gen (fun t => t 21 = u5) (by simp [upd_app, t21]) ?_
        clear t0 t21 t23 t24
        rintro t t21
        refine s_run (by simp only [runL, awant_none, astep, evl, put, ap_none, List.length_nil, Nat.add_zero, upd_app, ↓reduceIte, t21] <;> rfl) ?_
        have o6 : Own 5 G6 u5 (bs b) n N5 := o5.keep k6 (Nat.le_refl _)
        obtain ⟨ids, hfin⟩ := o6.fin_tuple (r := srcBlk v) (j := j) (q := true) plain_ints hs hwf kk
        refine w_ret ⟨.inr rfl, fun _ r hr => ?_, ids, ?_⟩
        · simp at hr
          rcases hr with rfl | rfl
          · obtain ⟨a, k, e⟩ := own_sl o6; simp [upd_app, e, isTup]
          · simp [isTup]
        · rw [hO]
          have : resVal [6, 7] (upd (upd (upd t 132 u5) 6 u5) 7 (.bool true)) = .tuple #[u5, .bool true] := by simp [resVal, upd_app]
          rw [this]
          exact hfin
      · rw [decide_eq_false he] at hq
        rw [if_neg he] at hO
        refine w_assoc (s_run (by simp only [runL, awant_some, List.getElem?_toArray, List.getElem?_cons_succ, List.getElem?_cons_zero, Option.bind_some, b_ff, Bool.not_true, Bool.not_false, awant_none, astep, evl, put, ap_none, List.length_nil, Nat.add_zero, upd_app, stepBin, abin, stepUn, stepPick, reduceCtorEq, ↓reduceIte, Nat.reduceEqDiff, Bool.false_eq_true, t24, t23, t0, sa, sb, hq] <;> rfl) ?_)
        refine s_true (by simp [evl]) (w_assoc (s_run (by simp only [runL, awant_none, astep, evl, put, ap_none, List.length_nil, Nat.add_zero] <;> rfl) ?_))
        exact s_ret (outNone (by simp [upd_app]) (by simp []) kk hO)
end Go.Proofs.Ytahinegnblankaa
