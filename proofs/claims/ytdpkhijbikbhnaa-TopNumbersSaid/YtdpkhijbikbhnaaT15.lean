import Derived.Test.YtdpkhijbikbhnaaT14
namespace Go.Proofs.Ytdpkhijbikbhnaa
open Go Abs Plain
set_option linter.unusedSimpArgs false
set_option linter.unusedVariables false

/-- 'for i := M - 1; i >= 0; i--': J (k + 1) holds at the head of round k. -/
theorem s_down {P : Program} {Q : AQ} {id id1 ra rb : Nat} {i c0 c d e : Tmp} {ty0 ty1 ty2 ty3 ty4 T1 T2 T3 T4 : TypeId} {p0 p1 p2 p3 p4 : String} {a0 a1 a2 a3 a4 : Array Edge} {body rest : Code} {t : Nat → Value} {g : Heap} {n : Nat}
    (M : Nat) (J : Nat → (Nat → Value) → Heap → Nat → Prop) (z : Int) (hM : M ≤ 4611686018427387904) (h0 : t i = .int .i64 z) (hz : (M = 0 ∧ z < 0) ∨ z = (M : Int) - 1) (hJ0 : ∀ v1 v2, J M (upd (upd t c0 v1) c v2) g n)
    (hd : c0 ≠ i ∧ c ≠ i ∧ c0 ≠ c ∧ d ≠ e)
    (hbody : ∀ k t g n, k < M → t i = .int .i64 k → J (k + 1) t g n → awp P body (rngPost id id1 (fun t' g' n' => t' i = .int .i64 k ∧ ∀ v1 v2 v3 v4 v5, J k (upd (upd (upd (upd (upd t' d v1) e v2) i v3) c0 v4) c v5) g' n') (athen (awp P rest Q) Q)) t g n)
    (hend : ∀ t g n, J 0 t g n → awp P rest Q t g n) :
    awp P (.seq (.block id (.loop (.seq (.seq (.region ra #[⟨some c0, .move (.tmp i), ty0, p0, a0, none⟩, ⟨some c, .binOp .geq T1 (.tmp c0) (.const (.int .i64 0)) T2, ty1, p1, a1, none⟩] false) (.cond (.tmp c) .skip (.exit id)))
      (.seq (.block id1 body) (.region rb #[⟨some d, .move (.tmp i), ty2, p2, a2, none⟩, ⟨some e, .binOp .sub T3 (.tmp d) (.const (.int .i64 1)) T4, ty3, p3, a3, none⟩, ⟨some i, .assign (.tmp e), ty4, p4, a4, none⟩] false))))) rest) Q t g n := by
  obtain ⟨d1, d2, d3, d4⟩ := hd
  refine w_seq (w_block (w_loop (fun t g n => ∃ (k : Nat) (z : Int), k ≤ M ∧ t i = .int .i64 z ∧ ((k = 0 ∧ z < 0) ∨ z = (k : Int) - 1) ∧ ∀ v1 v2, J k (upd (upd t c0 v1) c v2) g n) (fun t _ _ => match t i with | .int _ k => (k + 1).toNat | _ => 0) ⟨M, z, Nat.le_refl _, h0, hz, hJ0⟩ ?_))
  rintro t g n ⟨k, z, hk, hi, hz, hJk⟩
  refine w_assoc (s_run (t' := upd (upd t c0 (.int .i64 z)) c (.bool (decide (z ≥ 0)))) (g' := g) (n' := n) (by simp only [runL, awant_none, astep, evl, put, ap_none, List.length_nil, Nat.add_zero, stepBin, abin, hi, upd_self, if_true]) ?_)
  have hJc := hJk (.int .i64 z) (.bool (decide (z ≥ 0)))
  have hi' : upd (upd t c0 (.int .i64 z)) c (.bool (decide (z ≥ 0))) i = .int .i64 z := by rw [upd_ne _ _ (Ne.symm d2), upd_ne _ _ (Ne.symm d1)]; exact hi
  by_cases hlt : 0 ≤ z
  · refine s_true (by simp only [evl, upd_self]; simp; exact hlt) (s_skip (w_seq (w_block ?_)))
    obtain ⟨q, rfl⟩ : ∃ q, k = q + 1 := ⟨k - 1, by rcases hz with h | h <;> omega⟩
    have hzq : z = (q : Int) := by rcases hz with h | h <;> omega
    subst hzq
    refine awp_mono ?_ (hbody q _ g n (by omega) hi' hJc)
    have inc : ∀ t' g' n', (t' i = .int .i64 q ∧ ∀ v1 v2 v3 v4 v5, J q (upd (upd (upd (upd (upd t' d v1) e v2) i v3) c0 v4) c v5) g' n') → awp P (.region rb #[⟨some d, .move (.tmp i), ty2, p2, a2, none⟩, ⟨some e, .binOp .sub T3 (.tmp d) (.const (.int .i64 1)) T4, ty3, p3, a3, none⟩, ⟨some i, .assign (.tmp e), ty4, p4, a4, none⟩] false)
        (athen (fun t'' g'' n'' => (∃ (k : Nat) (z : Int), k ≤ M ∧ t'' i = .int .i64 z ∧ ((k = 0 ∧ z < 0) ∨ z = (k : Int) - 1) ∧ ∀ v1 v2, J k (upd (upd t'' c0 v1) c v2) g'' n'') ∧ (match t'' i with | .int _ k => (k + 1).toNat | _ => 0) < (match t i with | .int _ k => (k + 1).toNat | _ => 0)) (ainBlock id (athen (awp P rest Q) Q))) t' g' n' := by
      rintro t' g' n' ⟨q1, q3⟩
      have hw : IntKind.i64.wrap ((q : Int) - 1) = (q : Int) - 1 := wrap64_of (by omega) (by omega)
      refine region_run (t' := upd (upd (upd t' d (.int .i64 (q : Int))) e (.int .i64 ((q : Int) - 1))) i (.int .i64 ((q : Int) - 1))) (g' := g') (n' := n') (by simp only [runL, awant_none, astep, evl, put, ap_none, List.length_nil, Nat.add_zero, stepBin, abin, q1, if_true, hw, upd_self]) ?_
      clear hw
      refine ⟨⟨q, (q : Int) - 1, by omega, by simp, .inr rfl, fun v1 v2 => q3 _ _ _ _ _⟩, ?_⟩
      rw [hi, upd_self]
      show ((q : Int) - 1 + 1).toNat < ((q : Int) + 1).toNat
      omega
    intro e t' g' n' he
    cases e with
    | normal => exact inc t' g' n' he
    | exit e =>
      simp only [rngPost] at he
      simp only [ainBlock]
      split at he
      · rename_i e1; rw [if_pos e1]; exact inc t' g' n' he
      · rename_i e1
        rw [if_neg e1]
        simp only [athen, ainBlock] at he ⊢
        exact he
    | _ => exact he
  · refine s_false (by simp only [evl, upd_self]; simp; omega) (s_exit ?_)
    have : k = 0 := by rcases hz with h | h <;> omega
    subst this
    simp only [athen, ainBlock, if_true]
    exact hend _ _ _ hJc

/-- Of each place whether its ending is less than the next one. -/
def smallL (s : List Nat) : List Bool := (List.range s.length).map fun i => lx (s.drop i) (s.drop (i + 1))
theorem smallL_len (s : List Nat) : (smallL s).length = s.length := by simp [smallL]
def smP (s : List Nat) (k : Nat) : List Bool := (List.range s.length).map fun i => decide (k ≤ i) && lx (s.drop i) (s.drop (i + 1))
theorem smP_len (s : List Nat) (k : Nat) : (smP s k).length = s.length := by simp [smP]
theorem smP_zero (s : List Nat) : smP s 0 = smallL s := by simp [smP, smallL]
theorem smP_last (s : List Nat) : smP s (s.length - 1) = List.replicate s.length false := by
  rw [List.eq_replicate_iff]
  refine ⟨smP_len _ _, fun b hb => ?_⟩
  obtain ⟨i, hi, rfl⟩ := List.mem_map.1 hb
  simp at hi
  by_cases h : s.length - 1 ≤ i
  · have : s.drop (i + 1) = [] := List.drop_eq_nil_of_le (by omega)
    rw [this]
    cases s.drop i <;> simp [lx]
  · simp [h]
theorem smP_at {s : List Nat} {k i : Nat} (h : i < s.length) (hk : k ≤ i) : (smP s k)[i]'(by rw [smP_len]; exact h) = lx (s.drop i) (s.drop (i + 1)) := by simp [smP, hk]
theorem smP_set {s : List Nat} {k : Nat} (h : k < s.length) : (smP s (k + 1)).set k (lx (s.drop k) (s.drop (k + 1))) = smP s k := by
  apply List.ext_getElem
  · simp [smP]
  · intro i h1 h2
    rw [List.getElem_set]
    simp only [smP, List.getElem_map, List.getElem_range]
    by_cases e : k = i
    · subst e; simp
    · rw [if_neg e]
      have : (k + 1 ≤ i) ↔ (k ≤ i) := by omega
      simp [this]

set_option maxRecDepth 20000 in
theorem small_spec (v : Value) (s : List Nat) (g : Heap) (j : Nat) (hl : s.length ≤ 2 ^ 38) (hv : Src g v 1 s.length (ints s)) :
    FnSpec Try.prog 47 [v] g { v := .slice (some ⟨j, 0, some s.length⟩) s.length 1, r := srcBlk v, j := j, a := [⟨false, 4, bools (smallL s)⟩] } := by
  refine spec_of_body [2] follows Try.func47 rfl (by kernel_rfl) (by simp [Try.f47]) (by kernel_rfl) rfl ?_
  intro g2 s2 n hg hfr hs hn hwf hsv
  have hv2 : Src g2 v 1 s.length (ints s) := hv.congr fun i hi => hg i (by simp [Eff.fp, hi])
  have hvd : ∀ i ∈ srcBlk v, i < n := dom_of hs hwf hv2
  have hlen := hv2.len Try.underlying22
  clear hg hfr hn hv
  refine s_run (by simp only [runL, awant_none, astep, evl, put, ap_none, List.length_nil, Nat.add_zero, undef] <;> rfl) ?_
  refine s_run (by simp only [runL, Option.getD_some, List.getElem?_cons_zero, awant_none, astep, evl, put, ap_none, ap_new, List.length_nil, List.length_cons, Nat.add_zero, Nat.zero_add, upd_app, stepCall, reduceCtorEq, ↓reduceIte, hlen, mkBools s.length n (by omega)] <;> rfl) (w_heap fun G1 hG1 => ?_)
  have b1 : G1 n = some ⟨false, 4, bools (smP s (s.length - 1))⟩ := by rw [hG1, smP_last]; simp []
  have k1 : Kp n g2 G1 := by rw [hG1]; exact kp_upd (Kp.refl _ _) (Nat.le_refl _)
  have w0 : IntKind.i64.wrap ((s.length : Int) - 2) = (s.length : Int) - 2 := wrap64_of (by omega) (by omega)
  refine w_assoc (s_run (by simp only [runL, Option.getD_some, List.getElem?_cons_zero, awant_none, astep, evl, put, ap_none, List.length_nil, Nat.add_zero, upd_app, stepBin, abin, stepCall, reduceCtorEq, ↓reduceIte, hlen, w0] <;> rfl) ?_)
  refine s_down (s.length - 1) (fun k t g n' => t 0 = v ∧ t 3 = .slice (some ⟨n, 0, some s.length⟩) s.length 1 ∧ g n = some ⟨false, 4, bools (smP s k)⟩ ∧ Kp n g2 g) ((s.length : Int) - 2) (by omega) (by simp []) (by omega)
    (fun _ _ => ⟨by simp [upd_app], by simp [upd_app], b1, k1⟩) (by decide) ?_ ?_
  · clear b1 k1 hG1
    rintro k t g n' hk t4 ⟨t0, t3, b, hkp⟩
    have hk0 : k < s.length := by omega
    have hk1 : k + 1 < s.length := by omega
    have hvg := hkp.src hv2 hvd
    obtain ⟨p, i1, l1, _⟩ := srcN hvg hk0
    obtain ⟨q, i2, l2, _⟩ := srcN hvg hk1
    have w1 : IntKind.i64.wrap ((k : Int) + 1) = ((k + 1 : Nat) : Int) := wrap_succ (by omega)
    have hlx := lx_drop hk0 hk1
    rw [nth_byt, nth_byt] at hlx
    have iy := idxL n s.length k s.length hk0
    have iz := idxL n s.length (k + 1) s.length hk1
    have lz := ldL b (smP_len s (k + 1)) (show k + 1 < _ by rw [smP_len]; exact hk1)
    rw [smP_at hk1 (Nat.le_refl _)] at lz
    have s1 := stL (x := lx (s.drop k) (s.drop (k + 1))) b (smP_len s (k + 1)) (show k < _ by rw [smP_len]; exact hk0)
    rw [smP_set hk0] at s1
    generalize byt s k = x at *
    generalize byt s (k + 1) = y at *
    have fin : ∀ t' : Nat → Value, t' 0 = v → t' 3 = .slice (some ⟨n, 0, some s.length⟩) s.length 1 → t' 4 = .int .i64 k → (t' 4 = .int .i64 k ∧ ∀ v1 v2 v3 v4 v5 : Value, (upd (upd (upd (upd (upd t' 13 v1) 14 v2) 4 v3) 11 v4) 12 v5) 0 = v ∧ (upd (upd (upd (upd (upd t' 13 v1) 14 v2) 4 v3) 11 v4) 12 v5) 3 = .slice (some ⟨n, 0, some s.length⟩) s.length 1) :=
      fun t' h0 h3 h4 => ⟨h4, fun _ _ _ _ _ => ⟨by simp [upd_app, h0], by simp [upd_app, h3]⟩⟩
    by_cases c1 : x < y
    · have d1 : decide ((x : Int) < (y : Int)) = true := decide_eq_true (by omega)
      rw [if_pos c1] at hlx
      rw [hlx] at s1
      refine region_drawn #[0, 0, 0, 0, 12, 28, 0, 0, 128, 448, 960, 2044, 4092, 8188, 8188, 32764, 65532, 8188, 8188, 270332, 925692, 1974268, 4194300, 8388604, 16777212, 16777212, 50331644, 134217724, 268435452, 536870908, 1073741820, 2147483647, 4294967295] (by decide +kernel) ?_
      refine d_readsB 32 (by simp) (by simp only [runR, awant_some, List.getElem?_toArray, List.getElem?_cons_succ, List.getElem?_cons_zero, Option.bind_some, b_tf, List.take_succ_cons, List.take_zero, awant_none, astep, evl, put, upd_app, stepBin, abin, stepPick, reduceCtorEq, ↓reduceIte, Nat.reduceEqDiff, undef, List.isEmpty_nil, Bool.and_self, t0, t3, t4, i1, l1, w1, i2, l2, d1, iy] <;> rfl) fun a1 ha1 => ?_
      refine d_last _ (by simp only [astep, evl, upd_app, ↓reduceIte, Nat.reduceEqDiff, undef, s1] <;> rfl) (by simp only [awant_none] <;> rfl) ha1 rfl ?_
      refine ⟨by simp [upd_app, put, t4], fun _ _ _ _ _ => ⟨by simp [upd_app, put, t0], by simp [upd_app, put, t3], by simp [ap_wr], ?_⟩⟩
      simp only [ap_wr]
      exact kp_upd hkp (Nat.le_refl _)
    have d1 : decide ((x : Int) < (y : Int)) = false := decide_eq_false (by omega)
    rw [if_neg c1] at hlx
    by_cases c2 : x = y
    · have e1 : ((x : Int) == (y : Int)) = true := ieq_t (by omega)
      rw [if_neg (by omega)] at hlx
      rw [show s.drop (k + 2) = s.drop (k + 1 + 1) from rfl] at hlx
      rw [hlx] at s1
      refine region_drawn #[0, 0, 0, 0, 12, 28, 0, 0, 128, 448, 960, 2044, 4092, 8188, 8188, 32764, 65532, 8188, 8188, 270332, 925692, 1974268, 4194300, 8388604, 16777212, 16777212, 50331644, 134217724, 268435452, 536870908, 1073741820, 2147483647, 4294967295] (by decide +kernel) ?_
      refine d_readsB 32 (by simp) (by simp only [runR, awant_some, List.getElem?_toArray, List.getElem?_cons_succ, List.getElem?_cons_zero, Option.bind_some, b_tt, b_ff, List.take_succ_cons, List.take_zero, awant_none, astep, evl, put, upd_app, stepBin, abin, stepPick, reduceCtorEq, ↓reduceIte, Nat.reduceEqDiff, Bool.false_eq_true, List.isEmpty_nil, Bool.and_self, t0, t3, t4, i1, l1, w1, i2, l2, d1, e1, iy, iz, lz] <;> rfl) fun a1 ha1 => ?_
      refine d_last _ (by simp only [astep, evl, upd_app, ↓reduceIte, Nat.reduceEqDiff, undef, s1] <;> rfl) (by simp only [awant_none] <;> rfl) ha1 rfl ?_
      refine ⟨by simp [upd_app, put, t4], fun _ _ _ _ _ => ⟨by simp [upd_app, put, t0], by simp [upd_app, put, t3], by simp [ap_wr], ?_⟩⟩
      simp only [ap_wr]
      exact kp_upd hkp (Nat.le_refl _)
    · have e1 : ((x : Int) == (y : Int)) = false := ieq_f (by omega)
      rw [if_pos (by omega)] at hlx
      rw [hlx] at s1
      refine region_drawn #[0, 0, 0, 0, 12, 28, 0, 0, 128, 448, 960, 2044, 4092, 8188, 8188, 32764, 65532, 8188, 8188, 270332, 925692, 1974268, 4194300, 8388604, 16777212, 16777212, 50331644, 134217724, 268435452, 536870908, 1073741820, 2147483647, 4294967295] (by decide +kernel) ?_
      refine d_readsB 32 (by simp) (by simp only [runR, awant_some, List.getElem?_toArray, List.getElem?_cons_succ, List.getElem?_cons_zero, Option.bind_some, b_ft, b_ff, List.take_succ_cons, List.take_zero, awant_none, astep, evl, put, upd_app, stepBin, abin, stepPick, reduceCtorEq, ↓reduceIte, Nat.reduceEqDiff, Bool.false_eq_true, undef, List.isEmpty_nil, Bool.and_self, t0, t3, t4, i1, l1, w1, i2, l2, d1, e1, iy] <;> rfl) fun a1 ha1 => ?_
      refine d_last _ (by simp only [astep, evl, upd_app, ↓reduceIte, Nat.reduceEqDiff, undef, s1] <;> rfl) (by simp only [awant_none] <;> rfl) ha1 rfl ?_
      refine ⟨by simp [upd_app, put, t4], fun _ _ _ _ _ => ⟨by simp [upd_app, put, t0], by simp [upd_app, put, t3], by simp [ap_wr], ?_⟩⟩
      simp only [ap_wr]
      exact kp_upd hkp (Nat.le_refl _)
  · rintro t g n' ⟨t0, t3, b, hkp⟩
    rw [smP_zero] at b
    refine s_run (by simp only [runL, awant_none, astep, evl, put, ap_none, List.length_nil, Nat.add_zero, upd_app, ↓reduceIte, t3] <;> rfl) ?_
    exact w_ret (sl_fin (k := n) rfl (by simp []) (by simp [smallL_len]) (Nat.le_refl _) b plain_bools hs hwf hkp)
end Go.Proofs.Ytdpkhijbikbhnaa
