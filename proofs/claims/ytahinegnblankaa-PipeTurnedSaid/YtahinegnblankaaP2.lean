import Derived.Test.YtahinegnblankaaP1
namespace Go.Proofs.Ytahinegnblankaa
open Go Abs
set_option linter.unusedSimpArgs false
set_option linter.unusedVariables false

/-- 'for i := k0; i < M; i++': J k holds at the head of round k. -/
theorem for_loop {P : Program} {Q : AQ} {id id1 ra rb : Nat} {i c d e : Tmp} {ops : Array Oper} {ty1 ty2 ty3 T3 T4 : TypeId} {p1 p2 p3 : String} {a1 a2 a3 : Array Edge} {body : Code} {t : Nat → Value} {g : Heap} {n : Nat}
    (k0 M : Nat) (J : Nat → (Nat → Value) → Heap → Nat → Prop) (hM : M ≤ 4611686018427387904) (hk0 : k0 ≤ M) (h0 : t i = .int .i64 k0) (hJ0 : J k0 t g n)
    (hcond : ∀ k t g n, k ≤ M → t i = .int .i64 k → J k t g n → ∃ t', runL P ops ops.toList ⟨t, g, n⟩ = some ⟨t', g, n⟩ ∧ t' c = .bool (decide (k < M)) ∧ t' i = .int .i64 k ∧ J k t' g n)
    (hbody : ∀ k t g n, k < M → t i = .int .i64 k → J k t g n → awp P body (rangePost id id1 (fun t' g' n' => t' i = .int .i64 k ∧ ∀ v1 v2 v3, J (k + 1) (upd (upd (upd t' d v1) e v2) i v3) g' n') Q) t g n)
    (hend : ∀ t g n, J M t g n → Q .normal t g n) :
    awp P (.block id (.loop (.seq (.seq (.region ra ops false) (.cond (.tmp c) .skip (.exit id)))
      (.seq (.block id1 body) (.region rb #[⟨some d, .move (.tmp i), ty1, p1, a1, none⟩, ⟨some e, .binOp .add T3 (.tmp d) (.const (.int .i64 1)) T4, ty2, p2, a2, none⟩, ⟨some i, .assign (.tmp e), ty3, p3, a3, none⟩] false))))) Q t g n := by
  refine w_block (w_loop (fun t g n => ∃ k, k ≤ M ∧ t i = .int .i64 k ∧ J k t g n) (fun t _ _ => match t i with | .int _ k => M - k.toNat | _ => 0) ⟨k0, hk0, h0, hJ0⟩ ?_)
  rintro t g n ⟨k, hk, hi, hJk⟩
  obtain ⟨t', hr, hc, hi', hJ'⟩ := hcond k t g n hk hi hJk
  refine w_assoc (s_run hr ?_)
  by_cases hlt : k < M
  · refine s_true (by simp only [evl, hc]; simp; exact hlt) (s_skip (w_seq (w_block ?_)))
    refine awp_mono ?_ (hbody k _ g n hlt hi' hJ')
    have inc : ∀ t' g' n', (t' i = .int .i64 k ∧ ∀ v1 v2 v3, J (k + 1) (upd (upd (upd t' d v1) e v2) i v3) g' n') → awp P (.region rb #[⟨some d, .move (.tmp i), ty1, p1, a1, none⟩, ⟨some e, .binOp .add T3 (.tmp d) (.const (.int .i64 1)) T4, ty2, p2, a2, none⟩, ⟨some i, .assign (.tmp e), ty3, p3, a3, none⟩] false)
        (athen (fun t'' g'' n'' => (∃ k, k ≤ M ∧ t'' i = .int .i64 k ∧ J k t'' g'' n'') ∧ (match t'' i with | .int _ k => M - k.toNat | _ => 0) < (match t i with | .int _ k => M - k.toNat | _ => 0)) (ainBlock id Q)) t' g' n' := by
      rintro t' g' n' ⟨q1, q3⟩
      have hw : IntKind.i64.wrap ((k : Int) + 1) = ((k + 1 : Nat) : Int) := wrap_succ (by omega)
      refine region_run (t' := upd (upd (upd t' d (.int .i64 k)) e (.int .i64 ((k + 1 : Nat) : Int))) i (.int .i64 ((k + 1 : Nat) : Int))) (g' := g') (n' := n') (by simp only [runL, awant_none, astep, evl, put, ap_none, List.length_nil, Nat.add_zero, stepBin, abin, q1, if_true, hw, upd_self]) ?_
      clear hw
      refine ⟨⟨k + 1, by omega, by simp, q3 _ _ _⟩, ?_⟩
      rw [hi, upd_self]
      show M - ((k + 1 : Nat) : Int).toNat < M - (k : Int).toNat
      rw [Int.toNat_natCast, Int.toNat_natCast]
      exact Nat.sub_lt_sub_left hlt (Nat.lt_succ_self k)
    intro e t' g' n' he
    cases e with
    | normal => exact inc t' g' n' he
    | exit e =>
      simp only [rangePost] at he
      simp only [ainBlock]
      split at he
      · rename_i e1; rw [if_pos e1]; exact inc t' g' n' he
      · rename_i e1
        rw [if_neg e1]
        simp only [athen, ainBlock] at he ⊢
        exact he
    | _ => exact he
  · refine s_false (by simp only [evl, hc]; simp; omega) (s_exit ?_)
    have : k = M := by omega
    subst this
    simp only [athen, ainBlock, if_true]
    exact hend _ _ _ hJ'

/-- The same with what stands behind it. -/
theorem s_for {P : Program} {Q : AQ} {id id1 ra rb : Nat} {i c d e : Tmp} {ops : Array Oper} {ty1 ty2 ty3 T3 T4 : TypeId} {p1 p2 p3 : String} {a1 a2 a3 : Array Edge} {body rest : Code} {t : Nat → Value} {g : Heap} {n : Nat}
    (k0 M : Nat) (J : Nat → (Nat → Value) → Heap → Nat → Prop) (hM : M ≤ 4611686018427387904) (hk0 : k0 ≤ M) (h0 : t i = .int .i64 k0) (hJ0 : J k0 t g n)
    (hcond : ∀ k t g n, k ≤ M → t i = .int .i64 k → J k t g n → ∃ t', runL P ops ops.toList ⟨t, g, n⟩ = some ⟨t', g, n⟩ ∧ t' c = .bool (decide (k < M)) ∧ t' i = .int .i64 k ∧ J k t' g n)
    (hbody : ∀ k t g n, k < M → t i = .int .i64 k → J k t g n → awp P body (rangePost id id1 (fun t' g' n' => t' i = .int .i64 k ∧ ∀ v1 v2 v3, J (k + 1) (upd (upd (upd t' d v1) e v2) i v3) g' n') (athen (awp P rest Q) Q)) t g n)
    (hend : ∀ t g n, J M t g n → awp P rest Q t g n) :
    awp P (.seq (.block id (.loop (.seq (.seq (.region ra ops false) (.cond (.tmp c) .skip (.exit id)))
      (.seq (.block id1 body) (.region rb #[⟨some d, .move (.tmp i), ty1, p1, a1, none⟩, ⟨some e, .binOp .add T3 (.tmp d) (.const (.int .i64 1)) T4, ty2, p2, a2, none⟩, ⟨some i, .assign (.tmp e), ty3, p3, a3, none⟩] false))))) rest) Q t g n :=
  w_seq (for_loop k0 M J hM hk0 h0 hJ0 hcond hbody hend)

/-- 'for i := range M' (of a slice or a number): J k holds at the head of round k. -/
theorem s_rng {P : Program} {Q : AQ} {id id1 ra rb : Nat} {i m c d : Tmp} {ty1 ty2 ty3 T1 T2 T3 T4 : TypeId} {p1 p2 p3 : String} {a1 a2 a3 : Array Edge} {body rest : Code} {t : Nat → Value} {g : Heap} {n : Nat}
    (M : Nat) (J : Nat → (Nat → Value) → Heap → Nat → Prop) (hM : M ≤ 4611686018427387904) (h0 : t i = .int .i64 0) (hm : t m = .int .i64 M) (hJ0 : ∀ v, J 0 (upd t c v) g n)
    (hd : i ≠ m ∧ c ≠ i ∧ c ≠ m ∧ d ≠ i ∧ d ≠ m)
    (hbody : ∀ k t g n, k < M → t i = .int .i64 k → t m = .int .i64 M → J k t g n → awp P body (rangePost id id1 (fun t' g' n' => t' i = .int .i64 k ∧ t' m = .int .i64 M ∧ ∀ v1 v2 v3, J (k + 1) (upd (upd (upd t' d v1) i v2) c v3) g' n') (athen (awp P rest Q) Q)) t g n)
    (hend : ∀ t g n, J M t g n → awp P rest Q t g n) :
    awp P (.seq (.block id (.loop (.seq (.region ra #[⟨some c, .binOp .lss T1 (.tmp i) (.tmp m) T2, ty1, p1, a1, none⟩] false)
      (.seq (.cond (.tmp c) .skip (.exit id)) (.seq (.block id1 body) (.region rb #[⟨some d, .binOp .add T3 (.tmp i) (.const (.int .i64 1)) T4, ty2, p2, a2, none⟩, ⟨some i, .move (.tmp d), ty3, p3, a3, none⟩] false)))))) rest) Q t g n := by
  obtain ⟨d1, d2, d3, d4, d5⟩ := hd
  refine w_seq (w_block (w_loop (fun t g n => ∃ k, k ≤ M ∧ t i = .int .i64 k ∧ t m = .int .i64 M ∧ ∀ v, J k (upd t c v) g n) (fun t _ _ => match t i with | .int _ k => M - k.toNat | _ => 0) ⟨0, by omega, h0, hm, hJ0⟩ ?_))
  rintro t g n ⟨k, hk, hi, hm, hJk⟩
  refine s_run (t' := upd t c (.bool (decide ((k : Int) < M)))) (g' := g) (n' := n) (by simp only [runL, awant_none, astep, evl, put, ap_none, List.length_nil, Nat.add_zero, stepBin, abin, hi, hm, if_true]) ?_
  have hJc := hJk (.bool (decide ((k : Int) < M)))
  have hi' : upd t c (.bool (decide ((k : Int) < M))) i = .int .i64 k := by rw [upd_ne _ _ (Ne.symm d2)]; exact hi
  have hm' : upd t c (.bool (decide ((k : Int) < M))) m = .int .i64 M := by rw [upd_ne _ _ (Ne.symm d3)]; exact hm
  by_cases hlt : k < M
  · refine s_true (by simp only [evl, upd_self]; simp; exact hlt) (s_skip (w_seq (w_block ?_)))
    refine awp_mono ?_ (hbody k _ g n hlt hi' hm' hJc)
    have inc : ∀ t' g' n', (t' i = .int .i64 k ∧ t' m = .int .i64 M ∧ ∀ v1 v2 v3, J (k + 1) (upd (upd (upd t' d v1) i v2) c v3) g' n') → awp P (.region rb #[⟨some d, .binOp .add T3 (.tmp i) (.const (.int .i64 1)) T4, ty2, p2, a2, none⟩, ⟨some i, .move (.tmp d), ty3, p3, a3, none⟩] false)
        (athen (fun t'' g'' n'' => (∃ k, k ≤ M ∧ t'' i = .int .i64 k ∧ t'' m = .int .i64 M ∧ ∀ v, J k (upd t'' c v) g'' n'') ∧ (match t'' i with | .int _ k => M - k.toNat | _ => 0) < (match t i with | .int _ k => M - k.toNat | _ => 0)) (ainBlock id (athen (awp P rest Q) Q))) t' g' n' := by
      rintro t' g' n' ⟨q1, q2, q3⟩
      have hw : IntKind.i64.wrap ((k : Int) + 1) = ((k + 1 : Nat) : Int) := wrap_succ (by omega)
      refine region_run (t' := upd (upd t' d (.int .i64 ((k + 1 : Nat) : Int))) i (.int .i64 ((k + 1 : Nat) : Int))) (g' := g') (n' := n') (by simp only [runL, awant_none, astep, evl, put, ap_none, List.length_nil, Nat.add_zero, stepBin, abin, q1, if_true, hw, upd_self]) ?_
      clear hw
      refine ⟨⟨k + 1, by omega, by simp, ?_, fun v => q3 _ _ _⟩, ?_⟩
      · rw [upd_ne _ _ (Ne.symm d1), upd_ne _ _ (Ne.symm d5)]; exact q2
      · rw [hi, upd_self]
        show M - ((k + 1 : Nat) : Int).toNat < M - (k : Int).toNat
        rw [Int.toNat_natCast, Int.toNat_natCast]
        exact Nat.sub_lt_sub_left hlt (Nat.lt_succ_self k)
    intro e t' g' n' he
    cases e with
    | normal => exact inc t' g' n' he
    | exit e =>
      simp only [rangePost] at he
      simp only [ainBlock]
      split at he
      · rename_i e1; rw [if_pos e1]; exact inc t' g' n' he
      · rename_i e1
        rw [if_neg e1]
        simp only [athen, ainBlock] at he ⊢
        exact he
    | _ => exact he
  · refine s_false (by simp only [evl, upd_self]; simp; omega) (s_exit ?_)
    have : k = M := by omega
    subst this
    simp only [athen, ainBlock, if_true]
    exact hend _ _ _ hJc

/-- A number in digits one and two, the lowest first, each less one. -/
def told (n : Nat) : List Nat := if n = 0 then [] else (n - 1) % 2 :: told ((n - 1) / 2)
termination_by n
decreasing_by omega

theorem told_zero : told 0 = [] := by rw [told, if_pos rfl]
theorem told_pos {n : Nat} (h : n ≠ 0) : told n = (n - 1) % 2 :: told ((n - 1) / 2) := by rw [told, if_neg h]
theorem told_len (n : Nat) : (told n).length ≤ n := by
  induction n using Nat.strongRecOn with
  | _ n ih =>
    by_cases h : n = 0
    · subst h; simp [told_zero]
    · rw [told_pos h, List.length_cons]
      have := ih ((n - 1) / 2) (by omega)
      omega

theorem plain_bs (l : List Nat) : ∀ c ∈ bs l, plain c = true := plain_ints
theorem plain_is (l : List Nat) : ∀ c ∈ ints l, plain c = true := plain_ints

set_option maxRecDepth 10000 in
theorem told_spec (m : Nat) (hm : m ≤ 2 ^ 39) (g : Heap) (j : Nat) : FnSpec Try.prog 66 [.int .i64 m] g (newE 3 (ints (told m)) [] j) := by
  refine spec_of_body [2] follows Try.func66 rfl (by kernel_rfl) (by simp [Try.f66]) (by kernel_rfl) rfl ?_
  intro g2 s2 n hg hfr hs hn hwf hsv
  refine s_run (by simp only [runL, awant_none, astep, evl, put, ap_none, List.length_nil, Nat.add_zero, undef] <;> rfl) ?_
  refine s_run (by simp only [runL, awant_none, astep, evl, put, ap_none, List.length_nil, Nat.add_zero] <;> rfl) ?_
  refine s_block (fun t g n' => Own 3 g (t 3) (ints (told m)) n n' ∧ Kp n g2 g) ?_ ?_
  · refine w_loop (fun t g n' => ∃ (u : Nat) (a : List Nat), a ++ told u = told m ∧ u ≤ m ∧ t 0 = .int .i64 u ∧ Own 3 g (t 3) (ints a) n n' ∧ Kp n g2 g ∧ n ≤ n')
      (fun t _ _ => match t 0 with | .int _ u => u.toNat | _ => 0) ⟨m, [], rfl, Nat.le_refl _, by simp [upd_app], Own.nil 3 g2 n n, Kp.refl _ _, Nat.le_refl _⟩ ?_
    rintro t g n' ⟨u, a, ha, hu, t0, hO, hk, hnn⟩
    have hal : a.length + (told u).length ≤ m := by rw [← List.length_append, ha]; exact told_len m
    by_cases h0 : u = 0
    · have d : decide ((u : Int) > 0) = false := by simp [h0]
      refine w_assoc (s_run (by simp only [runL, awant_none, astep, evl, put, ap_none, List.length_nil, Nat.add_zero, upd_app, stepBin, abin, ↓reduceIte, t0, d] <;> rfl) ?_)
      refine s_false (by simp [evl]) (s_exit ⟨?_, hk⟩)
      have hO' := hO
      rw [show a = told m by rw [← ha, h0, told_zero, List.append_nil]] at hO'
      simpa [upd_app] using hO'
    · have d : decide ((u : Int) > 0) = true := by simp; omega
      have w1 : IntKind.i64.wrap ((u : Int) - 1) = ((u - 1 : Nat) : Int) := wrap_sub1 (by omega) (by omega)
      have w2 : ((u - 1 : Nat) : Int).tmod 2 = (((u - 1) % 2 : Nat) : Int) := rfl
      have w3 : ((u - 1 : Nat) : Int).tdiv 2 = (((u - 1) / 2 : Nat) : Int) := rfl
      have w4 : IntKind.i64.wrap (((u - 1) / 2 : Nat) : Int) = (((u - 1) / 2 : Nat) : Int) := wrap_nat (by omega)
      have w5 : IntKind.i64.wrap (((u - 1) % 2 : Nat) : Int) = (((u - 1) % 2 : Nat) : Int) := wrap_nat (by omega)
      rw [told_pos h0] at hal ha
      simp only [List.length_cons] at hal
      obtain ⟨f, hf, hO', hk'⟩ := hO.push (P := Try.prog) (T := 22) (c := .int .i64 (((u - 1) % 2 : Nat) : Int)) Try.underlying22 tinf3 (by simp; omega) (by omega) hnn
      refine w_assoc (s_run (by simp only [runL, awant_none, astep, evl, put, ap_none, List.length_nil, Nat.add_zero, upd_app, stepBin, abin, ↓reduceIte, t0, d] <;> rfl) ?_)
      refine s_true (by simp [evl]) (s_skip (w_seq (w_block ?_)))
      refine region_run (id := 4) (by simp only [runL, awant_none, astep, evl, put, ap_none, ap_new, List.length_nil, List.length_cons, Nat.add_zero, Nat.zero_add, upd_app, stepBin, abin, stepCall, reduceCtorEq, ↓reduceIte, Nat.reduceEqDiff, List.map_cons, List.map_nil, ne_eq, not_false_eq_true, and_self, Int.reduceEq, undef, t0, w1, w2, lit22_1, hf] <;> rfl) ?_
      refine region_run (id := 3) (by simp only [runL, awant_none, astep, evl, put, ap_none, List.length_nil, Nat.add_zero, upd_app, stepBin, abin, reduceCtorEq, ↓reduceIte, ne_eq, not_false_eq_true, and_self, Int.reduceEq, t0, w1, w3, w4] <;> rfl) ?_
      refine ⟨⟨(u - 1) / 2, a ++ [(u - 1) % 2], by rw [← ha]; simp, by omega, by simp [], ?_, hk.trans hk' (Nat.le_refl _), by omega⟩, ?_⟩
      · rw [← ints_app]; simpa [upd_app] using hO'
      · rw [t0]; simp only [upd_app, if_true, Int.toNat_natCast]; omega
  · rintro t g n' ⟨hO, hk⟩
    refine s_run (by simp only [runL, awant_none, astep, evl, put, ap_none, List.length_nil, Nat.add_zero, upd_app, ↓reduceIte] <;> rfl) ?_
    refine w_ret ⟨.inr rfl, by simp, ?_⟩
    have := Own.fin (r := []) (j := j) hO (plain_is _) hs hwf hk
    simpa [resVal, upd_app] using this
end Go.Proofs.Ytahinegnblankaa
