import Derived.Test.YtahinegnblankaaF7
namespace Go.Proofs.Ytahinegnblankaa
open Go Abs
set_option linter.unusedSimpArgs false
set_option linter.unusedVariables false

/-- What the reference's Back answers. -/
def rbackE (o : Option (List Nat)) (r : List Nat) (j : Nat) : Eff := match o with
  | none => { v := .tuple #[.slice none 0 0, .bool false], r := r, j := j }
  | some b => { v := .tuple #[(newE 5 (bs b) r j).v, .bool true], r := r, j := j, a := (newE 5 (bs b) r j).a }

theorem rbackE_r (o : Option (List Nat)) (r : List Nat) (j : Nat) : (rbackE o r j).r = r := by cases o <;> rfl
theorem rbackE_w (o : Option (List Nat)) (r : List Nat) (j : Nat) : (rbackE o r j).w = [] := by cases o <;> rfl
theorem rbackE_j (o : Option (List Nat)) (r : List Nat) (j : Nat) : (rbackE o r j).j = j := by cases o <;> rfl
theorem rbackE_fp (o : Option (List Nat)) (r : List Nat) (j : Nat) : (rbackE o r j).fp = r := by simp [Eff.fp, rbackE_r, rbackE_w]

/-- An answer with a new slice in it, nil or a block of one's own. -/
theorem Own.fin_tuple {s2 : Nat → Prop} {g2 g' : Heap} {n n' : Nat} {v' : Value} {e : TypeId} {l : List Value} {r : List Nat} {j : Nat} {q : Bool} (h : Own e g' v' l n n') (hp : ∀ c ∈ l, plain c = true) (hs : ∀ i, s2 i → i < n)
    (hwf : ∀ i b, g2 i = some b → s2 i ∧ ∀ c ∈ b.cells, SV1 s2 c) (hk : Kp n g2 g') :
    ∃ ids, Abs.Fin { v := .tuple #[(newE e l r j).v, .bool q], r := r, j := j, a := (newE e l r j).a } ids s2 g2 n g' (.tuple #[v', .bool q]) := by
  have hold : ∀ i b, g2 i = some b → g' i = some b := fun i b hb => hk.at (hs i (hwf i b hb).1) hb
  obtain ⟨i, h, hi⟩ := h
  rcases h with ⟨_, rfl, h2, h3⟩ | ⟨k, rfl, rfl, h3, h4⟩
  · refine ⟨[], ?_⟩
    rw [newE_nil h2]
    exact fin_plain hs hwf hk rfl (by intro c hc; simp at hc; rcases hc with rfl | rfl <;> trivial)
  · have := hi k rfl
    refine ⟨[k], ?_⟩
    rw [newE_own this.2.2]
    refine fin_one ?_ ?_ this.1 h3 hp hold
    · simp [renT, renA, ren1]
    · intro c hc
      simp at hc
      rcases hc with rfl | rfl
      · exact .inr (.inr rfl)
      · trivial

set_option maxRecDepth 10000 in
theorem refback_spec (v : Value) (l : List Int) (most : Int) (g : Heap) (j : Nat) (hl : l.length ≤ 2 ^ 38) (hm : most ≤ 2 ^ 30) (hv : Src g v 1 l.length (l.map (Value.int .i64))) :
    FnSpec Try.prog 40 [v, .int .i64 most] g (rbackE (if most < 0 then none else rback l most.toNat [] 1) (srcBlk v) j) := by
  refine spec_of_body [4, 5] follows Try.func40 rfl (by kernel_rfl) (by simp [Try.f40]) (by kernel_rfl) rfl ?_
  intro g2 s2 n hg hfr hs hn hwf hsv
  rw [rbackE_fp] at hg
  have hv2 : Src g2 v 1 l.length (l.map (Value.int .i64)) := hv.congr fun i hi => hg i hi
  have hlen := hv2.len Try.underlying22
  have hdom : ∀ i ∈ srcBlk v, i < n := fun i hi => by
    obtain ⟨b, hb⟩ := Option.isSome_iff_exists.1 (hv2.dom i hi)
    exact hs i (hwf i b hb).1
  have outNone : ∀ {t : Nat → Value} {g : Heap} {m : Nat}, t 4 = .slice none 0 0 → t 5 = .bool false → Kp n g2 g → (if most < 0 then none else rback l most.toNat [] 1) = none →
      ((Exit.ret = .normal ∨ Exit.ret = .ret) ∧ (([4, 5] : List Tmp).length ≠ 1 → ∀ r ∈ ([4, 5] : List Tmp), isTup (t r) = false) ∧ ∃ ids, Abs.Fin (rbackE (if most < 0 then none else rback l most.toNat [] 1) (srcBlk v) j) ids s2 g2 n g (resVal [4, 5] t)) := by
    intro t g m h4 h5 hk ho
    rw [ho]
    refine ⟨.inr rfl, fun _ r hr => ?_, [], fin_plain hs hwf hk ?_ (by intro c hc; simp at hc; rcases hc with rfl | rfl <;> trivial)⟩
    · simp at hr
      rcases hr with rfl | rfl
      · rw [h4]; rfl
      · rw [h5]; rfl
    · simp [resVal, h4, h5]
  refine s_run (by simp only [runL, awant_none, astep, evl, put, ap_none, List.length_nil, Nat.add_zero, undef] <;> rfl) ?_
  refine s_run (by simp only [runL, awant_none, astep, evl, put, ap_none, List.length_nil, Nat.add_zero] <;> rfl) ?_
  refine s_run (by simp only [runL, awant_none, astep, evl, put, ap_none, List.length_nil, Nat.add_zero] <;> rfl) ?_
  refine w_assoc (s_run (by simp only [runL, awant_none, astep, evl, put, ap_none, List.length_nil, Nat.add_zero] <;> rfl) ?_)
  by_cases hneg : most < 0
  · have d : decide (most < 0) = true := decide_eq_true hneg
    have dg : decide (most ≥ 0) = false := decide_eq_false (by omega)
    rw [if_pos hneg] at outNone ⊢
    refine s_for 0 l.length (fun k t g n' => k = 0 ∧ t 0 = v ∧ t 1 = .int .i64 most ∧ t 6 = .slice none 0 0 ∧ g = g2) (by omega) (by omega) (by simp []) ⟨rfl, by simp [upd_app], by simp [upd_app], by simp [upd_app], rfl⟩ ?_ ?_ ?_
    · rintro k t g n' hk t8 ⟨rfl, t0, t1, t6, rfl⟩
      have dl : decide (((0 : Nat) : Int) < (l.length : Int)) = decide (0 < l.length) := by simp
      exact ⟨_, (by simp only [runL, awant_none, astep, evl, put, ap_none, List.length_nil, Nat.add_zero, upd_app, stepBin, abin, stepCall, reduceCtorEq, ↓reduceIte, Nat.reduceEqDiff, t8, t0, hlen, dl] <;> rfl), by simp [], by simp [upd_app, t8], rfl, by simp [upd_app, t0], by simp [upd_app, t1], by simp [upd_app, t6], rfl⟩
    · rintro k t g n' hk t8 ⟨rfl, t0, t1, t6, rfl⟩
      obtain ⟨pa, i1, i2, _⟩ := hv2.at1 (P := Try.prog) (i := 0) (c := .int .i64 l[0]) (by simp [hk]) Try.underlying22 tsize3 aggT3
      refine w_assoc ?_
      have fin : ∀ b : Bool, b = true → (decide (l[0] < 0) = b ∨ (decide (l[0] < 0) = false ∧ True)) ∨ True := fun _ _ => .inr trivial
      by_cases c1 : l[0] < 0
      · have e1 : decide (l[0] < 0) = true := decide_eq_true c1
        refine s_run (by simp only [runL, awant_some, List.getElem?_toArray, List.getElem?_cons_succ, List.getElem?_cons_zero, Option.bind_some, b_tf, awant_none, astep, evl, put, ap_none, List.length_nil, Nat.add_zero, upd_app, stepBin, abin, stepPick, ↓reduceIte, Nat.reduceEqDiff, undef, t0, t8, i1, i2, e1] <;> rfl) ?_
        refine s_true (by simp [evl]) (w_assoc (s_run (by simp only [runL, awant_none, astep, evl, put, ap_none, List.length_nil, Nat.add_zero] <;> rfl) (s_ret ?_)))
        exact outNone (m := 0) (by simp [upd_app]) (by simp []) (Kp.refl _ _) rfl
      have e1 : decide (l[0] < 0) = false := decide_eq_false c1
      by_cases c2 : l[0] > 256
      · have e2 : decide (l[0] > 256) = true := decide_eq_true c2
        refine s_run (by simp only [runL, awant_some, List.getElem?_toArray, List.getElem?_cons_succ, List.getElem?_cons_zero, Option.bind_some, b_tf, b_ff, awant_none, astep, evl, put, ap_none, List.length_nil, Nat.add_zero, upd_app, stepBin, abin, stepPick, reduceCtorEq, ↓reduceIte, Nat.reduceEqDiff, Bool.false_eq_true, undef, t0, t8, i1, i2, e1, e2] <;> rfl) ?_
        refine s_true (by simp [evl]) (w_assoc (s_run (by simp only [runL, awant_none, astep, evl, put, ap_none, List.length_nil, Nat.add_zero] <;> rfl) (s_ret ?_)))
        exact outNone (m := 0) (by simp [upd_app]) (by simp []) (Kp.refl _ _) rfl
      have e2 : decide (l[0] > 256) = false := decide_eq_false c2
      refine s_run (by simp only [runL, awant_some, List.getElem?_toArray, List.getElem?_cons_succ, List.getElem?_cons_zero, Option.bind_some, b_ff, awant_none, astep, evl, put, ap_none, List.length_nil, Nat.add_zero, upd_app, stepBin, abin, stepPick, reduceCtorEq, ↓reduceIte, Nat.reduceEqDiff, Bool.false_eq_true, t0, t1, t8, i1, i2, e1, e2, d] <;> rfl) ?_
      refine s_true (by simp [evl]) (w_assoc (s_run (by simp only [runL, awant_none, astep, evl, put, ap_none, List.length_nil, Nat.add_zero] <;> rfl) (s_ret ?_)))
      exact outNone (m := 0) (by simp [upd_app]) (by simp []) (Kp.refl _ _) rfl
    · rintro t g n' ⟨hk0, t0, t1, t6, rfl⟩
      refine s_run (by simp only [runL, awant_some, List.getElem?_toArray, List.getElem?_cons_succ, List.getElem?_cons_zero, Option.bind_some, b_ft, awant_none, astep, evl, put, ap_none, List.length_nil, Nat.add_zero, upd_app, stepBin, abin, stepPick, ↓reduceIte, Nat.reduceEqDiff, Bool.false_eq_true, undef, t1, t6, dg] <;> rfl) ?_
      exact w_ret (outNone (m := 0) (by simp [upd_app]) (by simp []) (Kp.refl _ _) rfl)
  have d : decide (most < 0) = false := decide_eq_false hneg
  have dg : decide (most ≥ 0) = true := decide_eq_true (by omega)
  rw [if_neg hneg] at outNone ⊢
  obtain ⟨m, rfl⟩ : ∃ m : Nat, most = m := ⟨most.toNat, by omega⟩
  rw [Int.toNat_natCast] at outNone ⊢
  refine s_for 0 l.length (fun k t g n' => ∃ (b : List Nat) (p : Nat), rback (l.drop k) m b p = rback l m [] 1 ∧ b.length ≤ m ∧ 1 ≤ p ∧ p ≤ 2 * m + 1 ∧ t 0 = v ∧ t 1 = .int .i64 m ∧ t 7 = .int .i64 p ∧ Own 5 g (t 6) (bs b) n n' ∧ Kp n g2 g ∧ n ≤ n') (by omega) (by omega) (by simp [])
    ⟨[], 1, by simp, by simp, by omega, by omega, by simp [upd_app], by simp [upd_app], by simp [upd_app], by simp [upd_app]; exact Own.nil 5 g2 n n, Kp.refl _ _, Nat.le_refl _⟩ ?_ ?_ ?_
  · rintro k t g n' hk t8 ⟨b, p, ho, hbm, hp1, hp2, t0, t1, t7, hO, hkp, hnn⟩
    have dl : decide ((k : Int) < (l.length : Int)) = decide (k < l.length) := by simp
    exact ⟨_, (by simp only [runL, awant_none, astep, evl, put, ap_none, List.length_nil, Nat.add_zero, upd_app, stepBin, abin, stepCall, reduceCtorEq, ↓reduceIte, Nat.reduceEqDiff, t8, t0, hlen, dl] <;> rfl), by simp [], by simp [upd_app, t8], b, p, ho, hbm, hp1, hp2, by simp [upd_app, t0], by simp [upd_app, t1], by simp [upd_app, t7], by simpa [upd_app] using hO, hkp, hnn⟩
  · rintro k t g n' hk t8 ⟨b, p, ho, hbm, hp1, hp2, t0, t1, t7, hO, hkp, hnn⟩
    have hvg := hkp.src hv2 hdom
    obtain ⟨pa, i1, i2, _⟩ := hvg.at1 (P := Try.prog) (i := k) (c := .int .i64 l[k]) (by simp [hk]) Try.underlying22 tsize3 aggT3
    rw [List.drop_eq_getElem_cons hk] at ho
    generalize l[k] = x at i2 ho
    rw [rback] at ho
    refine w_assoc ?_
    by_cases c1 : x < 0
    · have e1 : decide (x < 0) = true := decide_eq_true c1
      refine s_run (by simp only [runL, awant_some, List.getElem?_toArray, List.getElem?_cons_succ, List.getElem?_cons_zero, Option.bind_some, b_tf, awant_none, astep, evl, put, ap_none, List.length_nil, Nat.add_zero, upd_app, stepBin, abin, stepPick, ↓reduceIte, Nat.reduceEqDiff, undef, t0, t8, i1, i2, e1] <;> rfl) ?_
      refine s_true (by simp [evl]) (w_assoc (s_run (by simp only [runL, awant_none, astep, evl, put, ap_none, List.length_nil, Nat.add_zero] <;> rfl) (s_ret ?_)))
      exact outNone (m := 0) (by simp [upd_app]) (by simp []) hkp (by rw [← ho, if_pos (.inl c1)])
    have e1 : decide (x < 0) = false := decide_eq_false c1
    by_cases c2 : x > 256
    · have e2 : decide (x > 256) = true := decide_eq_true c2
      refine s_run (by simp only [runL, awant_some, List.getElem?_toArray, List.getElem?_cons_succ, List.getElem?_cons_zero, Option.bind_some, b_tf, b_ff, awant_none, astep, evl, put, ap_none, List.length_nil, Nat.add_zero, upd_app, stepBin, abin, stepPick, reduceCtorEq, ↓reduceIte, Nat.reduceEqDiff, Bool.false_eq_true, undef, t0, t8, i1, i2, e1, e2] <;> rfl) ?_
      refine s_true (by simp [evl]) (w_assoc (s_run (by simp only [runL, awant_none, astep, evl, put, ap_none, List.length_nil, Nat.add_zero] <;> rfl) (s_ret ?_)))
      exact outNone (m := 0) (by simp [upd_app]) (by simp []) hkp (by rw [← ho, if_pos (.inr (by omega))])
    have e2 : decide (x > 256) = false := decide_eq_false c2
    rw [if_neg (by omega)] at ho
    obtain ⟨u, rfl⟩ : ∃ u : Nat, x = u := ⟨x.toNat, by omega⟩
    refine s_run (by simp only [runL, awant_some, List.getElem?_toArray, List.getElem?_cons_succ, List.getElem?_cons_zero, Option.bind_some, b_ff, awant_none, astep, evl, put, ap_none, List.length_nil, Nat.add_zero, upd_app, stepBin, abin, stepPick, reduceCtorEq, ↓reduceIte, Nat.reduceEqDiff, Bool.false_eq_true, t0, t1, t8, i1, i2, e1, e2, d] <;> rfl) ?_
    refine s_false (by simp [evl]) (s_skip ?_)
    refine s_run (by simp only [runL, awant_none, astep, evl, put, ap_none, List.length_nil, Nat.add_zero] <;> rfl) ?_
    refine w_gen (fun t => t 8 = .int .i64 k ∧ t 0 = v ∧ t 1 = .int .i64 m ∧ t 7 = .int .i64 p ∧ t 9 = .int .i64 1 ∧ t 10 = .int .u8 0 ∧ Own 5 g (t 6) (bs b) n n') (by simp [upd_app, t8, t0, t1, t7, hO]) ?_
    clear t8 t0 t1 t7 hO
    rintro t ⟨t8, t0, t1, t7, t9, t10, hO⟩
    refine s_cut (fun t g' n'' => g' = g ∧ n'' = n' ∧ ∃ (N c p' : Nat), t 8 = .int .i64 k ∧ t 0 = v ∧ t 1 = .int .i64 m ∧ t 7 = .int .i64 p' ∧ t 9 = .int .i64 N ∧ t 10 = .int .u8 c ∧ Own 5 g (t 6) (bs b) n n' ∧ N ≤ 2 ^ 34 ∧
      (if m < b.length + N then none else rback (l.drop (k + 1)) m (b ++ List.replicate N c) p') = rback l m [] 1 ∧ (¬ m < b.length + N → 1 ≤ p' ∧ p' ≤ 2 * m + 1)) ?_ ?_
    · by_cases c3 : 2 ≤ u
      · have e3 : decide ((u : Int) < 2) = false := decide_eq_false (by omega)
        have w1 : IntKind.i64.wrap ((u : Int) - 1) = ((u - 1 : Nat) : Int) := wrap_sub1 (by omega) (by omega)
        have w2 : IntKind.u8.wrap ((u - 1 : Nat) : Int) = ((u - 1 : Nat) : Int) := wrap8_of (by omega)
        rw [if_pos (by omega), show ((u : Int) - 1).toNat = u - 1 by omega] at ho
        refine s_run (by simp only [runL, awant_none, astep, evl, put, ap_none, List.length_nil, Nat.add_zero, upd_app, stepBin, abin, ↓reduceIte, Nat.reduceEqDiff, t0, t8, i1, i2, e3] <;> rfl) ?_
        refine w_false (by simp [evl]) ?_
        refine region_run (id := 12) (by simp only [runL, awant_none, astep, evl, put, ap_none, List.length_nil, Nat.add_zero, upd_app, stepBin, abin, reduceCtorEq, ↓reduceIte, Nat.reduceEqDiff, t0, t8, i1, i2, w1, conv3_5, w2] <;> rfl) ?_
        exact ⟨rfl, rfl, rfl, 1, u - 1, 1, by simp [upd_app, t8], by simp [upd_app, t0], by simp [upd_app, t1], by simp [], by simp [upd_app, t9], by simp [upd_app], by simpa [upd_app] using hO, by omega, by rw [← ho]; rfl, fun _ => by omega⟩
      · have e3 : decide ((u : Int) < 2) = true := decide_eq_true (by omega)
        have hup : (u + 1) * p ≤ 2 * (2 * 2 ^ 30 + 1) := Nat.mul_le_mul (by omega) (by omega)
        have hle : p ≤ (u + 1) * p := Nat.le_mul_of_pos_left _ (by omega)
        have w1 : IntKind.i64.wrap ((u : Int) + 1) = ((u + 1 : Nat) : Int) := wrap_succ (by omega)
        have w2 : IntKind.i64.wrap ((p : Int) * ((u + 1 : Nat) : Int)) = (((u + 1) * p : Nat) : Int) := by rw [← Int.natCast_mul, Nat.mul_comm]; exact wrap_nat (by omega)
        have w3 : IntKind.i64.wrap ((p : Int) * 2) = ((p * 2 : Nat) : Int) := by rw [wrap64_of (by omega) (by omega)]; simp
        have w4 : (if (1099511627776 : Int) < ((p * 2 : Nat) : Int) then (1099511627776 : Int) else ((p * 2 : Nat) : Int)) = ((p * 2 : Nat) : Int) := if_neg (by omega)
        rw [if_neg (by omega), show ((u : Int) + 1).toNat = u + 1 by omega] at ho
        refine s_run (by simp only [runL, awant_none, astep, evl, put, ap_none, List.length_nil, Nat.add_zero, upd_app, stepBin, abin, ↓reduceIte, Nat.reduceEqDiff, t0, t8, i1, i2, e3] <;> rfl) ?_
        refine w_true (by simp [evl]) ?_
        refine s_run (by simp only [runL, awant_none, astep, evl, put, ap_none, List.length_nil, Nat.add_zero, upd_app, stepBin, abin, reduceCtorEq, ↓reduceIte, Nat.reduceEqDiff, t0, t8, t7, i1, i2, w1, w2] <;> rfl) ?_
        refine region_run (id := 11) (by simp only [runL, awant_none, astep, evl, put, ap_none, List.length_nil, Nat.add_zero, upd_app, stepBin, abin, stepCall, ↓reduceIte, Nat.reduceEqDiff, t7, w3, stepMin, w4] <;> rfl) ?_
        refine ⟨rfl, rfl, rfl, (u + 1) * p, 0, p * 2, by simp [upd_app, t8], by simp [upd_app, t0], by simp [upd_app, t1], by simp [], by simp [upd_app], by simp [upd_app, t10], by simpa [upd_app] using hO, by omega, ?_, fun _ => by omega⟩
        rw [← ho]
        by_cases h : m < b.length + (u + 1) * p
        · rw [if_pos h, if_pos (.inr h)]
        · rw [if_neg h, if_neg (by omega)]
    · clear t8 t0 t1 t7 t9 t10 hO ho
      rintro t g' n'' ⟨rfl, rfl, N, c, p', t8, t0, t1, t7, t9, t10, hO, hN, ho, hp'⟩
      have hlb := hO.src.len (P := Try.prog) Try.underlying24
      rw [show (bs b).length = b.length by simp] at hlb
      have w3 : IntKind.i64.wrap ((m : Int) - (b.length : Int)) = ((m - b.length : Nat) : Int) := wrap_sub hbm (by omega)
      refine w_assoc ?_
      by_cases c5 : m < b.length + N
      · have e5 : decide ((N : Int) > ((m - b.length : Nat) : Int)) = true := decide_eq_true (by omega)
        refine s_run (by simp only [runL, awant_none, astep, evl, put, ap_none, List.length_nil, Nat.add_zero, upd_app, stepBin, abin, stepCall, ↓reduceIte, Nat.reduceEqDiff, t1, t9, hlb, w3, e5] <;> rfl) ?_
        refine s_true (by simp [evl]) (w_assoc (s_run (by simp only [runL, awant_none, astep, evl, put, ap_none, List.length_nil, Nat.add_zero] <;> rfl) (s_ret ?_)))
        exact outNone (m := 0) (by simp [upd_app]) (by simp []) hkp (by rw [← ho, if_pos c5])
      have e5 : decide ((N : Int) > ((m - b.length : Nat) : Int)) = false := decide_eq_false (by omega)
      rw [if_neg c5] at ho
      refine s_run (by simp only [runL, awant_none, astep, evl, put, ap_none, List.length_nil, Nat.add_zero, upd_app, stepBin, abin, stepCall, ↓reduceIte, Nat.reduceEqDiff, t1, t9, hlb, w3, e5] <;> rfl) ?_
      refine s_false (by simp [evl]) (s_skip ?_)
      refine s_run (by simp only [runL, awant_none, astep, evl, put, ap_none, List.length_nil, Nat.add_zero] <;> rfl) ?_
      refine for_loop (P := Try.prog) 0 N (fun q t g n' => t 8 = .int .i64 k ∧ t 0 = v ∧ t 1 = .int .i64 m ∧ t 7 = .int .i64 p' ∧ t 9 = .int .i64 N ∧ t 10 = .int .u8 c ∧ Own 5 g (t 6) (bs (b ++ List.replicate q c)) n n' ∧ Kp n g2 g ∧ n ≤ n') (by omega) (by omega) (by simp [])
        ⟨by simp [upd_app, t8], by simp [upd_app, t0], by simp [upd_app, t1], by simp [upd_app, t7], by simp [upd_app, t9], by simp [upd_app, t10], by simpa [upd_app] using hO, hkp, hnn⟩ ?_ ?_ ?_
      · clear t8 t0 t1 t7 t9 t10 hO hlb
        rintro q t g n' hq t11 ⟨t8, t0, t1, t7, t9, t10, hO, hkp, hnn⟩
        have dl : decide ((q : Int) < (N : Int)) = decide (q < N) := by simp
        exact ⟨_, (by simp only [runL, awant_none, astep, evl, put, ap_none, List.length_nil, Nat.add_zero, upd_app, stepBin, abin, ↓reduceIte, Nat.reduceEqDiff, t11, t9, dl] <;> rfl), by simp [], by simp [upd_app, t11], by simp [upd_app, t8], by simp [upd_app, t0], by simp [upd_app, t1], by simp [upd_app, t7], by simp [upd_app, t9], by simp [upd_app, t10], by simpa [upd_app] using hO, hkp, hnn⟩
      · clear t8 t0 t1 t7 t9 t10 hO hlb
        rintro q t g n' hq t11 ⟨t8, t0, t1, t7, t9, t10, hO, hkp, hnn⟩
        obtain ⟨f, hf, hO', hk'⟩ := hO.push (P := Try.prog) (T := 24) (c := .int .u8 (c : Nat)) Try.underlying24 tinf5 (by simp; omega) (by omega) hnn
        refine region_run (id := 18) (by simp only [runL, awant_none, astep, evl, put, ap_none, ap_new, List.length_nil, List.length_cons, Nat.add_zero, Nat.zero_add, upd_app, stepCall, ↓reduceIte, Nat.reduceEqDiff, List.map_cons, List.map_nil, undef, t10, lit24_1, hf] <;> rfl) ?_
        simp only [rangePost]
        refine ⟨by simp [upd_app, t11], fun _ _ _ => ⟨by simp [upd_app, t8], by simp [upd_app, t0], by simp [upd_app, t1], by simp [upd_app, t7], by simp [upd_app, t9], by simp [upd_app, t10], ?_, fun i hi => by rw [hk' i hi, hkp i hi], by omega⟩⟩
        rw [List.replicate_succ', ← List.append_assoc, ← bs_app]
        simpa [upd_app] using hO'
      · clear t8 t0 t1 t7 t9 t10 hO hlb
        rintro t g n' ⟨t8, t0, t1, t7, t9, t10, hO, hkp, hnn⟩
        simp only [rangePost]
        exact ⟨t8, fun _ _ _ => ⟨_, p', ho, by simp; omega, (hp' c5).1, (hp' c5).2, by simp [upd_app, t0], by simp [upd_app, t1], by simp [upd_app, t7], by simpa [upd_app] using hO, hkp, hnn⟩⟩
  · rintro t g n' ⟨b, p, ho, hbm, hp1, hp2, t0, t1, t7, hO, hkp, hnn⟩
    rw [List.drop_length, rback] at ho
    have hb256 := rback_lt ho.symm (by simp)
    have hrl := tell_rback0 ho.symm
    refine s_take 5 (by simp only [runL, awant_some, List.getElem?_toArray, List.getElem?_cons_succ, List.getElem?_cons_zero, Option.bind_some, b_tt, List.take_succ_cons, List.take_zero, awant_none, astep, evl, put, ap_none, List.length_nil, Nat.add_zero, upd_app, stepBin, abin, ↓reduceIte, Nat.reduceEqDiff, t1, dg] <;> rfl) ?_
    have hbl := rback_len ho.symm (by simp)
    refine g_call 39 _ (by simp only [awant_some, List.getElem?_toArray, List.getElem?_cons_succ, List.getElem?_cons_zero, Option.bind_some, b_tt, upd_app, ↓reduceIte, Nat.reduceEqDiff] <;> rfl) rfl (rtell_spec (t 6) b g n' (by omega) hb256 (by simpa using hO.src)) (by intro _; rw [newE_j]) (ops_heap fun G1 hG1 => ops_num fun N1 hN1 => ?_)
    have k1 : Kp n' g G1 := by rw [hG1]; exact newE_kp (Kp.refl _ _) (Nat.le_refl _)
    have s1 := newE_src 3 (ints (tell b 0)) (srcBlk (t 6)) n' g
    rw [← hG1] at s1
    generalize (newE 3 (ints (tell b 0)) (srcBlk (t 6)) n').v = u1 at s1 ⊢
    have hOk := hO.keep k1 (show n' ≤ N1 by omega)
    refine ops_take 1 (by simp only [runL, awant_some, List.getElem?_toArray, List.getElem?_cons_succ, List.getElem?_cons_zero, Option.bind_some, b_tt, List.take_succ_cons, List.take_zero, astep, evl, put, ap_none, List.length_nil, Nat.add_zero, upd_app, reduceCtorEq, ↓reduceIte, Nat.reduceEqDiff, t0] <;> rfl) ?_
    have hkv : Kp n g2 G1 := fun q hq => by rw [k1 q (by omega), hkp q hq]
    have hT := tell_len b 0
    have hi := ints_spec u1 v (zs (tell b 0)) l G1 (by simp; omega) (by omega) (by rw [ints_ints] at s1; simpa using s1) (hkv.src hv2 hdom)
    rw [hrl, decide_eq_true rfl] at hi
    refine g_call 38 _ (by simp only [awant_some, List.getElem?_toArray, List.getElem?_cons_succ, List.getElem?_cons_zero, Option.bind_some, b_tt, upd_app, ↓reduceIte, Nat.reduceEqDiff] <;> rfl) rfl hi (by simp) ?_
    refine ops_run (by simp only [runL, awant_none, astep, evl, put, ap_none, List.length_nil, Nat.add_zero, upd_app, stepPick, ↓reduceIte, Nat.reduceEqDiff] <;> rfl) ?_
    rw [← ho]
    obtain ⟨ids, hF⟩ := hOk.fin_tuple (r := srcBlk v) (j := j) (q := true) (plain_bs b) hs hwf hkv
    refine w_ret ⟨.inr rfl, fun _ r hr => ?_, ids, ?_⟩
    · simp at hr
      have hnt : isTup (t 6) = false := by
        obtain ⟨i, h, _⟩ := hO
        rcases h with ⟨_, h, _⟩ | ⟨q, _, h, _⟩ <;> rw [h] <;> rfl
      rcases hr with rfl | rfl
      · simpa [upd_app] using hnt
      · simp [isTup]
    · have hF' : Abs.Fin (rbackE (some b) (srcBlk v) j) ids s2 g2 n G1 (.tuple #[t 6, .bool true]) := hF
      simpa [resVal, upd_app, put] using hF'
end Go.Proofs.Ytahinegnblankaa
