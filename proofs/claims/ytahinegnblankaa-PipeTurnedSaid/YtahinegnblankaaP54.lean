import Derived.Test.YtahinegnblankaaP53
import Derived.Test.YtahinegnblankaaP43
namespace Go.Proofs.Ytahinegnblankaa
open Go Abs
set_option linter.unusedSimpArgs false
set_option linter.unusedVariables false

theorem ints_snoc (l : List Nat) (x : Nat) : ints l ++ [.int .i64 (x : Int)] = ints (l ++ [x]) := by simp

set_option maxRecDepth 10000 in
/-- The end of a round of symbols: the end is found, or the symbol is kept and seen. -/
theorem sym_rest {Q : AQ} {A B s o x : Nat} {ms : Nat → List Nat} {ok : Bool} {pre : List Nat} {R most : Value} {t : Nat → Value} {g : Heap} {n' : Nat} (t2 : t 2 = most) (t8 : t 8 = R) (t9 : t 9 = .bool ok) (t10 : t 10 = ptr5 A) (t15 : t 15 = .int .i64 (x : Nat)) (ho : o ≤ 1) (hO : Own 3 g (t 11) (ints pre) B n') (hMs : Ms A ms (clsN s) o g) (hG : Good (ms (whN o s))) (hx : x < (ms (whN o s)).length) (hpl : pre.length ≤ 2 ^ 38) (hAB : A + 7 ≤ B) (hBn : B ≤ n')
    (hret : ok = true → x = 257 → ∀ t' : Nat → Value, t' 6 = t 11 → t' 7 = .bool true → Q .ret t' g n')
    (hgo : ¬ (ok = true ∧ x = 257) → ∀ (t' : Nat → Value) (g' : Heap) (n'' : Nat), t' 2 = most → t' 8 = R → t' 9 = .bool ok → t' 10 = ptr5 A → n' ≤ n'' → Own 3 g' (t' 11) (ints (pre ++ [x])) B n'' → Ms A (setF ms (whN o s) (saw (ms (whN o s)) x)) (clsN x) o g' → (∀ q, q < B → (q < A ∨ A + 7 ≤ q) → g' q = g q) → Q .normal t' g' n'') :
    awp Try.prog (Try.f86.body.getD .skip |> cr |> cr |> cr |> cr |> cl |> cb |> cb |> cr |> cb |> cr |> cr |> cr |> cr |> cr) Q t g n' := by
  show awp Try.prog (.seq (.seq _ _) _) _ t g n'
  have go : ¬ (ok = true ∧ x = 257) → ∀ t : Nat → Value, t 2 = most → t 8 = R → t 9 = .bool ok → t 10 = ptr5 A → t 15 = .int .i64 (x : Nat) → Own 3 g (t 11) (ints pre) B n' → awp Try.prog (Try.f86.body.getD .skip |> cr |> cr |> cr |> cr |> cl |> cb |> cb |> cr |> cb |> cr |> cr |> cr |> cr |> cr |> cr) Q t g n' := by
    intro hno t t2 t8 t9 t10 t15 hO
    show awp Try.prog (.seq (.region _ _ _) _) Q t g n'
    obtain ⟨f, hf, hO2, hk⟩ := hO.push (P := Try.prog) (T := 22) (c := .int .i64 (x : Int)) Try.underlying22 tinf3 (by simp; omega) (by omega) hBn
    refine s_run (by simp only [runL, awant_none, astep, evl, put, ap_none, ap_new, List.length_nil, List.length_cons, Nat.add_zero, Nat.zero_add, upd_app, stepCall, ↓reduceIte, Nat.reduceEqDiff, List.map_cons, List.map_nil, undef, t15, lit22_1, hf] <;> rfl) (w_heap fun G1 hG1 => ?_)
    have hG1' : G1 = f.ap (upd g n' (some ⟨false, 3, [.int .i64 (x : Int)]⟩)) := hG1
    rw [← hG1', ints_snoc] at hO2
    rw [← hG1'] at hk
    have hMs1 : Ms A ms (clsN s) o G1 := hMs.congr fun i h1 h2 => hk i (by omega)
    obtain ⟨a1, a2⟩ := msE_ap (cls' := clsN x) (c := saw (ms (whN o s)) x) hMs1 (whN_lt (s := s) ho)
    refine region_take (id := 13) 2 (by simp only [runL, List.take_succ_cons, List.take_zero, awant_none, astep, evl, put, ap_none, List.length_nil, Nat.add_zero, upd_app, ↓reduceIte, Nat.reduceEqDiff, t10, t15] <;> rfl) ?_
    refine ops_call 83 _ rfl (msaw_spec A ms s o x G1 ho hMs1 hG hx) (by simp [msE]) (ops_heap fun G2 hG2 => ?_)
    have hG2' : G2 = (msE A (whN o s) (clsN x) o (saw (ms (whN o s)) x)).ap G1 := hG2
    rw [← hG2'] at a1 a2
    refine ops_run (by simp only [runL, put] <;> rfl) ?_
    refine hgo hno _ _ _ (by simp [upd_app, t2]) (by simp [upd_app, t8]) (by simp [upd_app, t9]) (by simp [upd_app, t10]) (by show n' ≤ n' + 1 + f.a.length; omega) ?_ a1 (fun q h1 h2 => ?_)
    · have : Own 3 G2 f.v (ints (pre ++ [x])) B (n' + 1 + f.a.length) := by
        obtain ⟨i, h1, h2⟩ := hO2
        exact ⟨i, h1.keep fun k hk => a2 k (.inr (by have := h2 k hk; omega)), h2⟩
      simpa [upd_app, put, msE] using this
    · show G2 q = g q
      rw [a2 q h2, hk q h1]
  cases ok with
  | false =>
    refine w_assoc (s_run (by simp only [runL, awant_some, List.getElem?_toArray, List.getElem?_cons_succ, List.getElem?_cons_zero, Option.bind_some, b_ft, awant_none, astep, evl, put, ap_none, List.length_nil, Nat.add_zero, upd_app, stepPick, ↓reduceIte, Nat.reduceEqDiff, Bool.false_eq_true, undef, t9] <;> rfl) ?_)
    refine s_false (by simp [evl]) (s_skip ?_)
    exact go (by simp) _ (by simp [upd_app, t2]) (by simp [upd_app, t8]) (by simp [upd_app, t9]) (by simp [upd_app, t10]) (by simp [upd_app, t15]) (by simpa [upd_app] using hO)
  | true =>
    by_cases hxx : x = 257
    · have e1 : (((x : Nat) : Int) == 257) = true := ieq_t (by omega)
      refine w_assoc (s_run (by simp only [runL, awant_some, List.getElem?_toArray, List.getElem?_cons_succ, List.getElem?_cons_zero, Option.bind_some, b_tt, awant_none, astep, evl, put, ap_none, List.length_nil, Nat.add_zero, upd_app, stepBin, abin, stepPick, ↓reduceIte, Nat.reduceEqDiff, t9, t15, e1] <;> rfl) ?_)
      refine s_true (by simp [evl]) (w_assoc (s_run (by simp only [runL, awant_none, astep, evl, put, ap_none, List.length_nil, Nat.add_zero, upd_app, ↓reduceIte, Nat.reduceEqDiff] <;> rfl) ?_))
      exact s_ret (hret rfl hxx _ (by simp [upd_app]) (by simp []))
    · have e1 : (((x : Nat) : Int) == 257) = false := ieq_f (by omega)
      refine w_assoc (s_run (by simp only [runL, awant_some, List.getElem?_toArray, List.getElem?_cons_succ, List.getElem?_cons_zero, Option.bind_some, b_tt, awant_none, astep, evl, put, ap_none, List.length_nil, Nat.add_zero, upd_app, stepBin, abin, stepPick, ↓reduceIte, Nat.reduceEqDiff, t9, t15, e1] <;> rfl) ?_)
      refine s_false (by simp [evl]) (s_skip ?_)
      exact go (by simp [hxx]) _ (by simp [upd_app, t2]) (by simp [upd_app, t8]) (by simp [upd_app, t9]) (by simp [upd_app, t10]) (by simp [upd_app, t15]) (by simpa [upd_app] using hO)

/-- What a reader and its models are such that the next round goes well. -/
structure DG (F : List Nat) (d : DS) : Prop where
  g : ∀ i, Good (d.ms i)
  l : ∀ i, (d.ms i).length = 258
  r1 : 2 ^ 24 ≤ d.r
  r2 : d.r < 2 ^ 32
  u : d.u ≤ F.length
  c : d.c < 2 ^ 32
theorem DG.start {F : List Nat} (hF : ∀ x ∈ F, x < 256) (h4 : 4 ≤ F.length) : DG F (ds0 F) := by
  refine ⟨fun _ => good_ones (by omega), fun _ => by simp [ds0], by show 2 ^ 24 ≤ 4294967295; omega, by show 4294967295 < 2 ^ 32; omega, h4, ?_⟩
  have := be_lt (l := F.take 4) (fun x hx => hF x (List.mem_of_mem_take hx))
  rw [show (F.take 4).length = 4 by simp; omega] at this
  show be (F.take 4) < 2 ^ 32
  simpa using this

theorem dq_lt {F : List Nat} {o : Nat} {d : DS} (h : DG F d) (hB : cfB d.c d.r ((d.ms (whN o d.last)).sum : Nat) = true) : d.c / (d.r / (d.ms (whN o d.last)).sum) < (d.ms (whN o d.last)).sum := by
  have := of_decide_eq_true hB
  rw [Int.toNat_natCast] at this
  exact this.2.2

theorem DG.next {F : List Nat} {o : Nat} {d : DS} (hF : ∀ x ∈ F, x < 256) (h : DG F d) (hB : dsB o F.length d = true) : DG F (dsN o F d) := by
  unfold dsB at hB
  rw [Bool.and_eq_true] at hB
  have hx : dsx o d < (d.ms (whN o d.last)).length := find_lt (dq_lt h hB.1)
  obtain ⟨k1, k2, k3, k4⟩ := tk_keep hF h.r1 h.r2 h.u h.c (.inl hB.2)
  refine ⟨fun i => ?_, fun i => ?_, k1, k2, k3, k4⟩
  · show Good (setF d.ms (whN o d.last) (saw (d.ms (whN o d.last)) (dsx o d)) i)
    by_cases e : i = whN o d.last
    · subst e
      rw [setF_self]
      exact (h.g _).saw hx
    · rw [setF_ne e]; exact h.g i
  · show (setF d.ms (whN o d.last) (saw (d.ms (whN o d.last)) (dsx o d)) i).length = 258
    by_cases e : i = whN o d.last
    · subst e
      rw [setF_self, saw_len]
      exact h.l _
    · rw [setF_ne e]; exact h.l i

set_option maxRecDepth 10000 in
/-- A round of symbols. -/
theorem sym_round {Q : AQ} {p A B o : Nat} {bv lv most : Value} {F pre : List Nat} {d : DS} {t : Nat → Value} {g : Heap} {n' : Nat} (t2 : t 2 = most) (t8 : t 8 = ptr4 p) (t10 : t 10 = ptr5 A) (t11 : t 11 = lv) (ho : o ≤ 1) (hF : ∀ x ∈ F, x < 256) (hFl : F.length ≤ 2 ^ 38) (hO : Own 3 g lv (ints pre) B n') (hR : Rd 91 p bv F d.u d.c d.r g) (hMs : Ms A d.ms (clsN d.last) o g) (hDG : DG F d) (hpl : pre.length ≤ 2 ^ 38) (hpA : p < A) (hAB : A + 7 ≤ B) (hBn : B ≤ n')
    (hret : dsB o F.length d = true → dsx o d = 257 → ∀ (t' : Nat → Value) (g' : Heap), t' 6 = lv → t' 7 = .bool true → Own 3 g' lv (ints pre) B n' → (∀ q, q < B → q ≠ p → g' q = g q) → Q .ret t' g' n')
    (hno : dsB o F.length d = false → ∀ (t' : Nat → Value) (g' : Heap) (n'' : Nat), t' 2 = most → t' 9 = .bool false → (∀ q, q < B → q ≠ p → (q < A ∨ A + 7 ≤ q) → g' q = g q) → Q .normal t' g' n'')
    (hgo : dsB o F.length d = true → dsx o d ≠ 257 → ∀ (t' : Nat → Value) (g' : Heap) (n'' : Nat), t' 2 = most → t' 8 = ptr4 p → t' 9 = .bool true → t' 10 = ptr5 A → n' ≤ n'' → Own 3 g' (t' 11) (ints (pre ++ [dsx o d])) B n'' → Rd 91 p bv F (dsN o F d).u (dsN o F d).c (dsN o F d).r g' → Ms A (dsN o F d).ms (clsN (dsN o F d).last) o g' → (∀ q, q < B → q ≠ p → (q < A ∨ A + 7 ≤ q) → g' q = g q) → Q .normal t' g' n'') (hbv : ∀ i ∈ srcBlk bv, i < A) :
    awp Try.prog (Try.f86.body.getD .skip |> cr |> cr |> cr |> cr |> cl |> cb |> cb |> cr |> cb) Q t g n' := by
  show awp Try.prog (.seq (.region _ _ _) _) Q t g n'
  have hw := whN_lt (s := d.last) ho
  have hnow := now_spec A d.ms d.last o g ho hMs
  have hMo := hMs.mo _ hw
  have hGd := hDG.g (whN o d.last)
  have hcl := hDG.l (whN o d.last)
  have hsum := hGd.sum
  have htot := total_spec _ _ (d.ms (whN o d.last)) g hMo
  have hs0 : 0 < (d.ms (whN o d.last)).sum := by
    have := good_span hGd (x := 0) (by omega)
    omega
  have hfd := cfind_spec p _ F d.u d.c d.r ((d.ms (whN o d.last)).sum : Nat) g hR hDG.r1 hDG.r2 (by have := hDG.c; omega)
  refine s_take 1 (by simp only [runL, List.take_succ_cons, List.take_zero, awant_none, astep, evl, put, ap_none, List.length_nil, Nat.add_zero, t10] <;> rfl) ?_
  refine ops_call 82 _ rfl hnow (by simp) ?_
  refine ops_take 0 rfl ?_
  refine ops_call 45 _ rfl htot (by simp) ?_
  refine ops_run (by simp only [runL, awant_none, astep, evl, put, ap_none, List.length_nil, Nat.add_zero, upd_app, ↓reduceIte] <;> rfl) ?_
  refine w_gen (fun t => t 2 = most ∧ t 8 = ptr4 p ∧ t 10 = ptr5 A ∧ t 11 = lv ∧ t 12 = .int .i64 ((d.ms (whN o d.last)).sum : Nat)) (by simp [upd_app, t2, t8, t10, t11]) ?_
  clear t2 t8 t10 t11
  rintro t ⟨t2, t8, t10, t11, t12⟩
  refine s_take 2 (by simp only [runL, List.take_succ_cons, List.take_zero, awant_none, astep, evl, put, ap_none, List.length_nil, Nat.add_zero, upd_app, ↓reduceIte, Nat.reduceEqDiff, t8, t12] <;> rfl) ?_
  refine ops_call 54 _ rfl hfd (by simp) ?_
  refine ops_run (by simp only [runL, List.getElem?_toArray, List.getElem?_cons_succ, List.getElem?_cons_zero, awant_none, astep, evl, put, ap_none, List.length_nil, Nat.add_zero, upd_app, stepExtract, ↓reduceIte, Nat.reduceEqDiff] <;> rfl) ?_
  -- what is found
  obtain ⟨q, hq, hqv⟩ : ∃ q : Nat, q < (d.ms (whN o d.last)).sum ∧ cfA d.c d.r ((d.ms (whN o d.last)).sum : Nat) = (q : Int) ∧ (cfB d.c d.r ((d.ms (whN o d.last)).sum : Nat) = true → find (d.ms (whN o d.last)) q = dsx o d) := by
    cases hB : cfB d.c d.r ((d.ms (whN o d.last)).sum : Nat) with
    | true => exact ⟨_, dq_lt hDG hB, by unfold cfA; rw [if_pos hB, Int.toNat_natCast], fun _ => rfl⟩
    | false => exact ⟨0, hs0, by unfold cfA; rw [hB]; rfl, by simp⟩
  rw [hqv.1]
  refine w_gen (fun t => t 2 = most ∧ t 8 = ptr4 p ∧ t 10 = ptr5 A ∧ t 11 = lv ∧ t 12 = .int .i64 ((d.ms (whN o d.last)).sum : Nat) ∧ t 13 = .int .i64 q ∧ t 14 = .bool (cfB d.c d.r ((d.ms (whN o d.last)).sum : Nat))) (by simp [upd_app, t2, t8, t10, t11, t12]) ?_
  clear t2 t8 t10 t11 t12
  rintro t ⟨t2, t8, t10, t11, t12, t13, t14⟩
  refine s_take 1 (by simp only [runL, List.take_succ_cons, List.take_zero, awant_none, astep, evl, put, ap_none, List.length_nil, Nat.add_zero, t10] <;> rfl) ?_
  refine ops_call 82 _ rfl hnow (by simp) ?_
  refine ops_take 1 (by simp only [runL, List.take_succ_cons, List.take_zero, awant_none, astep, evl, put, ap_none, List.length_nil, Nat.add_zero, upd_app, ↓reduceIte, Nat.reduceEqDiff, t13] <;> rfl) ?_
  refine ops_call 49 _ rfl (find_yes _ _ (d.ms (whN o d.last)) q g hMo (by omega) (by omega) hq) (by simp) ?_
  refine ops_run (by simp only [runL, List.getElem?_toArray, List.getElem?_cons_succ, List.getElem?_cons_zero, awant_none, astep, evl, put, ap_none, List.length_nil, Nat.add_zero, upd_app, stepExtract, ↓reduceIte, Nat.reduceEqDiff] <;> rfl) ?_
  have hxl := find_lt hq
  obtain ⟨x, hx⟩ : ∃ x, find (d.ms (whN o d.last)) q = x := ⟨_, rfl⟩
  rw [hx] at hxl
  rw [hx] at hqv
  rw [hx]
  refine w_gen (fun t => t 2 = most ∧ t 8 = ptr4 p ∧ t 10 = ptr5 A ∧ t 11 = lv ∧ t 12 = .int .i64 ((d.ms (whN o d.last)).sum : Nat) ∧ t 14 = .bool (cfB d.c d.r ((d.ms (whN o d.last)).sum : Nat)) ∧ t 15 = .int .i64 x ∧ t 16 = .bool true) (by simp [upd_app, t2, t8, t10, t11, t12, t14]) ?_
  clear t2 t8 t10 t11 t12 t13 t14
  rintro t ⟨t2, t8, t10, t11, t12, t14, t15, t16⟩
  refine s_take 1 (by simp only [runL, List.take_succ_cons, List.take_zero, awant_none, astep, evl, put, ap_none, List.length_nil, Nat.add_zero, t10] <;> rfl) ?_
  refine ops_call 82 _ rfl hnow (by simp) ?_
  refine ops_take 1 (by simp only [runL, List.take_succ_cons, List.take_zero, awant_none, astep, evl, put, ap_none, List.length_nil, Nat.add_zero, upd_app, ↓reduceIte, Nat.reduceEqDiff, t15] <;> rfl) ?_
  refine ops_call 47 _ rfl (span_yes _ _ (d.ms (whN o d.last)) x g hMo (by omega) (by omega) hxl) (by simp) ?_
  refine ops_run (by simp only [runL, List.getElem?_toArray, List.getElem?_cons_succ, List.getElem?_cons_zero, awant_none, astep, evl, put, ap_none, List.length_nil, Nat.add_zero, upd_app, stepExtract, ↓reduceIte, Nat.reduceEqDiff] <;> rfl) ?_
  refine w_gen (fun t => t 2 = most ∧ t 8 = ptr4 p ∧ t 10 = ptr5 A ∧ t 11 = lv ∧ t 12 = .int .i64 ((d.ms (whN o d.last)).sum : Nat) ∧ t 14 = .bool (cfB d.c d.r ((d.ms (whN o d.last)).sum : Nat)) ∧ t 15 = .int .i64 x ∧ t 16 = .bool true ∧ t 17 = .int .i64 (((d.ms (whN o d.last)).take x).sum : Nat) ∧ t 18 = .int .i64 (byt (d.ms (whN o d.last)) x : Nat)) (by simp [upd_app, t2, t8, t10, t11, t12, t14, t15, t16]) ?_
  clear t2 t8 t10 t11 t12 t14 t15 t16
  rintro t ⟨t2, t8, t10, t11, t12, t14, t15, t16, t17, t18⟩
  -- the end of the round, for what came of it
  have rest : ∀ (ok : Bool) (t : Nat → Value) (G : Heap) (u' c' r' : Nat), t 2 = most → t 8 = ptr4 p → t 9 = .bool ok → t 10 = ptr5 A → t 11 = lv → t 15 = .int .i64 (x : Nat) → ok = dsB o F.length d → (ok = true → x = dsx o d) → (∀ i, i ≠ p → G i = g i) → Rd 91 p bv F u' c' r' G → (ok = true → u' = (dsN o F d).u ∧ c' = (dsN o F d).c ∧ r' = (dsN o F d).r) →
      awp Try.prog (Try.f86.body.getD .skip |> cr |> cr |> cr |> cr |> cl |> cb |> cb |> cr |> cb |> cr |> cr |> cr |> cr |> cr) Q t G n' := by
    intro ok t G u' c' r' t2 t8 t9 t10 t11 t15 hok hxd hGo hR' hdn
    have hO' : Own 3 G (t 11) (ints pre) B n' := by
      rw [t11]
      obtain ⟨i, h1, h2⟩ := hO
      exact ⟨i, h1.keep fun k hk => hGo k (by have := h2 k hk; omega), h2⟩
    have hMs' : Ms A d.ms (clsN d.last) o G := hMs.congr fun i h1 h2 => hGo i (by omega)
    refine sym_rest t2 t8 t9 t10 t15 ho hO' hMs' hGd hxl hpl hAB hBn (fun h1 h2 t' h6 h7 => ?_) (fun hn2 t' g' n'' h2 h8 h9 h10 hnn hO2 hM2 hf => ?_)
    · rw [t11] at h6 hO'
      exact hret (by rw [← hok]; exact h1) (by rw [← hxd h1]; exact h2) t' G h6 h7 hO' (fun q h1 h2 => hGo q h2)
    · have hfr : ∀ q, q < B → q ≠ p → (q < A ∨ A + 7 ≤ q) → g' q = g q := fun q a1 a2 a3 => by rw [hf q a1 a3, hGo q a2]
      cases hB : ok with
      | false =>
        rw [hB] at h9 hok
        exact hno hok.symm t' g' n'' h2 h9 hfr
      | true =>
        rw [hB] at h9 hok hxd hdn hn2
        have hxe := hxd rfl
        obtain ⟨e1, e2, e3⟩ := hdn rfl
        rw [hxe] at hO2 hM2 hn2
        rw [e1, e2, e3] at hR'
        exact hgo hok.symm (fun e => hn2 ⟨rfl, e⟩) t' g' n'' h2 h8 h9 h10 hnn hO2 (hR'.congr (hf p (by omega) (.inl hpA)) (fun i hi => hf i (by have := hbv i hi; omega) (.inl (hbv i hi)))) hM2 hfr
  cases hB : cfB d.c d.r ((d.ms (whN o d.last)).sum : Nat) with
  | false =>
    rw [hB] at t14
    have hD : dsB o F.length d = false := by unfold dsB; rw [hB]; rfl
    refine s_run (by simp only [runL, awant_some, List.getElem?_toArray, List.getElem?_cons_succ, List.getElem?_cons_zero, Option.bind_some, b_ft, awant_none, astep, evl, put, ap_none, List.length_nil, Nat.add_zero, upd_app, stepPick, ↓reduceIte, Nat.reduceEqDiff, Bool.false_eq_true, undef, t14] <;> rfl) ?_
    exact rest false _ g d.u d.c d.r (by simp [upd_app, t2]) (by simp [upd_app, t8]) (by simp []) (by simp [upd_app, t10]) (by simp [upd_app, t11]) (by simp [upd_app, t15]) hD.symm (by simp) (fun _ _ => rfl) hR (by simp)
  | true =>
    rw [hB] at t14
    have hxd := hqv.2 hB
    obtain ⟨E, hE, hEv, hEa, hEr, hEw, hR', hEf⟩ := take_any (x := (((d.ms (whN o d.last)).take x).sum : Nat)) (y := (byt (d.ms (whN o d.last)) x : Nat)) (z := ((d.ms (whN o d.last)).sum : Nat)) hR hF hDG.r1 hDG.r2 hDG.u hFl (by have := hDG.c; omega) (by have := sum_take_le (d.ms (whN o d.last)) x; omega) (by omega)
    have hD : dsB o F.length d = tkB F.length d.u d.c d.r (((d.ms (whN o d.last)).take x).sum : Nat) (byt (d.ms (whN o d.last)) x : Nat) ((d.ms (whN o d.last)).sum : Nat) := by unfold dsB; rw [hB, ← hxd]; rfl
    rw [← hD] at hEv
    refine s_take 9 (by simp only [runL, awant_some, List.getElem?_toArray, List.getElem?_cons_succ, List.getElem?_cons_zero, Option.bind_some, b_tt, List.take_succ_cons, List.take_zero, awant_none, astep, evl, put, ap_none, List.length_nil, Nat.add_zero, upd_app, stepPick, ↓reduceIte, Nat.reduceEqDiff, t14, t16, t8, t17, t18, t12] <;> rfl) ?_
    refine g_call 56 E (by simp only [awant_some, List.getElem?_toArray, List.getElem?_cons_succ, List.getElem?_cons_zero, Option.bind_some, b_tt, upd_app, ↓reduceIte, Nat.reduceEqDiff] <;> rfl) rfl hE (fun h => (h hEa).elim) (ops_heap fun G1 hG1 => ops_num fun N1 hN1 => ?_)
    have hG1' : G1 = E.ap g := hG1
    have hN1' : N1 = n' := by rw [hN1, hEa]; rfl
    rw [← hG1'] at hR' hEf
    subst hN1'
    refine ops_run (by simp only [runL, awant_none, astep, evl, put, ap_none, List.length_nil, Nat.add_zero, upd_app, stepPick, ↓reduceIte, Nat.reduceEqDiff, hEv] <;> rfl) ?_
    refine rest (dsB o F.length d) _ G1 _ _ _ (by simp [upd_app, t2]) (by simp [upd_app, t8]) (by simp []) (by simp [upd_app, t10]) (by simp [upd_app, t11]) (by simp [upd_app, t15]) rfl (fun _ => hxd) hEf hR' (fun _ => ?_)
    unfold dsN
    rw [← hxd]
    exact ⟨rfl, rfl, rfl⟩

def symE (O : Option (List Nat)) (r : List Nat) (j : Nat) : Eff := match O with
  | none => { v := .tuple #[.slice none 0 0, .bool false], r := r, j := j }
  | some b => { v := .tuple #[(newE 3 (ints b) r j).v, .bool true], r := r, j := j, a := (newE 3 (ints b) r j).a }
theorem symE_r (o : Option (List Nat)) (r : List Nat) (j : Nat) : (symE o r j).r = r := by cases o <;> rfl
theorem symE_w (o : Option (List Nat)) (r : List Nat) (j : Nat) : (symE o r j).w = [] := by cases o <;> rfl
theorem symE_j (o : Option (List Nat)) (r : List Nat) (j : Nat) : (symE o r j).j = j := by cases o <;> rfl
theorem symE_fp (o : Option (List Nat)) (r : List Nat) (j : Nat) : (symE o r j).fp = r := by simp [Eff.fp, symE_r, symE_w]

/-- The symbols that bytes tell; none if there are too few bytes. -/
def symsO (o : Nat) (F : List Nat) (k : Nat) : Option (List Nat) := if F.length < 4 then none else dall o F k (ds0 F)

def symm (most : Nat) (t : Nat → Value) : Nat := match t 9, t 11 with
  | .bool true, .slice _ m _ => most + 2 - m
  | _, _ => 0
theorem own_sl {e : TypeId} {g : Heap} {v : Value} {l : List Value} {n n' : Nat} (h : Own e g v l n n') : ∃ a k, v = .slice a l.length k := by
  obtain ⟨i, h, _⟩ := h
  rcases h with ⟨_, h1, h2, _⟩ | ⟨k, _, h1, _⟩
  · exact ⟨none, 0, by rw [h1, h2]⟩
  · exact ⟨_, _, h1⟩
theorem symm_t {most : Nat} {t : Nat → Value} {g : Heap} {l : List Value} {n n' : Nat} (h9 : t 9 = .bool true) (h : Own 3 g (t 11) l n n') : symm most t = most + 2 - l.length := by
  obtain ⟨a, k, e⟩ := own_sl h
  simp [symm, h9, e]
theorem symm_f {most : Nat} {t : Nat → Value} (h9 : t 9 = .bool false) : symm most t = 0 := by simp [symm, h9]

set_option maxRecDepth 10000 in
theorem symbols_spec (v : Value) (F : List Nat) (o most : Nat) (g : Heap) (j : Nat) (ho : o ≤ 1) (hl : F.length ≤ 2 ^ 37) (hF : ∀ x ∈ F, x < 256) (hm : most ≤ 100000) (hv : Src g v 1 F.length (bs F)) : FnSpec Try.prog 86 [v, .int .i64 o, .int .i64 most] g (symE (symsO o F (most + 1)) (srcBlk v) j) := by
  refine spec_of_body [6, 7] follows Try.func86 rfl (by kernel_rfl) (by simp [Try.f86]) (by kernel_rfl) rfl ?_
  intro g2 s2 n hg hfr hs hn hwf hsv
  rw [symE_fp] at hg
  have hv2 : Src g2 v 1 F.length (bs F) := hv.congr fun i hi => hg i hi
  have hdom : ∀ i ∈ srcBlk v, i < n := fun i hi => by
    obtain ⟨b, hb⟩ := Option.isSome_iff_exists.1 (hv2.dom i hi)
    exact hs i (hwf i b hb).1
  clear hg hfr hn hv
  have outNone : ∀ {t : Nat → Value} {g : Heap}, t 6 = .slice none 0 0 → t 7 = .bool false → Kp n g2 g → symsO o F (most + 1) = none →
      ((Exit.ret = .normal ∨ Exit.ret = .ret) ∧ (([6, 7] : List Tmp).length ≠ 1 → ∀ r ∈ ([6, 7] : List Tmp), isTup (t r) = false) ∧ ∃ ids, Abs.Fin (symE (symsO o F (most + 1)) (srcBlk v) j) ids s2 g2 n g (resVal [6, 7] t)) := by
    intro t g h4 h5 hk ho
    rw [ho]
    refine ⟨.inr rfl, fun _ r hr => ?_, [], fin_plain hs hwf hk ?_ (by intro c hc; simp at hc; rcases hc with rfl | rfl <;> trivial)⟩
    · simp at hr
      rcases hr with rfl | rfl
      · rw [h4]; rfl
      · rw [h5]; rfl
    · simp [resVal, h4, h5]
  refine s_run (by simp only [runL, awant_none, astep, evl, put, ap_none, List.length_nil, Nat.add_zero, undef] <;> rfl) ?_
  by_cases h4 : F.length < 4
  · have hT : symsO o F (most + 1) = none := if_pos h4
    refine s_take 1 (by simp only [runL, Option.getD_some, List.getElem?_cons_zero, List.take_succ_cons, List.take_zero, awant_none, astep, evl, put, ap_none, List.length_nil, Nat.add_zero, upd_app, reduceCtorEq, ↓reduceIte] <;> rfl) ?_
    refine ops_call 52 _ rfl (newRd_no v F g2 h4 hv2) (by simp) ?_
    refine ops_run (by simp only [runL, List.getElem?_toArray, List.getElem?_cons_succ, List.getElem?_cons_zero, awant_none, astep, evl, put, ap_none, List.length_nil, Nat.add_zero, upd_app, stepExtract, ↓reduceIte, Nat.reduceEqDiff] <;> rfl) ?_
    refine w_gen (fun t => t 1 = .int .i64 o ∧ t 9 = .bool false) (by simp [upd_app]) ?_
    rintro t ⟨t1, t9⟩
    refine s_take 1 (by simp only [runL, List.take_succ_cons, List.take_zero, awant_none, astep, evl, put, ap_none, List.length_nil, Nat.add_zero, t1] <;> rfl) ?_
    refine ops_call 81 _ rfl (made_spec o g2 n) (by intro _; rfl) (ops_heap fun G1 hG1 => ?_)
    have k1 : Kp n g2 G1 := by rw [hG1]; exact kp_ap (Kp.refl _ _) rfl (fun _ => Nat.le_refl _)
    refine ops_run (by simp only [runL, awant_none, astep, evl, put, ap_none, List.length_nil, Nat.add_zero, upd_app, ↓reduceIte] <;> rfl) ?_
    refine w_gen (fun t => t 9 = .bool false) (by simp [upd_app, t9]) ?_
    clear t1 t9
    rintro t t9
    refine s_run (by simp only [runL, awant_none, astep, evl, put, ap_none, List.length_nil, Nat.add_zero] <;> rfl) ?_
    refine s_block (fun t g n => g = G1) ?_ ?_
    · refine w_loop (fun t g n => t 9 = .bool false ∧ g = G1) (fun _ _ _ => 0) ⟨by simp [upd_app, t9], rfl⟩ ?_
      clear t9
      rintro t g n' ⟨t9, rfl⟩
      refine w_assoc (s_run (by simp only [runL, awant_some, List.getElem?_toArray, List.getElem?_cons_succ, List.getElem?_cons_zero, Option.bind_some, b_ft, awant_none, astep, evl, put, ap_none, List.length_nil, Nat.add_zero, upd_app, stepPick, ↓reduceIte, Nat.reduceEqDiff, Bool.false_eq_true, undef, t9] <;> rfl) ?_)
      exact s_false (by simp [evl]) (s_exit rfl)
    · rintro t g n' rfl
      refine s_run (by simp only [runL, awant_none, astep, evl, put, ap_none, List.length_nil, Nat.add_zero] <;> rfl) ?_
      exact w_ret (outNone (by simp [upd_app]) (by simp []) k1 hT)
  have h4' : 4 ≤ F.length := by omega
  have hT0 : symsO o F (most + 1) = dall o F (most + 1) (ds0 F) := if_neg h4
  generalize symsO o F (most + 1) = T at *
  refine s_take 1 (by simp only [runL, Option.getD_some, List.getElem?_cons_zero, List.take_succ_cons, List.take_zero, awant_none, astep, evl, put, ap_none, List.length_nil, Nat.add_zero, upd_app, reduceCtorEq, ↓reduceIte] <;> rfl) ?_
  refine ops_call 52 _ rfl (newRd_yes v F g2 n h4' (by omega) hF hv2) (by intro _; rfl) (ops_heap fun G1 hG1 => ?_)
  have k1 : Kp n g2 G1 := by rw [hG1]; exact kp_ap (Kp.refl _ _) rfl (fun _ => Nat.le_refl _)
  have R1 : Rd 91 (n + 1) (.slice (some ⟨n, 0, some F.length⟩) F.length 1) F 4 (be (F.take 4)) 4294967295 G1 := by
    rw [hG1]
    exact ⟨by simp [newRdE, Eff.ap, setAll, addAll], src_bs (m := F.length) (k := n) (ro := false) (e := 5) (by simp [newRdE, Eff.ap, setAll, addAll, upd_app]) rfl, fun h => by have := srcBlk_own (e := 1) _ h; omega⟩
  have hRv : (newRdE v F n).v = .tuple #[ptr4 (n + 1), .bool true] := rfl
  refine ops_run (by simp only [runL, List.getElem?_toArray, List.getElem?_cons_succ, List.getElem?_cons_zero, awant_none, astep, evl, put, ap_none, List.length_nil, Nat.add_zero, upd_app, stepExtract, ↓reduceIte, Nat.reduceEqDiff, hRv] <;> rfl) ?_
  refine w_gen (fun t => t 1 = .int .i64 o ∧ t 2 = .int .i64 most ∧ t 8 = ptr4 (n + 1) ∧ t 9 = .bool true) (by simp [upd_app]) ?_
  rintro t ⟨t1, t2, t8, t9⟩
  refine s_take 1 (by simp only [runL, List.take_succ_cons, List.take_zero, awant_none, astep, evl, put, ap_none, List.length_nil, Nat.add_zero, t1] <;> rfl) ?_
  refine ops_call 81 _ rfl (made_spec o G1 (n + 2)) (by intro _; rfl) (ops_heap fun G2 hG2 => ?_)
  have k2 : Kp (n + 2) G1 G2 := by rw [hG2]; exact kp_ap (Kp.refl _ _) rfl (fun _ => Nat.le_refl _)
  have M2 : Ms (n + 2) (fun _ => ones 258) 0 o G2 := by rw [hG2]; exact madeE_ap o (n + 2) G1
  have R2 : Rd 91 (n + 1) (.slice (some ⟨n, 0, some F.length⟩) F.length 1) F 4 (be (F.take 4)) 4294967295 G2 := R1.congr (k2 _ (by omega)) (fun i hi => k2 i (by have := srcBlk_own (e := 1) i hi; omega))
  have kg : Kp n g2 G2 := k1.trans k2 (by omega)
  refine ops_run (by simp only [runL, awant_none, astep, evl, put, ap_none, List.length_nil, Nat.add_zero, upd_app, ↓reduceIte, madeE_v] <;> rfl) ?_
  refine w_gen (fun t => t 2 = .int .i64 most ∧ t 8 = ptr4 (n + 1) ∧ t 9 = .bool true ∧ t 10 = ptr5 (n + 2)) (by simp [upd_app, t2, t8, t9]) ?_
  clear t1 t2 t8 t9
  rintro t ⟨t2, t8, t9, t10⟩
  refine s_run (by simp only [runL, awant_none, astep, evl, put, ap_none, List.length_nil, Nat.add_zero] <;> rfl) ?_
  refine s_block (fun t g n' => Kp n g2 g ∧ T = none) ?_ ?_
  · refine w_loop (fun t g n' => t 2 = .int .i64 most ∧ Kp n g2 g ∧ ((t 9 = .bool false ∧ T = none) ∨ (t 9 = .bool true ∧ t 8 = ptr4 (n + 1) ∧ t 10 = ptr5 (n + 2) ∧ n + 9 ≤ n' ∧ ∃ (d : DS) (pre : List Nat), Own 3 g (t 11) (ints pre) (n + 9) n' ∧ Rd 91 (n + 1) (.slice (some ⟨n, 0, some F.length⟩) F.length 1) F d.u d.c d.r g ∧ Ms (n + 2) d.ms (clsN d.last) o g ∧ DG F d ∧ pre.length ≤ most + 1 ∧ T = (dall o F (most + 1 - pre.length) d).map (pre ++ ·))))
      (fun t _ _ => symm most t) ⟨by simp [upd_app, t2], kg, .inr ⟨by simp [upd_app, t9], by simp [upd_app, t8], by simp [upd_app, t10], by show n + 9 ≤ n + 2 + 7; omega, ds0 F, [], by simp only [upd_app]; exact Own.nil _ _ _ _, R2, M2, DG.start hF h4', by simp, by rw [hT0]; simp⟩⟩ ?_
    clear t2 t8 t9 t10 kg R2 M2 k2 R1 k1 hRv
    rintro t g n' ⟨t2, hkp, ⟨t9, hTn⟩ | ⟨t9, t8, t10, hn', d, pre, hO, hR, hMs, hDG, hpl, hT⟩⟩
    · refine w_assoc (s_run (by simp only [runL, awant_some, List.getElem?_toArray, List.getElem?_cons_succ, List.getElem?_cons_zero, Option.bind_some, b_ft, awant_none, astep, evl, put, ap_none, List.length_nil, Nat.add_zero, upd_app, stepPick, ↓reduceIte, Nat.reduceEqDiff, Bool.false_eq_true, undef, t9] <;> rfl) ?_)
      exact s_false (by simp [evl]) (s_exit ⟨hkp, hTn⟩)
    have hlen : stepLen Try.prog 22 (t 11) = some { v := .int .i64 (pre.length : Nat) } := by
      have := hO.src.len (P := Try.prog) Try.underlying22
      simpa using this
    by_cases hle : pre.length ≤ most
    · have d1 : decide (((pre.length : Nat) : Int) ≤ ((most : Nat) : Int)) = true := decide_eq_true (by omega)
      refine w_assoc (s_run (by simp only [runL, awant_some, List.getElem?_toArray, List.getElem?_cons_succ, List.getElem?_cons_zero, Option.bind_some, b_tt, awant_none, astep, evl, put, ap_none, List.length_nil, Nat.add_zero, upd_app, stepBin, abin, stepPick, stepCall, ↓reduceIte, Nat.reduceEqDiff, t9, t2, hlen, d1] <;> rfl) ?_)
      refine s_true (by simp [evl]) (s_skip (w_block ?_))
      have hTs : T = (if dsB o F.length d then (if dsx o d = 257 then some [] else (dall o F (most - pre.length) (dsN o F d)).map (dsx o d :: ·)) else none).map (pre ++ ·) := by
        rw [hT, show most + 1 - pre.length = (most - pre.length) + 1 by omega, dall]
      have hμ : symm most t = most + 2 - pre.length := by
        have := symm_t (most := most) t9 hO
        simpa using this
      rw [hμ]
      clear hT hT0 hμ
      obtain ⟨lv, hlv⟩ : ∃ lv, t 11 = lv := ⟨_, rfl⟩
      rw [hlv] at hO
      refine w_gen (fun t => t 2 = .int .i64 most ∧ t 8 = ptr4 (n + 1) ∧ t 10 = ptr5 (n + 2) ∧ t 11 = lv) (by simp [upd_app, t2, t8, t10, hlv]) ?_
      clear t2 t8 t9 t10 hlv hlen d1
      rintro t ⟨t2, t8, t10, t11⟩
      have hF37 : F.length ≤ 2 ^ 38 := by omega
      refine sym_round (p := n + 1) (A := n + 2) (B := n + 9) (o := o) t2 t8 t10 t11 ho hF hF37 hO hR hMs hDG (by omega) (by omega) (by omega) hn' (fun h1 h2 t' g' h6 h7 hO' hf => ?_) (fun h1 t' g' n'' h2 h9 hf => ?_) (fun h1 h2 t' g' n'' e2 e8 e9 e10 hnn hO2 hR2 hM2 hf => ?_) (fun i hi => by have := srcBlk_own (e := 1) i hi; omega)
      · have hTd : T = some pre := by
          rw [hTs, h1, h2]
          simp
        have hkG : Kp n g2 g' := fun i hi => by rw [hf i (by omega) (by omega), hkp i hi]
        show _ ∧ _
        rw [hTd]
        have hOn : Own 3 g' lv (ints pre) n n' := by
          obtain ⟨i, a1, a2⟩ := hO'
          exact ⟨i, a1, fun q hq => by have := a2 q hq; omega⟩
        obtain ⟨ids, hfin⟩ := hOn.fin_tuple (r := srcBlk v) (j := j) (q := true) plain_ints hs hwf hkG
        refine ⟨.inr rfl, fun _ r hr => ?_, ids, ?_⟩
        · simp at hr
          rcases hr with rfl | rfl
          · rw [h6]; obtain ⟨a, k, e⟩ := own_sl hO'; rw [e]; rfl
          · rw [h7]; rfl
        · have : resVal [6, 7] t' = .tuple #[lv, .bool true] := by simp [resVal, h6, h7]
          rw [this]
          exact hfin
      · refine ⟨⟨h2, fun i hi => by rw [hf i (by omega) (by omega) (by omega), hkp i hi], .inl ⟨h9, by rw [hTs, h1]; rfl⟩⟩, ?_⟩
        rw [symm_f h9]
        omega
      · refine ⟨⟨e2, fun i hi => by rw [hf i (by omega) (by omega) (by omega), hkp i hi], .inr ⟨e9, e8, e10, by omega, dsN o F d, pre ++ [dsx o d], hO2, hR2, hM2, hDG.next hF h1, by simp; omega, ?_⟩⟩, ?_⟩
        · rw [hTs, h1, if_pos rfl, if_neg h2, List.length_append, List.length_singleton, show most + 1 - (pre.length + 1) = most - pre.length by omega]
          cases dall o F (most - pre.length) (dsN o F d) <;> simp
        · rw [symm_t e9 hO2]
          simp
          omega
    · have d1 : decide (((pre.length : Nat) : Int) ≤ ((most : Nat) : Int)) = false := decide_eq_false (by omega)
      refine w_assoc (s_run (by simp only [runL, awant_some, List.getElem?_toArray, List.getElem?_cons_succ, List.getElem?_cons_zero, Option.bind_some, b_tt, awant_none, astep, evl, put, ap_none, List.length_nil, Nat.add_zero, upd_app, stepBin, abin, stepPick, stepCall, ↓reduceIte, Nat.reduceEqDiff, t9, t2, hlen, d1] <;> rfl) ?_)
      refine s_false (by simp [evl]) (s_exit ⟨hkp, ?_⟩)
      rw [hT, show most + 1 - pre.length = 0 by omega]
      rfl
  · rintro t g n' ⟨hk, hTn⟩
    refine s_run (by simp only [runL, awant_none, astep, evl, put, ap_none, List.length_nil, Nat.add_zero] <;> rfl) ?_
    exact w_ret (outNone (by simp [upd_app]) (by simp []) hk hTn)
end Go.Proofs.Ytahinegnblankaa
