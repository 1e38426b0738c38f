import Derived.Test.YtahinegnblankaaP23
namespace Go.Proofs.Ytahinegnblankaa
open Go Abs
set_option linter.unusedSimpArgs false
set_option linter.unusedVariables false

/-- Counts as a model has them. -/
structure Good (c : List Nat) : Prop where
  len : c.length ≤ 1000
  sum : c.sum ≤ 65504
  pos : ∀ x ∈ c, 1 ≤ x

theorem good_ones {k : Nat} (h : k ≤ 1000) : Good (ones k) := ⟨by simpa using h, by simp; omega, fun x hx => by simp at hx; omega⟩
theorem Good.saw {c : List Nat} (h : Good c) {s : Nat} (hs : s < c.length) : Good (saw c s) := by
  have h1 := sum_set (x := byt c s + 32) hs
  have h2 := half_sum (c.set s (byt c s + 32))
  have h3 := h.len
  have h4 := h.sum
  have hp : ∀ x ∈ c.set s (byt c s + 32), 1 ≤ x := fun x hx => by
    rcases List.mem_or_eq_of_mem_set hx with hx | rfl
    · exact h.pos x hx
    · omega
  refine ⟨by rw [saw_len]; exact h.len, ?_, fun x hx => ?_⟩
  · unfold Ytahinegnblankaa.saw
    rw [List.length_set] at h2
    split <;> omega
  · unfold Ytahinegnblankaa.saw at hx
    split at hx
    · obtain ⟨y, hy, rfl⟩ := List.mem_map.1 hx
      have := hp y hy
      omega
    · exact hp x hx

def sawI (c : List Nat) (x : Int) : List Nat := if inR x c.length then saw c x.toNat else c
theorem sawI_len (c : List Nat) (x : Int) : (sawI c x).length = c.length := by unfold sawI; split <;> simp [saw_len]
theorem Good.sawI {c : List Nat} (h : Good c) (x : Int) : Good (sawI c x) := by
  unfold Ytahinegnblankaa.sawI
  split
  · rename_i hx
    obtain ⟨s, rfl, hs⟩ := inR_t hx
    exact h.saw (by simpa using hs)
  · exact h

def sawX (p q : Nat) (c : List Nat) (x : Int) : Eff := if inR x c.length then sawE p q (saw c x.toNat) else { v := .bool false, r := [p, q] }
def rsawX (p q : Nat) (c : List Nat) (x : Int) : Eff := if inR x c.length then rsawE p q (saw c x.toNat) else { v := .bool false, r := [p, q] }
def spanX (c : List Nat) (x : Int) : Value := if inR x c.length then spanV c x.toNat else spanN
def findX (c : List Nat) (x : Int) : Value := if inR x c.sum then findV c x.toNat else findN

section
variable {p q : Nat} {c : List Nat} {x : Int} {g : Heap}
theorem sawX_v : (sawX p q c x).v = .bool (inR x c.length) := by unfold sawX; cases h : inR x c.length <;> rfl
theorem sawX_a : (sawX p q c x).a = [] := by unfold sawX; split <;> rfl
theorem sawX_r : (sawX p q c x).r = [p, q] := by unfold sawX; split <;> rfl
theorem sawX_wr : ∀ i ∈ (sawX p q c x).wr, i = p ∨ i = q := by unfold sawX; split <;> simp [Eff.wr, sawE]
theorem sawX_ap (h : Mo p q c g) : Mo p q (sawI c x) ((sawX p q c x).ap g) ∧ ∀ i, i ≠ p → i ≠ q → (sawX p q c x).ap g i = g i := by
  unfold sawX sawI
  split
  · exact sawE_ap h.ne g
  · exact ⟨h, fun _ _ _ => rfl⟩
theorem rsawX_v : (rsawX p q c x).v = .bool (inR x c.length) := by unfold rsawX; cases h : inR x c.length <;> rfl
theorem rsawX_a : (rsawX p q c x).a = [] := by unfold rsawX; split <;> rfl
theorem rsawX_r : (rsawX p q c x).r = [p, q] := by unfold rsawX; split <;> rfl
theorem rsawX_wr : ∀ i ∈ (rsawX p q c x).wr, i = p ∨ i = q := by unfold rsawX; split <;> simp [Eff.wr, rsawE]
theorem rsawX_ap (h : Ro p q c g) : Ro p q (sawI c x) ((rsawX p q c x).ap g) ∧ ∀ i, i ≠ p → i ≠ q → (rsawX p q c x).ap g i = g i := by
  unfold rsawX sawI
  split
  · have := rsawE_ap h (saw_len c x.toNat)
    exact ⟨this.1, fun i _ h2 => this.2 i h2⟩
  · exact ⟨h, fun _ _ _ => rfl⟩

theorem sawX_spec (h : Mo p q c g) (hG : Good c) : FnSpec Try.prog 43 [ptr2 p, .int .i64 x] g (sawX p q c x) := by
  have h1 := hG.len
  have h2 := hG.sum
  unfold sawX
  cases hx : inR x c.length with
  | true =>
    obtain ⟨s, rfl, hs⟩ := inR_t hx
    exact saw_yes p q c s g h (by omega) (by omega) hs
  | false => exact saw_no p q c x g h hx
theorem rsawX_spec (h : Ro p q c g) (hG : Good c) : FnSpec Try.prog 44 [ptr1 p, .int .i64 x] g (rsawX p q c x) := by
  have h1 := hG.len
  have h2 := hG.sum
  unfold rsawX
  cases hx : inR x c.length with
  | true =>
    obtain ⟨s, rfl, hs⟩ := inR_t hx
    exact rsaw_yes p q c s g h (by omega) (by omega) hs
  | false => exact rsaw_no p q c x g h hx
theorem spanX_spec (h : Mo p q c g) (hG : Good c) : FnSpec Try.prog 47 [ptr2 p, .int .i64 x] g { v := spanX c x, r := [p, q] } := by
  have h1 := hG.len
  have h2 := hG.sum
  unfold spanX
  cases hx : inR x c.length with
  | true =>
    obtain ⟨s, rfl, hs⟩ := inR_t hx
    exact span_yes p q c s g h (by omega) (by omega) hs
  | false => exact span_no p q c x g h hx
theorem rspanX_spec (h : Ro p q c g) (hG : Good c) : FnSpec Try.prog 48 [ptr1 p, .int .i64 x] g { v := spanX c x, r := [p, q] } := by
  have h1 := hG.len
  have h2 := hG.sum
  unfold spanX
  cases hx : inR x c.length with
  | true =>
    obtain ⟨s, rfl, hs⟩ := inR_t hx
    exact rspan_yes p q c s g h (by omega) (by omega) hs
  | false => exact rspan_no p q c x g h hx
theorem findX_spec (h : Mo p q c g) (hG : Good c) : FnSpec Try.prog 49 [ptr2 p, .int .i64 x] g { v := findX c x, r := [p, q] } := by
  have h1 := hG.len
  have h2 := hG.sum
  unfold findX
  cases hx : inR x c.sum with
  | true =>
    obtain ⟨s, rfl, hs⟩ := inR_t hx
    exact find_yes p q c s g h (by omega) (by omega) hs
  | false => exact find_no p q c x g h hx
theorem rfindX_spec (h : Ro p q c g) (hG : Good c) (hx : x ≤ 2 ^ 63 - 1) : ∃ r, FnSpec Try.prog 50 [ptr1 p, .int .i64 x] g { v := findX c x, r := r } ∧ ∀ i ∈ r, i = p ∨ i = q := by
  have h1 := hG.len
  have h2 := hG.sum
  by_cases h0 : x < 0
  · refine ⟨[], ?_, by simp⟩
    have : findX c x = findN := by unfold findX; rw [if_neg]; simp [inR]; omega
    rw [this]
    exact rfind_neg _ x g h0
  · obtain ⟨v, rfl⟩ : ∃ v : Nat, x = v := ⟨x.toNat, by omega⟩
    refine ⟨[p, q], ?_, by simp⟩
    have : findX c (v : Int) = if v < c.sum then findV c v else findN := by
      unfold findX
      by_cases hv : v < c.sum
      · rw [if_pos hv, if_pos (inR_nat hv)]; rfl
      · rw [if_neg hv, if_neg]; simp [inR]; omega
    rw [this]
    exact rfind_yes p q c v g h (by omega) (by omega) (by omega)
end

theorem newME_v (k j : Nat) : (newME k j).v = ptr2 (j + 1) := rfl
theorem newRE_v (k j : Nat) : (newRE k j).v = ptr1 j := rfl
theorem sawE_v (p q : Nat) (c : List Nat) : (sawE p q c).v = .bool true := rfl

theorem kp_two {n p q : Nat} {g g' : Heap} (hp : n ≤ p) (hq : n ≤ q) (h : ∀ i, i ≠ p → i ≠ q → g' i = g i) : Kp n g g' := fun i hi => h i (by omega) (by omega)

set_option maxRecDepth 10000 in
theorem mknown_spec (g : Heap) : FnSpec Try.prog 51 [] g { v := .bool true } := by
  refine spec_of_body [0] follows Try.func51 rfl (by kernel_rfl) (by simp [Try.f51]) (by kernel_rfl) rfl ?_
  intro g2 s2 n hg hfr hs hn hwf hsv
  refine s_run (by simp only [runL, awant_none, astep, evl, put, ap_none, List.length_nil, Nat.add_zero, undef] <;> rfl) ?_
  refine s_take 0 (by simp only [runL, List.take_zero] <;> rfl) ?_
  have hN : FnSpec Try.prog 41 [.int .i64 3] g2 (newME 3 n) := new_yes 3 g2 n (by omega) (by omega)
  refine ops_call 41 _ rfl hN (by intro _; rfl) (ops_heap fun G1 hG1 => ?_)
  have m1 : Mo (n + 1) n (ones 3) G1 := by rw [hG1]; exact newME_ap 3 n g2
  have k1 : Kp n g2 G1 := by rw [hG1]; exact newME_kp (Kp.refl _ _) (Nat.le_refl _)
  refine ops_run (by simp only [runL, awant_none, astep, evl, put, ap_none, List.length_nil, Nat.add_zero, upd_app, ↓reduceIte, newME_v] <;> rfl) ?_
  refine w_gen (fun t => t 1 = ptr2 (n + 1)) (by simp []) ?_
  rintro t t1
  have hS : FnSpec Try.prog 43 [ptr2 (n + 1), .int .i64 1] G1 (sawE (n + 1) n [1, 33, 1]) := by
    have := saw_yes (n + 1) n (ones 3) 1 G1 m1 (by simp) (by simp) (by simp)
    rw [show saw (ones 3) 1 = [1, 33, 1] by decide +kernel] at this
    exact this
  refine w_assoc (s_take 4 (by simp only [runL, awant_some, List.getElem?_toArray, List.getElem?_cons_succ, List.getElem?_cons_zero, Option.bind_some, b_ff, List.take_succ_cons, List.take_zero, awant_none, astep, evl, put, ap_none, List.length_nil, Nat.add_zero, upd_app, stepBin, abin, ↓reduceIte, Nat.reduceEqDiff, t1, Try.underlying51, Option.isNone_some] <;> rfl) ?_)
  refine g_call 43 _ (by simp only [awant_some, List.getElem?_toArray, List.getElem?_cons_succ, List.getElem?_cons_zero, Option.bind_some, b_ff, upd_app, ↓reduceIte, Nat.reduceEqDiff] <;> rfl) rfl hS (by simp [sawE]) (ops_heap fun G2 hG2 => ?_)
  have m2 : Mo (n + 1) n [1, 33, 1] G2 := by rw [hG2]; exact (sawE_ap (by omega) G1).1
  have k2 : Kp n G1 G2 := by rw [hG2]; exact kp_two (by omega) (Nat.le_refl _) (sawE_ap (by omega) G1).2
  refine ops_run (by simp only [runL, awant_some, List.getElem?_toArray, List.getElem?_cons_succ, List.getElem?_cons_zero, Option.bind_some, b_ff, Bool.not_true, awant_none, astep, evl, put, ap_none, List.length_nil, Nat.add_zero, upd_app, stepUn, stepPick, ↓reduceIte, Nat.reduceEqDiff, Bool.false_eq_true, sawE_v] <;> rfl) ?_
  refine s_false (by simp [evl]) (s_skip ?_)
  refine w_gen (fun t => t 1 = ptr2 (n + 1)) (by simp [upd_app, t1]) ?_
  clear t1
  rintro t t1
  have hP : FnSpec Try.prog 47 [ptr2 (n + 1), .int .i64 2] G2 { v := .tuple #[.int .i64 34, .int .i64 1, .bool true], r := [n + 1, n] } := span_yes (n + 1) n [1, 33, 1] 2 G2 m2 (by simp) (by simp) (by simp)
  refine s_take 1 (by simp only [runL, List.take_succ_cons, List.take_zero, awant_none, astep, evl, put, ap_none, List.length_nil, Nat.add_zero, t1] <;> rfl) ?_
  refine ops_call 47 _ rfl hP (by simp) ?_
  refine ops_run (by simp only [runL, List.getElem?_toArray, List.getElem?_cons_succ, List.getElem?_cons_zero, awant_none, astep, evl, put, ap_none, List.length_nil, Nat.add_zero, upd_app, stepExtract, ↓reduceIte, Nat.reduceEqDiff] <;> rfl) ?_
  refine w_gen (fun t => t 1 = ptr2 (n + 1) ∧ t 2 = .int .i64 34 ∧ t 3 = .int .i64 1 ∧ t 4 = .bool true) (by simp [upd_app, t1]) ?_
  clear t1
  rintro t ⟨t1, t2, t3, t4⟩
  have hT : FnSpec Try.prog 45 [ptr2 (n + 1)] G2 { v := .int .i64 35, r := [n + 1, n] } := total_spec (n + 1) n [1, 33, 1] G2 m2
  refine s_take 11 (by simp only [runL, awant_some, List.getElem?_toArray, List.getElem?_cons_succ, List.getElem?_cons_zero, Option.bind_some, List.take_succ_cons, List.take_zero, awant_none, astep, evl, put, ap_none, List.length_nil, Nat.add_zero, upd_app, stepBin, abin, stepPick, ↓reduceIte, Nat.reduceEqDiff, t1, t2, t3, t4, beq_self_eq_true] <;> rfl) ?_
  refine g_call 45 _ (by simp only [awant_some, List.getElem?_toArray, List.getElem?_cons_succ, List.getElem?_cons_zero, Option.bind_some, b_tt, upd_app, ↓reduceIte, Nat.reduceEqDiff] <;> rfl) rfl hT (by simp) ?_
  refine ops_run (by simp only [runL, awant_some, List.getElem?_toArray, List.getElem?_cons_succ, List.getElem?_cons_zero, Option.bind_some, b_tt, awant_none, astep, evl, put, ap_none, List.length_nil, Nat.add_zero, upd_app, stepBin, abin, stepPick, ↓reduceIte, Nat.reduceEqDiff, Int.reduceBEq] <;> rfl) ?_
  exact w_ret ⟨.inr rfl, by simp, [], fin_plain hs hwf (k1.trans k2 (Nat.le_refl _)) (by simp [resVal]) trivial⟩
end Go.Proofs.Ytahinegnblankaa
