import Derived.Test.YtdpkhijbikbhnaaT15
namespace Go.Proofs.Ytdpkhijbikbhnaa
open Go Abs Plain
set_option linter.unusedSimpArgs false
set_option linter.unusedVariables false

def smB (s : List Nat) (i : Nat) : Bool := lx (s.drop i) (s.drop (i + 1))
theorem smallL_at {s : List Nat} {i : Nat} (h : i < s.length) : (smallL s)[i]'(by rw [smallL_len]; exact h) = smB s i := by simp [smallL, smB]
def lmsB (s : List Nat) (i : Nat) : Bool := decide (0 < i) && (smB s i && !smB s (i - 1))
/-- All places that are small, and the place ahead is not. -/
def firstP (s : List Nat) (k : Nat) : List Nat := (List.range k).filter (lmsB s)
def firstL (s : List Nat) : List Nat := firstP s s.length
theorem firstP_succ (s : List Nat) (k : Nat) : firstP s (k + 1) = firstP s k ++ (if lmsB s k then [k] else []) := by
  unfold firstP
  rw [List.range_succ, List.filter_append]
  congr 1
  by_cases h : lmsB s k = true <;> simp [h]
theorem firstP_len (s : List Nat) (k : Nat) : (firstP s k).length ≤ k := by
  have := List.length_filter_le (lmsB s) (List.range k)
  simpa [firstP] using this

set_option maxRecDepth 20000 in
theorem first_spec (v : Value) (s : List Nat) (g : Heap) (j : Nat) (hl : s.length ≤ 2 ^ 38) (hv : Src g v 1 s.length (ints s)) :
    FnSpec Try.prog 31 [v] g (newE 3 (ints (firstL s)) (srcBlk v) j) := by
  refine spec_of_body [2] follows Try.func31 rfl (by kernel_rfl) (by simp [Try.f31]) (by kernel_rfl) rfl ?_
  intro g2 s2 n hg hfr hs hn hwf hsv
  have hv2 : Src g2 v 1 s.length (ints s) := hv.congr fun i hi => hg i (by rw [newE_fp]; exact hi)
  have hvd := dom_of hs hwf hv2
  have hlen := hv2.len Try.underlying22
  clear hg hfr hn hv
  refine s_run (by simp only [runL, awant_none, astep, evl, put, ap_none, List.length_nil, Nat.add_zero, undef] <;> rfl) ?_
  refine s_run (by simp only [runL, awant_none, astep, evl, put, ap_none, List.length_nil, Nat.add_zero] <;> rfl) ?_
  refine s_take 1 (by simp only [runL, Option.getD_some, List.getElem?_cons_zero, List.take_succ_cons, List.take_zero, awant_none, astep, evl, put, ap_none, List.length_nil, Nat.add_zero, upd_app, reduceCtorEq, ↓reduceIte] <;> rfl) ?_
  refine ops_call 47 _ rfl (small_spec v s g2 n hl hv2) (fun _ => rfl) ?_
  refine ops_heap fun G1 hG1 => ?_
  have b1 : G1 n = some ⟨false, 4, bools (smallL s)⟩ := by rw [hG1]; simp [ap_new]
  have k1 : Kp n g2 G1 := by rw [hG1]; simp only [ap_new]; exact kp_upd (Kp.refl _ _) (Nat.le_refl _)
  clear hG1
  refine ops_run (by simp only [runL, awant_none, astep, evl, put, ap_none, List.length_nil, List.length_cons, Nat.add_zero, Nat.zero_add, upd_app, ↓reduceIte] <;> rfl) ?_
  refine w_assoc (s_run (by simp only [runL, Option.getD_some, List.getElem?_cons_zero, awant_none, astep, evl, put, ap_none, List.length_nil, Nat.add_zero, upd_app, stepCall, reduceCtorEq, ↓reduceIte, hlen] <;> rfl) ?_)
  refine s_rng s.length (fun i t g n' => t 4 = .slice (some ⟨n, 0, some s.length⟩) s.length 1 ∧ Own 3 g (t 3) (ints (firstP s i)) (n + 1) n' ∧ g n = some ⟨false, 4, bools (smallL s)⟩ ∧ Kp n g2 g ∧ n + 1 ≤ n') (by omega) (by simp []) (by simp [upd_app])
    (fun _ => ⟨by simp [upd_app], by simp [upd_app, firstP]; exact Own.nil _ _ _ _, b1, k1, by simp⟩) (by decide) ?_ ?_
  · clear b1 k1
    rintro i t g n' hi t10 t9 ⟨t4, hO, b, hkp, hnn⟩
    have hfl := firstP_len s i
    have hsucc := firstP_succ s i
    have iy := idxL n s.length i s.length hi
    have ly := ldL b (smallL_len s) (show i < _ by rw [smallL_len]; exact hi)
    rw [smallL_at hi] at ly
    refine s_run (by simp only [runL, awant_none, astep, evl, put, ap_none, List.length_nil, Nat.add_zero, upd_app, ↓reduceIte, t10] <;> rfl) ?_
    have skip : lmsB s i = false → ∀ t' : Nat → Value, t' 10 = .int .i64 i → t' 9 = .int .i64 s.length → t' 4 = t 4 → t' 3 = t 3 → (t' 10 = .int .i64 i ∧ t' 9 = .int .i64 s.length ∧ ∀ v1 v2 v3 : Value, (upd (upd (upd t' 33 v1) 10 v2) 11 v3) 4 = .slice (some ⟨n, 0, some s.length⟩) s.length 1 ∧ Own 3 g ((upd (upd (upd t' 33 v1) 10 v2) 11 v3) 3) (ints (firstP s (i + 1))) (n + 1) n' ∧ g n = some ⟨false, 4, bools (smallL s)⟩ ∧ Kp n g2 g ∧ n + 1 ≤ n') := by
      intro hf t' h10 h9 h4 h3
      rw [hf] at hsucc
      rw [hsucc]
      exact ⟨h10, h9, fun _ _ _ => ⟨by simp [upd_app, h4, t4], by simpa [upd_app, h3] using hO, b, hkp, hnn⟩⟩
    by_cases c0 : i = 0
    · have d0 : decide ((i : Int) > 0) = false := decide_eq_false (by omega)
      refine s_run (by simp only [runL, awant_some, List.getElem?_toArray, List.getElem?_cons_succ, List.getElem?_cons_zero, Option.bind_some, b_ft, awant_none, astep, evl, put, ap_none, List.length_nil, Nat.add_zero, upd_app, stepBin, abin, stepPick, ↓reduceIte, Nat.reduceEqDiff, Bool.false_eq_true, undef, d0] <;> rfl) ?_
      refine w_false (by simp [evl]) (w_skip ?_)
      simp only [rngPost]
      exact skip (by simp [lmsB, c0]) _ (by simp [upd_app, t10]) (by simp [upd_app, t9]) (by simp [upd_app]) (by simp [upd_app])
    have d0 : decide ((i : Int) > 0) = true := decide_eq_true (by omega)
    have w1 : IntKind.i64.wrap ((i : Int) - 1) = ((i - 1 : Nat) : Int) := wrap_sub1 (by omega) (by omega)
    have iz := idxL n s.length (i - 1) s.length (by omega)
    have lz := ldL b (smallL_len s) (show i - 1 < _ by rw [smallL_len]; omega)
    rw [smallL_at (by omega)] at lz
    have hlm : lmsB s i = (smB s i && !smB s (i - 1)) := by simp [lmsB]; omega
    cases h1 : smB s i with
    | false =>
      rw [h1] at ly
      refine s_run (by simp only [runL, awant_some, List.getElem?_toArray, List.getElem?_cons_succ, List.getElem?_cons_zero, Option.bind_some, b_tt, b_ft, awant_none, astep, evl, put, ap_none, List.length_nil, Nat.add_zero, upd_app, stepBin, abin, stepPick, ↓reduceIte, Nat.reduceEqDiff, Bool.false_eq_true, undef, d0, t4, iy, ly] <;> rfl) ?_
      refine w_false (by simp [evl]) (w_skip ?_)
      simp only [rngPost]
      exact skip (by rw [hlm, h1]; rfl) _ (by simp [upd_app, t10]) (by simp [upd_app, t9]) (by simp [upd_app]) (by simp [upd_app])
    | true =>
      rw [h1] at ly
      cases h2 : smB s (i - 1) with
      | true =>
        rw [h2] at lz
        refine s_run (by simp only [runL, awant_some, List.getElem?_toArray, List.getElem?_cons_succ, List.getElem?_cons_zero, Option.bind_some, b_tt, Bool.not_true, awant_none, astep, evl, put, ap_none, List.length_nil, Nat.add_zero, upd_app, stepBin, abin, stepUn, stepPick, ↓reduceIte, Nat.reduceEqDiff, d0, t4, iy, ly, w1, iz, lz] <;> rfl) ?_
        refine w_false (by simp [evl]) (w_skip ?_)
        simp only [rngPost]
        exact skip (by rw [hlm, h1, h2]; rfl) _ (by simp [upd_app, t10]) (by simp [upd_app, t9]) (by simp [upd_app]) (by simp [upd_app])
      | false =>
        rw [h2] at lz
        refine s_run (by simp only [runL, awant_some, List.getElem?_toArray, List.getElem?_cons_succ, List.getElem?_cons_zero, Option.bind_some, b_tt, Bool.not_false, awant_none, astep, evl, put, ap_none, List.length_nil, Nat.add_zero, upd_app, stepBin, abin, stepUn, stepPick, ↓reduceIte, Nat.reduceEqDiff, d0, t4, iy, ly, w1, iz, lz] <;> rfl) ?_
        refine w_true (by simp [evl]) ?_
        have hf : lmsB s i = true := by rw [hlm, h1, h2]; rfl
        rw [hf, if_pos rfl] at hsucc
        obtain ⟨f, hf, hO', hk'⟩ := hO.push (P := Try.prog) (T := 22) (c := .int .i64 (i : Nat)) Try.underlying22 tinf3 (by simp; omega) (by omega) hnn
        refine region_run (id := 7) (by simp only [runL, awant_none, astep, evl, put, ap_none, ap_new, List.length_nil, List.length_cons, Nat.add_zero, Nat.zero_add, upd_app, stepCall, ↓reduceIte, Nat.reduceEqDiff, List.map_cons, List.map_nil, undef, litI_1, hf] <;> rfl) ?_
        simp only [rngPost]
        refine ⟨by simp [upd_app, t10], by simp [upd_app, t9], fun _ _ _ => ⟨by simp [upd_app, t4], ?_, by rw [hk' n (by omega)]; exact b, fun q hq => by rw [hk' q (by omega)]; exact hkp q hq, by omega⟩⟩
        rw [hsucc, ← ints_app]
        simpa [upd_app] using hO'
  · clear b1 k1
    rintro t g n' ⟨t4, hO, b, hkp, hnn⟩
    refine s_run (by simp only [runL, awant_none, astep, evl, put, ap_none, List.length_nil, Nat.add_zero, upd_app, ↓reduceIte] <;> rfl) ?_
    refine w_ret ⟨.inr rfl, by simp, ?_⟩
    have := (hO.low (Nat.le_succ n)).fin (r := srcBlk v) (j := j) (plain_is _) hs hwf hkp
    simpa [resVal, upd_app, firstL] using this
end Go.Proofs.Ytdpkhijbikbhnaa
