import Derived.Test.YtdpkhijbikbhnaaT39
namespace Go.Proofs.Ytdpkhijbikbhnaa
open Go Abs Plain
set_option linter.unusedSimpArgs false
set_option linter.unusedVariables false

/-- The bytes of 'banana', and its endings in order. -/
def ban : List Nat := [98, 97, 110, 97, 110, 97]
def banA : List Nat := [5, 3, 1, 0, 4, 2]
theorem litB_6 (a b c d e f : Int) (j : Nat) : stepBuildSlice Try.prog 30 6 [(0, .int .u8 a), (1, .int .u8 b), (2, .int .u8 c), (3, .int .u8 d), (4, .int .u8 e), (5, .int .u8 f)] j = some { v := .slice (some ⟨j, 0, some 6⟩) 6 1, j := j, a := [⟨false, 5, [.int .u8 a, .int .u8 b, .int .u8 c, .int .u8 d, .int .u8 e, .int .u8 f]⟩] } := by
  simp [stepBuildSlice, Try.underlying30, tinf5, fillL, Value.cells, isTup, putAll, List.replicate]
theorem litI_6 (a b c d e f : Int) (j : Nat) : stepBuildSlice Try.prog 22 6 [(0, .int .i64 a), (1, .int .i64 b), (2, .int .i64 c), (3, .int .i64 d), (4, .int .i64 e), (5, .int .i64 f)] j = some { v := .slice (some ⟨j, 0, some 6⟩) 6 1, j := j, a := [⟨false, 3, [.int .i64 a, .int .i64 b, .int .i64 c, .int .i64 d, .int .i64 e, .int .i64 f]⟩] } := by
  simp [stepBuildSlice, Try.underlying22, tinf3, fillL, Value.cells, isTup, putAll, List.replicate]
theorem convBB (j : Nat) (cs : List Value) (g : Heap) (h : g j = some ⟨false, 5, cs⟩) (hl : cs.length = 6) : stepConv Try.prog 30 30 (.slice (some ⟨j, 0, some 6⟩) 6 1) g = some { v := .slice (some ⟨j, 0, some 6⟩) 6 1, r := [j], w := [(j, ⟨true, 5, cs⟩)] } := by
  simp [stepConv, Try.underlying30, Try.underlying5, rd, h, hl]
theorem fldV2 (X : Nat) : stepField Try.prog 45 (.pointer (some ⟨X, 0, some 3⟩)) 2 = some { v := .pointer (some ⟨X, 2, some 3⟩) } := by simp [stepField, foffV2]
theorem fldV0 (X : Nat) : stepField Try.prog 45 (.pointer (some ⟨X, 0, some 3⟩)) 0 = some { v := .pointer (some ⟨X, 0, some 3⟩) } := by simp [stepField, foffV0]

set_option maxRecDepth 40000 in
set_option maxHeartbeats 1000000 in
theorem known_spec (hS : SA ban banA)
    (hs0 : ∀ (v : Value) (g : Heap) (j : Nat), Src g v 1 ban.length (bs ban) → FnSpec Try.prog 11 [v] g (ieE banA (srcBlk v) j))
    (hs1 : ∀ (v : Value) (g : Heap) (j : Nat), Src g v 1 ban.length (bs ban) → FnSpec Try.prog 62 [v] g (ieE banA (srcBlk v) j))
    (hs2 : ∀ (v : Value) (g : Heap) (j : Nat), Src g v 1 ban.length (bs ban) → FnSpec Try.prog 63 [v] g (ieE banA (srcBlk v) j)) (g : Heap) :
    FnSpec Try.prog 10 [] g { v := .bool true } := by
  refine spec_of_body [0] follows Try.func10 rfl (by kernel_rfl) (by simp [Try.f10]) (by kernel_rfl) rfl ?_
  intro g2 s2 n hg hfr hs hn hwf hsv
  clear hg hfr hn
  refine s_run (by simp only [runL, awant_none, astep, evl, put, ap_none, List.length_nil, Nat.add_zero, undef] <;> rfl) ?_
  refine s_take 0 rfl ?_
  refine ops_call 23 _ rfl (new_spec g2 n) (fun _ => rfl) ?_
  dsimp only
  refine ops_heap fun G1 hG1 => ?_
  have x1 : G1 n = some ⟨false, 64, intsI [0, 0, 0]⟩ := by rw [hG1]; simp [ap_new]
  have k1 : Kp n g2 G1 := by rw [hG1]; simp only [ap_new]; exact kp_upd (Kp.refl _ _) (Nat.le_refl _)
  clear hG1
  refine ops_run (by simp only [runL, awant_none, astep, evl, put, ap_none, List.length_nil, List.length_cons, Nat.add_zero, Nat.zero_add, upd_app, ↓reduceIte, List.map_cons, List.map_nil] <;> rfl) ?_
  refine w_assoc (s_run (by simp only [runL, awant_none, astep, evl, put, ap_none, List.length_nil, Nat.add_zero, upd_app, stepBin, abin, ↓reduceIte, undC, Option.isNone_some] <;> rfl) ?_)
  refine s_false (by simp [evl]) (s_skip ?_)
  refine w_gen (fun t => t 1 = .pointer (some ⟨n, 0, some 3⟩)) (by simp [upd_app]) ?_
  intro t t1
  show awp _ _ _ _ G1 (n + 1)
  refine s_take 2 (by simp only [runL, List.take_succ_cons, List.take_zero, awant_none, astep, evl, put, ap_none, ap_new, List.length_nil, List.length_cons, Nat.add_zero, Nat.zero_add, upd_app, List.map_cons, List.map_nil, undef, t1, litB_6] <;> rfl) ?_
  dsimp only
  refine ops_heap fun G2 hG2 => ?_
  have b2 : G2 (n + 1) = some ⟨false, 5, bs ban⟩ := by rw [hG2]; simp [ban]
  have x2 : G2 n = some ⟨false, 64, intsI [0, 0, 0]⟩ := by rw [hG2, upd_ne _ _ (by omega)]; exact x1
  have k2 : Kp n g2 G2 := by rw [hG2]; exact kp_upd k1 (by omega)
  clear hG2 x1 k1
  refine ops_take 1 (by simp only [runL, List.drop_succ_cons, List.drop_zero, List.take_succ_cons, List.take_zero, awant_none, astep, evl, put, ap_wr, List.length_nil, Nat.add_zero, upd_app, ↓reduceIte, convBB (n + 1) (bs ban) G2 b2 rfl] <;> rfl) ?_
  dsimp only
  refine ops_heap fun G3 hG3 => ?_
  have b3 : G3 (n + 1) = some ⟨true, 5, bs ban⟩ := by rw [hG3]; simp []
  have x3 : G3 n = some ⟨false, 64, intsI [0, 0, 0]⟩ := by rw [hG3, upd_ne _ _ (by omega)]; exact x2
  have k3 : Kp n g2 G3 := by rw [hG3]; exact kp_upd k2 (by omega)
  clear hG3 x2 k2 b2
  have hsv : Src G3 (.slice (some ⟨n + 1, 0, some 6⟩) 6 1) 1 ban.length (bs ban) := src_cells b3 rfl
  have hrun := run_spec n [0, 0, 0] (.slice (some ⟨n + 1, 0, some 6⟩) 6 1) ban banA G3 (n + 2) (by decide) rfl hS (fun i hi => by have := srcBlk_own i hi; omega) (hs0 _) (hs1 _) (hs2 _) x3 hsv
  refine ops_call 24 _ rfl (by simp only [upd_app, evl, List.map_cons, List.map_nil]; exact hrun) (fun _ => rfl) ?_
  refine ops_heap fun G4 hG4 => ?_
  rw [runE_ap] at hG4
  have a4 : G4 (n + 2) = some ⟨false, 3, ints banA⟩ := by rw [hG4, upd_ne _ _ (by omega), upd_self]
  have k4 : Kp n g2 G4 := by rw [hG4]; exact kp_upd (kp_upd (kp_upd k3 (Nat.le_refl _)) (by omega)) (by omega)
  clear hG4 hrun hsv x3 k3 b3
  refine ops_take 4 (by simp only [runL, List.getElem?_toArray, List.getElem?_cons_succ, List.getElem?_cons_zero, List.take_succ_cons, List.take_zero, awant_none, astep, evl, put, ap_none, ap_new, List.length_nil, List.length_cons, Nat.add_zero, Nat.zero_add, upd_app, stepExtract, ↓reduceIte, Nat.reduceEqDiff, Nat.reduceAdd, runE, allocV] <;> rfl) ?_
  dsimp only
  refine ops_heap fun G5 hG5 => ?_
  have v5 : G5 (n + 4) = some ⟨false, 45, [.slice none 0 0, .slice none 0 0, .bool false]⟩ := by rw [hG5]; exact upd_self _ _ _
  have a5 : G5 (n + 2) = some ⟨false, 3, ints banA⟩ := by rw [hG5]; show upd G4 (n + 4) _ (n + 2) = _; rw [upd_ne _ _ (by omega)]; exact a4
  have k5 : Kp n g2 G5 := by rw [hG5]; exact kp_upd k4 (show n ≤ n + 4 by omega)
  clear hG5 a4 k4
  have hbl : banA.length = 6 := rfl
  have sv := storeV (n + 4) (slB (n + 2) banA.length) (slB (n + 3) (lcpL ban banA).length) (.bool true) _ _ _ G5 v5
  refine ops_run (by simp only [runL, List.drop_succ_cons, List.drop_zero, awant_none, astep, evl, put, ap_none, ap_wr, List.length_nil, Nat.add_zero, upd_app, ↓reduceIte, Nat.reduceEqDiff, undef, sv] <;> rfl) (w_heap fun G6 hG6 => ?_)
  have v6 : G6 (n + 4) = some ⟨false, 45, [slB (n + 2) banA.length, slB (n + 3) (lcpL ban banA).length, .bool true]⟩ := by rw [hG6]; exact upd_self _ _ _
  have a6 : G6 (n + 2) = some ⟨false, 3, ints banA⟩ := by rw [hG6]; show upd G5 (n + 4) _ (n + 2) = _; rw [upd_ne _ _ (by omega)]; exact a5
  have k6 : Kp n g2 G6 := by rw [hG6]; exact kp_upd k5 (show n ≤ n + 4 by omega)
  clear hG6 sv v5 a5 k5
  refine w_gen (fun t => t 2 = .pointer (some ⟨n + 4, 0, some 3⟩) ∧ t 3 = .int .i64 0) (by simp [upd_app]) ?_
  clear t1
  rintro t ⟨t2, t3⟩
  show awp _ _ _ _ G6 (n + 5)
  have e0 : ((0 : Int) == 0) = true := rfl
  have l2 := ld_at (P := Try.prog) (T := 4) (i := 2) (c := .bool true) (s := some 3) v6 rfl rfl aggT4
  have l0 := ld_at (P := Try.prog) (T := 22) (i := 0) (c := slB (n + 2) banA.length) (s := some 3) v6 rfl rfl aggTI
  refine s_take 9 (by simp only [runL, awant_some, List.getElem?_toArray, List.getElem?_cons_succ, List.getElem?_cons_zero, Option.bind_some, b_tt, List.take_succ_cons, List.take_zero, awant_none, astep, evl, put, ap_none, List.length_nil, Nat.add_zero, upd_app, stepBin, abin, stepPick, ↓reduceIte, Nat.reduceEqDiff, t2, t3, e0, fldV2, l2, fldV0, l0] <;> rfl) ?_
  refine ops_take 1 (by simp only [runL, List.drop_succ_cons, List.drop_zero, awant_some, List.getElem?_toArray, List.getElem?_cons_succ, List.getElem?_cons_zero, Option.bind_some, b_tt, List.take_succ_cons, List.take_zero, astep, evl, put, ap_new, List.length_nil, List.length_cons, Nat.zero_add, upd_app, ↓reduceIte, Nat.reduceEqDiff, List.map_cons, List.map_nil, undef, litI_6] <;> rfl) ?_
  dsimp only
  refine ops_heap fun G7 hG7 => ?_
  have b7 : G7 (n + 5) = some ⟨false, 3, ints banA⟩ := by rw [hG7]; simp [banA]
  have a7 : G7 (n + 2) = some ⟨false, 3, ints banA⟩ := by rw [hG7, upd_ne _ _ (by omega)]; exact a6
  have k7 : Kp n g2 G7 := by rw [hG7]; exact kp_upd k6 (by omega)
  clear hG7
  have sr : ∀ b, G7 b = some ⟨false, 3, ints banA⟩ → Src G7 (slB b 6) 1 (zs banA).length (intsI (zs banA)) := fun b h => by rw [← ints_zs]; exact src_cells h rfl
  have hri := rints_spec (slB (n + 2) 6) (slB (n + 5) 6) (zs banA) (zs banA) G7 (by decide) (by decide) (sr _ a7) (sr _ b7)
  rw [decide_eq_true rfl] at hri
  refine g_call 9 _ (by simp only [awant_some, List.getElem?_toArray, List.getElem?_cons_succ, List.getElem?_cons_zero, Option.bind_some, b_tt, upd_app, ↓reduceIte, Nat.reduceEqDiff] <;> rfl) rfl (by simp only [upd_app, evl, List.map_cons, List.map_nil]; exact hri) (fun h => (h rfl).elim) ?_
  refine ops_run (by simp only [runL, awant_none, astep, evl, put, ap_none, List.length_nil, Nat.add_zero, upd_app, stepPick, ↓reduceIte, Nat.reduceEqDiff] <;> rfl) ?_
  refine w_ret ⟨.inr rfl, by simp, [], fin_none (by simp [resVal]) trivial (fun i b hb => k7.at (hs i (hwf i b hb).1) hb)⟩
end Go.Proofs.Ytdpkhijbikbhnaa
