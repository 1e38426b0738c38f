import Derived.Test.YtdpkhijbikbhnaaT37
import Derived.Test.YtdpkhijbikbhnaaC1
namespace Go.Proofs.Ytdpkhijbikbhnaa
open Go Abs Plain
set_option linter.unusedSimpArgs false
set_option linter.unusedVariables false

theorem tsizeC48 : tsize Try.prog 61 = some 1 := by kernel_rfl
theorem foffC48 : foff Try.prog 61 2 = some 0 := by kernel_rfl
theorem foffC51 : foff Try.prog 64 0 = some 0 := by kernel_rfl
theorem foffV0 : foff Try.prog 45 0 = some 0 := by kernel_rfl
theorem foffV2 : foff Try.prog 45 2 = some 2 := by kernel_rfl
theorem tinfA : tinf Try.prog 65 = some ([.slice none 0 0, .slice none 0 0, .slice none 0 0], 3, 72) := by kernel_rfl
theorem tinfV : tinf Try.prog 45 = some ([.slice none 0 0, .slice none 0 0, .bool false], 3, 56) := by kernel_rfl
theorem binfC : binf Try.prog 64 = some ([(0, 3)], [.int .i64 0, .int .i64 0, .int .i64 0]) := by kernel_rfl
theorem binfV : binf Try.prog 45 = some ([(0, 1), (1, 1), (2, 1)], [.slice none 0 0, .slice none 0 0, .bool false]) := by kernel_rfl
theorem binfF : binf Try.prog 89 = none := by kernel_rfl
theorem ainfF : ainf Try.prog 89 = some (1, [.nilFunc, .nilFunc, .nilFunc]) := by kernel_rfl
theorem undA : Try.prog.underlying 62 = some (.array 3 61) := by kernel_rfl
theorem undF : Try.prog.underlying 89 = some (.array 3 31) := by kernel_rfl
theorem undS : Try.prog.underlying 65 = some (.array 3 22) := by kernel_rfl
theorem undC : Try.prog.underlying 42 = some (.pointer 64) := by kernel_rfl
theorem tsizeF : tsize Try.prog 31 = some 1 := by kernel_rfl
theorem aggF : aggT Try.prog 31 = some false := by kernel_rfl
theorem aggV : aggT Try.prog 45 = some true := by kernel_rfl
theorem tsizeV : tsize Try.prog 45 = some 3 := by kernel_rfl

theorem mkC : stepBuild Try.prog 64 [] = some { v := .agg #[.int .i64 0, .int .i64 0, .int .i64 0] } := by simp [stepBuild, binfC, fillL]
theorem boxC (a b c : Value) (T j : Nat) : stepBox T (.agg #[a, b, c]) j = some { v := .pointer (some ⟨j, 0, some 3⟩), j := j, a := [⟨false, T, [a, b, c]⟩] } := rfl
theorem mkF (a b c : Nat) : stepBuild Try.prog 89 [(0, .func (.func a) #[] #[]), (1, .func (.func b) #[] #[]), (2, .func (.func c) #[] #[])] = some { v := .agg #[.func (.func a) #[] #[], .func (.func b) #[] #[], .func (.func c) #[] #[]] } := by
  simp [stepBuild, binfF, ainfF, fillL, Value.cells, isTup, putAll]
theorem fldC (X : Nat) (s : Option Nat) : stepField Try.prog 64 (.pointer (some ⟨X, 0, s⟩)) 0 = some { v := .pointer (some ⟨X, 0, s⟩) } := by simp [stepField, foffC51]
theorem fldI (X o : Nat) (s : Option Nat) : stepField Try.prog 61 (.pointer (some ⟨X, o, s⟩)) 2 = some { v := .pointer (some ⟨X, o, s⟩) } := by simp [stepField, foffC48]
theorem idxC (X i : Nat) (s : Option Nat) (h : i < 3) : stepIndex Try.prog 62 (.pointer (some ⟨X, 0, s⟩)) (.int .i64 (i : Int)) = some { v := .pointer (some ⟨X, i, s⟩) } := by
  simp only [stepIndex, undA, tsizeC48]; rw [if_pos ⟨by omega, by omega⟩]; simp
theorem idxA (X i : Nat) (s : Option Nat) (h : i < 3) : stepIndex Try.prog 65 (.pointer (some ⟨X, 0, s⟩)) (.int .i64 (i : Int)) = some { v := .pointer (some ⟨X, i, s⟩) } := by
  simp only [stepIndex, undS, tsizeI]; rw [if_pos ⟨by omega, by omega⟩]; simp

set_option maxRecDepth 10000 in
theorem new_spec (g : Heap) (j : Nat) : FnSpec Try.prog 23 [] g { v := .pointer (some ⟨j, 0, some 3⟩), j := j, a := [⟨false, 64, intsI [0, 0, 0]⟩] } := by
  refine spec_of_body [0] follows Try.func23 rfl (by kernel_rfl) (by simp [Try.f23]) (by kernel_rfl) rfl ?_
  intro g2 s2 n hg hfr hs hn hwf hsv
  clear hg hfr hn
  refine s_run (by simp only [runL, awant_none, astep, evl, put, ap_none, List.length_nil, Nat.add_zero, undef] <;> rfl) ?_
  refine s_run (by simp only [runL, awant_none, astep, evl, put, ap_none, ap_new, List.length_nil, List.length_cons, Nat.add_zero, Nat.zero_add, upd_app, ↓reduceIte, List.map_nil, undef, mkC, boxC] <;> rfl) ?_
  refine w_ret ⟨.inr rfl, by simp, [n], ?_⟩
  refine fin_one (by simp [resVal, renT, renA, ren1]) (.inr rfl) (Nat.le_refl _) (by simp []) plain_intsI (fun i b hb => ?_)
  rw [upd_ne _ _ (by have := hs i (hwf i b hb).1; omega)]; exact hb

set_option maxRecDepth 10000 in
theorem add_spec (q o m : Nat) (e : TypeId) (l : List Int) (y : Int) (g : Heap) (hk : g q = some ⟨false, e, intsI l⟩) (hm : l.length = m) (ho : o < l.length) :
    FnSpec Try.prog 64 [.pointer (some ⟨q, o, some m⟩), .int .i64 y] g { v := .int .i64 (IntKind.i64.wrap (l[o] + y)), r := [q], w := [(q, ⟨false, e, intsI (l.set o (IntKind.i64.wrap (l[o] + y)))⟩)] } := by
  refine spec_of_body [4] follows Try.func64 rfl (by kernel_rfl) (by simp [Try.f64]) (by kernel_rfl) rfl ?_
  intro g2 s2 n hg hfr hs hn hwf hsv
  have hq : g2 q = some ⟨false, e, intsI l⟩ := by rw [hg q (by simp [Eff.fp])]; exact hk
  clear hg hfr hn hk
  have ha := addI64_spec q o m e (intsI l) l[o] y g2 hq (by simp [hm]) (by simp [ho])
  have hset : (intsI l).set o (.int .i64 (IntKind.i64.wrap (l[o] + y))) = intsI (l.set o (IntKind.i64.wrap (l[o] + y))) := by simp [intsI, List.map_set]
  rw [hset] at ha
  refine s_run (by simp only [runL, awant_none, astep, evl, put, ap_none, List.length_nil, Nat.add_zero, undef] <;> rfl) ?_
  refine s_take 4 (by simp only [runL, Option.getD_some, List.getElem?_cons_succ, List.getElem?_cons_zero, List.take_succ_cons, List.take_zero, awant_none, astep, evl, put, ap_none, List.length_nil, Nat.add_zero, upd_app, reduceCtorEq, ↓reduceIte, Nat.reduceEqDiff, nchk, fldI] <;> rfl) ?_
  refine ops_call 74 _ rfl (by simp only [upd_app, evl, List.map_cons, List.map_nil]; exact ha) (fun h => (h rfl).elim) ?_
  refine ops_heap fun G1 hG1 => ?_
  rw [ap_wr] at hG1
  refine ops_run (by simp only [runL, awant_none, astep, evl, put, ap_none, List.length_nil, Nat.add_zero, upd_app, ↓reduceIte] <;> rfl) ?_
  refine w_ret ⟨.inr rfl, by simp, [], fin_w1 (by simp [resVal]) trivial (by rw [hq]; rfl) (show G1 q = _ by rw [hG1, upd_self]) (fun c hc => SV1_plain (plain_intsI c hc)) fun i b hi hb => ?_⟩
  show G1 i = some b
  rw [hG1, upd_ne _ _ hi]; exact hb

/-- A sorter's answer, and that it was asked. -/
def soE (X i : Nat) (l : List Int) (A : List Nat) (r : List Nat) (j : Nat) : Eff := { v := .tuple #[.slice (some ⟨j, 0, some A.length⟩) A.length 1, .int .i64 0], r := X :: r, w := [(X, ⟨false, 64, intsI (l.set i (IntKind.i64.wrap (l[i]?.getD 0 + 1)))⟩)], j := j, a := [⟨false, 3, ints A⟩] }
theorem soE_ap (X i : Nat) (l : List Int) (A : List Nat) (r : List Nat) (j : Nat) (g : Heap) : (soE X i l A r j).ap g = upd (upd g X (some ⟨false, 64, intsI (l.set i (IntKind.i64.wrap (l[i]?.getD 0 + 1)))⟩)) j (some ⟨false, 3, ints A⟩) := rfl

set_option maxRecDepth 20000 in
theorem csort_spec (K : FuncId) (X i : Nat) (l : List Int) (v : Value) (s A : List Nat) (g : Heap) (j : Nat) (hi : i < 3) (hl3 : l.length = 3)
    (hK : stepIdx Try.prog 89 (.agg #[.func (.func 11) #[] #[], .func (.func 62) #[] #[], .func (.func 63) #[] #[]]) (.int .i64 (i : Int)) = some { v := .func (.func K) #[] #[] })
    (hsort : ∀ (g : Heap) (j : Nat), Src g v 1 s.length (bs s) → FnSpec Try.prog K [v] g (ieE A (srcBlk v) j)) (hX : g X = some ⟨false, 64, intsI l⟩) (hv : Src g v 1 s.length (bs s)) :
    FnSpec Try.prog 42 [.pointer (some ⟨X, 0, some 3⟩), .int .i64 i, v] g (soE X i l A (srcBlk v) j) := by
  refine spec_of_body [6, 7] follows Try.func42 rfl (by kernel_rfl) (by simp [Try.f42]) (by kernel_rfl) rfl ?_
  intro g2 s2 n hg hfr hs hn hwf hsv
  have hv2 : Src g2 v 1 s.length (bs s) := hv.congr fun i hi => hg i (by simp [Eff.fp, soE, hi])
  have hX2 : g2 X = some ⟨false, 64, intsI l⟩ := by rw [hg X (by simp [Eff.fp, soE])]; exact hX
  have hXd : X < n := hs X (hwf X _ hX2).1
  have hj : ¬ s2 j := hfr j (Nat.le_refl _) (by simp [soE])
  clear hg hfr hn hv hX
  have d1 : decide ((i : Int) < 0) = false := decide_eq_false (by omega)
  have d2 : decide ((i : Int) ≥ 3) = false := decide_eq_false (by omega)
  refine s_run (by simp only [runL, awant_none, astep, evl, put, ap_none, List.length_nil, Nat.add_zero, undef] <;> rfl) ?_
  refine w_assoc (s_run (by simp only [runL, awant_some, Option.getD_some, List.getElem?_toArray, List.getElem?_cons_succ, List.getElem?_cons_zero, Option.bind_some, b_ff, awant_none, astep, evl, put, ap_none, List.length_nil, Nat.add_zero, upd_app, stepBin, abin, stepPick, reduceCtorEq, ↓reduceIte, Nat.reduceEqDiff, Bool.false_eq_true, undC, Option.isNone_some, d1, d2] <;> rfl) ?_)
  refine s_false (by simp [evl]) (s_skip ?_)
  refine s_run (by simp only [runL, Option.getD_some, List.getElem?_cons_succ, List.getElem?_cons_zero, awant_none, astep, evl, put, ap_none, List.length_nil, Nat.add_zero, upd_app, ↓reduceIte, Nat.reduceEqDiff, List.map_cons, List.map_nil, undef, mkF, hK] <;> rfl) ?_
  refine s_take 2 (by simp only [runL, Option.getD_some, List.getElem?_cons_succ, List.getElem?_cons_zero, List.take_succ_cons, List.take_zero, awant_none, astep, evl, put, ap_none, List.length_nil, Nat.add_zero, upd_app, ↓reduceIte, Nat.reduceEqDiff] <;> rfl) ?_
  refine ops_call K _ (by simp [evl, upd_app]) (by simp only [upd_app, evl, List.map_cons, List.map_nil]; exact hsort g2 n hv2) (fun _ => rfl) ?_
  refine ops_heap fun G1 hG1 => ?_
  have b1 : G1 n = some ⟨false, 3, ints A⟩ := by rw [hG1]; simp only [ieE, ap_new]; rw [upd_self]
  have k1 : Kp n g2 G1 := by rw [hG1]; simp only [ieE, ap_new]; exact kp_upd (Kp.refl _ _) (Nat.le_refl _)
  clear hG1
  refine ops_run (by simp only [runL, List.getElem?_toArray, List.getElem?_cons_succ, List.getElem?_cons_zero, awant_none, astep, evl, put, ap_none, List.length_nil, List.length_cons, Nat.add_zero, Nat.zero_add, upd_app, stepExtract, ↓reduceIte, Nat.reduceEqDiff, ieE] <;> rfl) ?_
  refine w_gen (fun t => t 0 = .pointer (some ⟨X, 0, some 3⟩) ∧ t 1 = .int .i64 i ∧ t 9 = .slice (some ⟨n, 0, some A.length⟩) A.length 1 ∧ t 10 = .int .i64 0) (by simp [upd_app]) ?_
  rintro t ⟨t0, t1, t9, t10⟩
  show awp _ _ _ _ G1 (n + 1)
  have e0 : ((0 : Int) == 0) = true := rfl
  have x1 : G1 X = some ⟨false, 64, intsI l⟩ := by rw [k1 X hXd]; exact hX2
  have had := add_spec X i 3 _ l 1 G1 x1 hl3 (by omega)
  have hli : l[i]?.getD 0 = l[i]'(by omega) := by rw [List.getElem?_eq_getElem (by omega)]; rfl
  refine w_assoc (s_run (by simp only [runL, awant_none, astep, evl, put, ap_none, List.length_nil, Nat.add_zero, upd_app, stepBin, abin, ↓reduceIte, t10, e0] <;> rfl) ?_)
  refine s_true (by simp [evl]) ?_
  refine s_take 5 (by simp only [runL, List.take_succ_cons, List.take_zero, awant_none, astep, evl, put, ap_none, List.length_nil, Nat.add_zero, upd_app, reduceCtorEq, ↓reduceIte, Nat.reduceEqDiff, t0, t1, nchk, fldC, idxC X i (some 3) hi] <;> rfl) ?_
  refine ops_call 64 _ rfl (by simp only [upd_app, evl, List.map_cons, List.map_nil]; exact had) (fun h => (h rfl).elim) ?_
  refine ops_heap fun G2 hG2 => ?_
  rw [ap_wr] at hG2
  refine ops_run rfl ?_
  refine w_gen (fun t => t 9 = .slice (some ⟨n, 0, some A.length⟩) A.length 1 ∧ t 10 = .int .i64 0) (by simp [upd_app, put, t9, t10]) ?_
  clear t0 t1 t9 t10
  rintro t ⟨t9, t10⟩
  refine s_run (by simp only [runL, awant_none, astep, evl, put, ap_none, List.length_nil, Nat.add_zero, upd_app, ↓reduceIte, Nat.reduceEqDiff, t9, t10] <;> rfl) ?_
  refine w_ret ⟨.inr rfl, fun _ r hr => ?_, [n], ?_⟩
  · simp at hr
    rcases hr with rfl | rfl
    · simp [upd_app, isTup]
    · simp [isTup]
  · refine fin_wa1 (by simp [resVal, upd_app, renT, renA, ren1]) (fun c hc => ?_) (Nat.le_refl _) (by rw [hG2, upd_ne _ _ (by omega)]; exact b1) (plain_is _) hj (by rw [hX2]; rfl) (by rw [hG2, upd_self, hli]) (fun c hc => SV1_plain (plain_intsI c hc)) (fun i b hi hb => by rw [hG2, upd_ne _ _ hi]; exact k1.at (hs i (hwf i b hb).1) hb)
    simp at hc
    rcases hc with rfl | rfl
    · exact .inr (.inr rfl)
    · trivial
end Go.Proofs.Ytdpkhijbikbhnaa
