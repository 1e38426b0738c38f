import Derived.Test.YtahinegnblankaaP50
namespace Go.Proofs.Ytahinegnblankaa
open Go Abs
set_option linter.unusedSimpArgs false
set_option linter.unusedVariables false

/-- New blocks that may hold one another's places, as they come. -/
def shf (j l k : Nat) : Nat → Nat := fun i => if j ≤ i ∧ i < j + l then i - j + k else i
theorem shf_at {j l k i : Nat} (h : i < l) : shf j l k (j + i) = k + i := by unfold shf; rw [if_pos ⟨by omega, by omega⟩]; omega
theorem shf_zero {j l k : Nat} (h : 0 < l) : shf j l k j = k := by unfold shf; rw [if_pos ⟨by omega, by omega⟩]; omega
theorem fin_news {s2 : Nat → Prop} {g2 g' : Heap} {n : Nat} {v' v : Value} {r : List Nat} {j k : Nat} {bl : List Blk} (hk : n ≤ k) (hv : v' = renT (shf j bl.length k) v) (hsv : SVT (fun i => s2 i ∨ (j ≤ i ∧ i < j + bl.length)) v)
    (hb : ∀ i b, bl[i]? = some b → g' (k + i) = some (renB (shf j bl.length k) b)) (hs : ∀ b ∈ bl, ∀ c ∈ b.cells, SV1 (fun i => s2 i ∨ (j ≤ i ∧ i < j + bl.length)) c) (hold : ∀ i b, g2 i = some b → g' i = some b) :
    Abs.Fin { v := v, r := r, j := j, a := bl } (List.range' k bl.length) s2 g2 n g' v' := by
  have hsig : sig ({ v := v, r := r, j := j, a := bl } : Eff) (List.range' k bl.length) = shf j bl.length k := by
    funext i
    unfold sig shf
    by_cases h : j ≤ i
    · by_cases h2 : i < j + bl.length
      · rw [if_pos h, if_pos ⟨h, h2⟩, List.getElem?_range' (by show i - j < bl.length; omega)]
        simp; omega
      · rw [if_pos h, if_neg (by omega), List.getElem?_eq_none (by simp; omega)]; rfl
    · rw [if_neg h, if_neg (by omega)]
  refine ⟨by simp, fun x hx => ?_, List.nodup_range', by rw [hsig]; exact hv, fun m b hm => ?_, by simp, by simp, fun i b _ h => hold i b h, hsv, hs, by simp⟩
  · have := List.mem_range'_1.1 hx
    omega
  · have hl := (List.getElem?_eq_some_iff.1 hm).1
    rw [hsig]
    have hl : m < bl.length := hl
    refine ⟨k + m, ?_, hb m b hm⟩
    rw [List.getElem?_range' hl]
    simp

abbrev ptr5 (p : Nat) : Value := .pointer (some ⟨p, 0, some 5⟩)
theorem aggT51 : aggT Try.prog 51 = some false := by kernel_rfl
theorem tsize51 : tsize Try.prog 51 = some 1 := by kernel_rfl
theorem aggT53 : aggT Try.prog 53 = some false := by kernel_rfl
theorem tsize53 : tsize Try.prog 53 = some 1 := by kernel_rfl
theorem foff104_0 : foff Try.prog 104 0 = some 0 := by kernel_rfl
theorem foff104_1 : foff Try.prog 104 1 = some 3 := by kernel_rfl
theorem foff104_2 : foff Try.prog 104 2 = some 4 := by kernel_rfl
theorem fld104_0 (p : Nat) (s : Option Nat) : stepField Try.prog 104 (.pointer (some ⟨p, 0, s⟩)) 0 = some { v := .pointer (some ⟨p, 0, s⟩) } := by simp [stepField, foff104_0]
theorem fld104_1 (p : Nat) (s : Option Nat) : stepField Try.prog 104 (.pointer (some ⟨p, 0, s⟩)) 1 = some { v := .pointer (some ⟨p, 3, s⟩) } := by simp [stepField, foff104_1]
theorem fld104_2 (p : Nat) (s : Option Nat) : stepField Try.prog 104 (.pointer (some ⟨p, 0, s⟩)) 2 = some { v := .pointer (some ⟨p, 4, s⟩) } := by simp [stepField, foff104_2]
theorem idx102 (p i : Nat) (s : Option Nat) (h : i < 3) : stepIndex Try.prog 102 (.pointer (some ⟨p, 0, s⟩)) (.int .i64 (i : Int)) = some { v := .pointer (some ⟨p, i, s⟩) } := by
  simp [stepIndex, Try.underlying102, tsize51]
  omega
theorem binf104 : binf Try.prog 104 = some (#[(0, 3), (3, 1), (4, 1)].toList, [.pointer none, .pointer none, .pointer none, .int .i64 0, .int .i64 0]) := by kernel_rfl
theorem mk104 (x : Int) : stepBuild Try.prog 104 [(2, .int .i64 x)] = some { v := .agg #[.pointer none, .pointer none, .pointer none, .int .i64 0, .int .i64 x] } := by
  simp [stepBuild, binf104, fillL, Value.cells, isTup, putAll]

/-- The models of the program: the block of their places, and theirs. -/
structure Ms (A : Nat) (ms : Nat → List Nat) (cls o : Nat) (g : Heap) : Prop where
  hm : g A = some ⟨false, 104, [ptr2 (A + 2), ptr2 (A + 4), ptr2 (A + 6), .int .i64 (cls : Nat), .int .i64 (o : Nat)]⟩
  mo : ∀ i, i < 3 → Mo (A + 2 + 2 * i) (A + 1 + 2 * i) (ms i) g
section
variable {A : Nat} {ms : Nat → List Nat} {cls o : Nat} {g g' : Heap}
theorem Ms.congr (h : Ms A ms cls o g) (hg : ∀ i, A ≤ i → i < A + 7 → g' i = g i) : Ms A ms cls o g' :=
  ⟨by rw [hg A (by omega) (by omega)]; exact h.hm, fun i hi => (h.mo i hi).congr (hg _ (by omega) (by omega)) (hg _ (by omega) (by omega))⟩
theorem Ms.ldc (h : Ms A ms cls o g) : stepLoad Try.prog 3 (.pointer (some ⟨A, 3, some 5⟩)) g = some { v := .int .i64 (cls : Nat), r := [A] } := ld_at h.hm rfl rfl aggT3
theorem Ms.ldo (h : Ms A ms cls o g) : stepLoad Try.prog 3 (.pointer (some ⟨A, 4, some 5⟩)) g = some { v := .int .i64 (o : Nat), r := [A] } := ld_at h.hm rfl rfl aggT3
theorem Ms.ldm (h : Ms A ms cls o g) {w : Nat} (hw : w < 3) : stepLoad Try.prog 51 (.pointer (some ⟨A, w, some 5⟩)) g = some { v := ptr2 (A + 2 + 2 * w), r := [A] } := by
  have : w = 0 ∨ w = 1 ∨ w = 2 := by omega
  rcases this with rfl | rfl | rfl <;> exact ld_at h.hm rfl rfl aggT51
end

set_option maxRecDepth 10000 in
theorem isOrder_spec (x : Int) (g : Heap) : FnSpec Try.prog 80 [.int .i64 x] g { v := .bool (decide (x = 0 ∨ x = 1)) } := by
  refine spec_of_body [2] follows Try.func80 rfl (by kernel_rfl) (by simp [Try.f80]) (by kernel_rfl) rfl ?_
  intro g2 s2 n hg hfr hs hn hwf hsv
  refine s_run (by simp only [runL, awant_none, astep, evl, put, ap_none, List.length_nil, Nat.add_zero, undef] <;> rfl) ?_
  by_cases h0 : x = 0
  · have e0 : (x == 0) = true := ieq_t h0
    rw [decide_eq_true (.inl h0)]
    refine s_run (by simp only [runL, awant_some, Option.getD_some, List.getElem?_toArray, List.getElem?_cons_succ, List.getElem?_cons_zero, Option.bind_some, b_tf, awant_none, astep, evl, put, ap_none, List.length_nil, Nat.add_zero, upd_app, stepBin, abin, stepPick, reduceCtorEq, ↓reduceIte, Nat.reduceEqDiff, undef, e0] <;> rfl) ?_
    exact w_ret ⟨.inr rfl, by simp, [], fin_none (by simp [resVal]) trivial (fun _ _ h => h)⟩
  have e0 : (x == 0) = false := ieq_f h0
  by_cases h1 : x = 1
  · have e1 : (x == 1) = true := ieq_t h1
    rw [decide_eq_true (.inr h1)]
    refine s_run (by simp only [runL, awant_some, Option.getD_some, List.getElem?_toArray, List.getElem?_cons_succ, List.getElem?_cons_zero, Option.bind_some, b_ff, awant_none, astep, evl, put, ap_none, List.length_nil, Nat.add_zero, upd_app, stepBin, abin, stepPick, reduceCtorEq, ↓reduceIte, Nat.reduceEqDiff, Bool.false_eq_true, e0, e1] <;> rfl) ?_
    exact w_ret ⟨.inr rfl, by simp, [], fin_none (by simp [resVal]) trivial (fun _ _ h => h)⟩
  · have e1 : (x == 1) = false := ieq_f h1
    rw [decide_eq_false (by omega)]
    refine s_run (by simp only [runL, awant_some, Option.getD_some, List.getElem?_toArray, List.getElem?_cons_succ, List.getElem?_cons_zero, Option.bind_some, b_ff, awant_none, astep, evl, put, ap_none, List.length_nil, Nat.add_zero, upd_app, stepBin, abin, stepPick, reduceCtorEq, ↓reduceIte, Nat.reduceEqDiff, Bool.false_eq_true, e0, e1] <;> rfl) ?_
    exact w_ret ⟨.inr rfl, by simp, [], fin_none (by simp [resVal]) trivial (fun _ _ h => h)⟩

def clsI (x : Int) : Int := if x < 2 then 0 else if x < 6 then 1 else 2
theorem clsI_nat (s : Nat) : clsI (s : Int) = ((clsN s : Nat) : Int) := by
  unfold clsI clsN
  by_cases h1 : s < 2
  · rw [if_pos h1, if_pos (show (s : Int) < 2 by omega)]; rfl
  · rw [if_neg h1, if_neg (show ¬ (s : Int) < 2 by omega)]
    by_cases h2 : s < 6
    · rw [if_pos h2, if_pos (show (s : Int) < 6 by omega)]; rfl
    · rw [if_neg h2, if_neg (show ¬ (s : Int) < 6 by omega)]; rfl

set_option maxRecDepth 10000 in
theorem class_spec (x : Int) (g : Heap) : FnSpec Try.prog 64 [.int .i64 x] g { v := .int .i64 (clsI x) } := by
  refine spec_of_body [2] follows Try.func64 rfl (by kernel_rfl) (by simp [Try.f64]) (by kernel_rfl) rfl ?_
  intro g2 s2 n hg hfr hs hn hwf hsv
  refine s_run (by simp only [runL, awant_none, astep, evl, put, ap_none, List.length_nil, Nat.add_zero, undef] <;> rfl) ?_
  refine s_block (fun t g' n' => g' = g2 ∧ 6 ≤ x) ?_ ?_
  · by_cases h2 : x < 2
    · have d2 : decide (x < 2) = true := decide_eq_true h2
      refine s_run (by simp only [runL, Option.getD_some, List.getElem?_cons_zero, awant_none, astep, evl, put, ap_none, List.length_nil, Nat.add_zero, upd_app, stepBin, abin, reduceCtorEq, ↓reduceIte, d2] <;> rfl) ?_
      refine w_true (by simp [evl]) (s_run (by simp only [runL, awant_none, astep, evl, put, ap_none, List.length_nil, Nat.add_zero] <;> rfl) ?_)
      exact w_ret ⟨.inr rfl, by simp, [], fin_none (by simp [resVal, clsI, h2]) trivial (fun _ _ h => h)⟩
    · have d2 : decide (x < 2) = false := decide_eq_false h2
      refine s_run (by simp only [runL, Option.getD_some, List.getElem?_cons_zero, awant_none, astep, evl, put, ap_none, List.length_nil, Nat.add_zero, upd_app, stepBin, abin, reduceCtorEq, ↓reduceIte, d2] <;> rfl) ?_
      refine w_false (by simp [evl]) ?_
      by_cases h6 : x < 6
      · have d6 : decide (x < 6) = true := decide_eq_true h6
        refine s_run (by simp only [runL, Option.getD_some, List.getElem?_cons_zero, awant_none, astep, evl, put, ap_none, List.length_nil, Nat.add_zero, upd_app, stepBin, abin, reduceCtorEq, ↓reduceIte, d6] <;> rfl) ?_
        refine w_true (by simp [evl]) (s_run (by simp only [runL, awant_none, astep, evl, put, ap_none, List.length_nil, Nat.add_zero] <;> rfl) ?_)
        exact w_ret ⟨.inr rfl, by simp, [], fin_none (by simp [resVal, clsI, h2, h6]) trivial (fun _ _ h => h)⟩
      · have d6 : decide (x < 6) = false := decide_eq_false h6
        refine s_run (by simp only [runL, Option.getD_some, List.getElem?_cons_zero, awant_none, astep, evl, put, ap_none, List.length_nil, Nat.add_zero, upd_app, stepBin, abin, reduceCtorEq, ↓reduceIte, d6] <;> rfl) ?_
        refine w_false (by simp [evl]) (w_skip ?_)
        exact ⟨rfl, by omega⟩
  · rintro t g' n' ⟨rfl, h6⟩
    refine s_run (by simp only [runL, awant_none, astep, evl, put, ap_none, List.length_nil, Nat.add_zero] <;> rfl) ?_
    exact w_ret ⟨.inr rfl, by simp, [], fin_none (by simp [resVal, clsI]; omega) trivial (fun _ _ h => h)⟩

set_option maxRecDepth 10000 in
theorem rclass_spec (x : Int) (g : Heap) : FnSpec Try.prog 65 [.int .i64 x] g { v := .int .i64 (clsI x) } := by
  refine spec_of_body [2] follows Try.func65 rfl (by kernel_rfl) (by simp [Try.f65]) (by kernel_rfl) rfl ?_
  intro g2 s2 n hg hfr hs hn hwf hsv
  refine s_run (by simp only [runL, awant_none, astep, evl, put, ap_none, List.length_nil, Nat.add_zero, undef] <;> rfl) ?_
  by_cases h2 : x < 2
  · have d2 : decide (x < 2) = true := decide_eq_true h2
    refine w_assoc (s_run (by simp only [runL, Option.getD_some, List.getElem?_cons_zero, awant_none, astep, evl, put, ap_none, List.length_nil, Nat.add_zero, upd_app, stepBin, abin, reduceCtorEq, ↓reduceIte, d2] <;> rfl) ?_)
    refine s_true (by simp [evl]) (w_assoc (s_run (by simp only [runL, awant_none, astep, evl, put, ap_none, List.length_nil, Nat.add_zero] <;> rfl) ?_))
    exact s_ret ⟨.inr rfl, by simp, [], fin_none (by simp [resVal, clsI, h2]) trivial (fun _ _ h => h)⟩
  · have d2 : decide (x < 2) = false := decide_eq_false h2
    refine w_assoc (s_run (by simp only [runL, Option.getD_some, List.getElem?_cons_zero, awant_none, astep, evl, put, ap_none, List.length_nil, Nat.add_zero, upd_app, stepBin, abin, reduceCtorEq, ↓reduceIte, d2] <;> rfl) ?_)
    refine s_false (by simp [evl]) (s_skip ?_)
    by_cases h6 : x ≤ 5
    · have d6 : decide (x ≤ 5) = true := decide_eq_true h6
      refine w_assoc (s_run (by simp only [runL, Option.getD_some, List.getElem?_cons_zero, awant_none, astep, evl, put, ap_none, List.length_nil, Nat.add_zero, upd_app, stepBin, abin, reduceCtorEq, ↓reduceIte, d6] <;> rfl) ?_)
      refine s_true (by simp [evl]) (w_assoc (s_run (by simp only [runL, awant_none, astep, evl, put, ap_none, List.length_nil, Nat.add_zero] <;> rfl) ?_))
      exact s_ret ⟨.inr rfl, by simp, [], fin_none (by simp [resVal, clsI, h2]; omega) trivial (fun _ _ h => h)⟩
    · have d6 : decide (x ≤ 5) = false := decide_eq_false h6
      refine w_assoc (s_run (by simp only [runL, Option.getD_some, List.getElem?_cons_zero, awant_none, astep, evl, put, ap_none, List.length_nil, Nat.add_zero, upd_app, stepBin, abin, reduceCtorEq, ↓reduceIte, d6] <;> rfl) ?_)
      refine s_false (by simp [evl]) (s_skip ?_)
      refine s_run (by simp only [runL, awant_none, astep, evl, put, ap_none, List.length_nil, Nat.add_zero] <;> rfl) ?_
      exact w_ret ⟨.inr rfl, by simp, [], fin_none (by simp [resVal, clsI]; omega) trivial (fun _ _ h => h)⟩

set_option maxRecDepth 10000 in
theorem which_spec (o s : Nat) (g : Heap) (ho : o ≤ 1) : FnSpec Try.prog 85 [.int .i64 o, .int .i64 s] g { v := .int .i64 (whN o s : Nat) } := by
  refine spec_of_body [4] follows Try.func85 rfl (by kernel_rfl) (by simp [Try.f85]) (by kernel_rfl) rfl ?_
  intro g2 s2 n hg hfr hs hn hwf hsv
  refine s_run (by simp only [runL, awant_none, astep, evl, put, ap_none, List.length_nil, Nat.add_zero, undef] <;> rfl) ?_
  have : o = 0 ∨ o = 1 := by omega
  rcases this with rfl | rfl
  · have e0 : (((0 : Nat) : Int) == 0) = true := rfl
    refine w_assoc (s_run (by simp only [runL, Option.getD_some, List.getElem?_cons_zero, awant_none, astep, evl, put, ap_none, List.length_nil, Nat.add_zero, upd_app, stepBin, abin, reduceCtorEq, ↓reduceIte, e0] <;> rfl) ?_)
    refine s_true (by simp [evl]) (w_assoc (s_run (by simp only [runL, awant_none, astep, evl, put, ap_none, List.length_nil, Nat.add_zero] <;> rfl) ?_))
    exact s_ret ⟨.inr rfl, by simp, [], fin_none (by simp [resVal, whN]) trivial (fun _ _ h => h)⟩
  · have e0 : (((1 : Nat) : Int) == 0) = false := rfl
    refine w_assoc (s_run (by simp only [runL, Option.getD_some, List.getElem?_cons_zero, awant_none, astep, evl, put, ap_none, List.length_nil, Nat.add_zero, upd_app, stepBin, abin, reduceCtorEq, ↓reduceIte, e0] <;> rfl) ?_)
    refine s_false (by simp [evl]) (s_skip ?_)
    refine s_take 1 (by simp only [runL, Option.getD_some, List.getElem?_cons_succ, List.getElem?_cons_zero, List.take_succ_cons, List.take_zero, awant_none, astep, evl, put, ap_none, List.length_nil, Nat.add_zero, upd_app, ↓reduceIte, Nat.reduceEqDiff] <;> rfl) ?_
    refine ops_call 65 _ rfl (rclass_spec s g2) (by simp) ?_
    refine ops_run (by simp only [runL, awant_none, astep, evl, put, ap_none, List.length_nil, Nat.add_zero, upd_app, ↓reduceIte] <;> rfl) ?_
    exact w_ret ⟨.inr rfl, by simp, [], fin_none (by simp [resVal, clsI_nat, whN]) trivial (fun _ _ h => h)⟩

set_option maxRecDepth 10000 in
theorem equal_spec (v w : Value) (a b : List Nat) (g : Heap) (ha : ∀ x ∈ a, x < 256) (hb : ∀ x ∈ b, x < 256) (hv : Src g v 1 a.length (bs a)) (hw : Src g w 1 b.length (bs b)) : FnSpec Try.prog 87 [v, w] g { v := .bool (decide (a = b)), r := srcBlk v ++ srcBlk w } := by
  refine spec_of_body [4] follows Try.func87 rfl (by kernel_rfl) (by simp [Try.f87]) (by kernel_rfl) rfl ?_
  intro g2 s2 n hg hfr hs hn hwf hsv
  have hv2 : Src g2 v 1 a.length (bs a) := hv.congr fun i hi => hg i (by simp [Eff.fp, hi])
  have hw2 : Src g2 w 1 b.length (bs b) := hw.congr fun i hi => hg i (by simp [Eff.fp, hi])
  obtain ⟨r1, c1, _⟩ := src_str hv2
  obtain ⟨r2, c2, _⟩ := src_str hw2
  have e := nstr_beq ha hb
  refine s_run (by simp only [runL, awant_none, astep, evl, put, ap_none, List.length_nil, Nat.add_zero, undef] <;> rfl) ?_
  refine s_run (by simp only [runL, Option.getD_some, List.getElem?_cons_succ, List.getElem?_cons_zero, awant_none, astep, evl, put, ap_none, List.length_nil, Nat.add_zero, upd_app, stepBin, abin, reduceCtorEq, ↓reduceIte, Nat.reduceEqDiff, c1, c2, e] <;> rfl) ?_
  exact w_ret ⟨.inr rfl, by simp, [], fin_none (by simp [resVal]) trivial (fun _ _ h => h)⟩

def madeA (o j : Nat) : List Blk := [⟨false, 104, [ptr2 (j + 2), ptr2 (j + 4), ptr2 (j + 6), .int .i64 (0 : Nat), .int .i64 (o : Nat)]⟩, moQ (ones 258), moP (j + 1) (ones 258), moQ (ones 258), moP (j + 3) (ones 258), moQ (ones 258), moP (j + 5) (ones 258)]
def madeE (o j : Nat) : Eff := { v := ptr5 j, j := j, a := madeA o j }
theorem madeE_v (o j : Nat) : (madeE o j).v = ptr5 j := rfl
theorem madeE_ap (o j : Nat) (g : Heap) : Ms j (fun _ => ones 258) 0 o ((madeE o j).ap g) := by
  have hA : ∀ k b, (madeA o j)[k]? = some b → (madeE o j).ap g (j + k) = some b := fun k b h => addAll_get h
  refine ⟨hA 0 _ rfl, fun i hi => ?_⟩
  have : i = 0 ∨ i = 1 ∨ i = 2 := by omega
  rcases this with rfl | rfl | rfl
  · exact ⟨hA 2 _ rfl, hA 1 _ rfl⟩
  · exact ⟨hA 4 _ rfl, hA 3 _ rfl⟩
  · exact ⟨hA 6 _ rfl, hA 5 _ rfl⟩

/-- The places that are filled so far. -/
def plc (A i : Nat) : Nat → Value := fun k => if k < i then ptr2 (A + 2 + 2 * k) else .pointer none

set_option maxRecDepth 10000 in
theorem made_spec (o : Nat) (g : Heap) (j : Nat) : FnSpec Try.prog 81 [.int .i64 o] g (madeE o j) := by
  refine spec_of_body [2] follows Try.func81 rfl (by kernel_rfl) (by simp [Try.f81]) (by kernel_rfl) rfl ?_
  intro g2 s2 n hg hfr hs hn hwf hsv
  refine s_run (by simp only [runL, awant_none, astep, evl, put, ap_none, List.length_nil, Nat.add_zero, undef] <;> rfl) ?_
  refine s_run (by simp only [runL, Option.getD_some, List.getElem?_cons_zero, awant_none, astep, evl, put, ap_none, ap_new, List.length_nil, List.length_cons, Nat.add_zero, Nat.zero_add, upd_app, reduceCtorEq, ↓reduceIte, List.map_cons, List.map_nil, undef, mk104, stepBox, isTup, Value.cells] <;> rfl) (w_heap fun G1 hG1 => ?_)
  have b1 : G1 n = some ⟨false, 104, [plc n 0 0, plc n 0 1, plc n 0 2, .int .i64 (0 : Nat), .int .i64 (o : Nat)]⟩ := by rw [hG1]; simp [plc]
  have k1 : Kp n g2 G1 := by rw [hG1]; exact kp_upd (Kp.refl _ _) (Nat.le_refl _)
  refine w_assoc (s_run (by simp only [runL, awant_none, astep, evl, put, ap_none, List.length_nil, Nat.add_zero] <;> rfl) ?_)
  refine s_rngc 3 rfl (fun i t g n' => t 3 = ptr5 n ∧ n' = n + 1 + 2 * i ∧ g n = some ⟨false, 104, [plc n i 0, plc n i 1, plc n i 2, .int .i64 (0 : Nat), .int .i64 (o : Nat)]⟩ ∧ (∀ k, k < i → Mo (n + 2 + 2 * k) (n + 1 + 2 * k) (ones 258) g) ∧ Kp n g2 g) (by omega) (by simp []) (fun v => ⟨by simp [upd_app], by show n + 1 = _; omega, b1, by intro k hk; omega, k1⟩) (by decide) ?_ ?_
  · rintro i t g n' hi t8 ⟨t3, hn', hb, hmo, hkp⟩
    subst hn'
    refine s_run (by simp only [runL, awant_none, astep, evl, put, ap_none, List.length_nil, Nat.add_zero, upd_app, ↓reduceIte, t8] <;> rfl) ?_
    refine region_drawn #[0, 0, 0, 1, 9, 31, 63] (by decide +kernel) ?_
    refine d_pure 2 (by simp only [runP, List.take_succ_cons, List.take_zero, awant_none, astep, evl, put, upd_app, ↓reduceIte, Nat.reduceEqDiff, List.isEmpty_nil, Bool.and_self, t3] <;> rfl) ?_
    dsimp only
    refine d_newcall (lo := n) 41 _ rfl rfl rfl rfl (new_yes 258 g (n + 1 + 2 * i) (by omega) (by omega)) (by intro _; rfl) (AccB.nil _ _ _) (by intro x hx; simp [newME] at hx) rfl (by omega) fun acc a1 a1m => d_heap fun G3 hG3 => ?_
    have m3 : Mo (n + 2 + 2 * i) (n + 1 + 2 * i) (ones 258) G3 := by
      have := newME_ap 258 (n + 1 + 2 * i) g
      rw [← hG3, show n + 1 + 2 * i + 1 = n + 2 + 2 * i by omega] at this
      exact this
    have k3 : Kp (n + 1 + 2 * i) g G3 := by rw [hG3]; exact newME_kp (Kp.refl _ _) (Nat.le_refl _)
    have b3 := (k3 n (by omega)).trans hb
    have hix := idx102 n i (some 5) hi
    have hst : stepStore Try.prog 51 (.pointer (some ⟨n, i, some 5⟩)) (ptr2 (n + 1 + 2 * i + 1)) G3 = some { v := undef, r := [n], w := [(n, ⟨false, 104, [plc n i 0, plc n i 1, plc n i 2, .int .i64 (0 : Nat), .int .i64 (o : Nat)].set i (ptr2 (n + 1 + 2 * i + 1))⟩)] } := st_at (s := some 5) (d := undef) b3 rfl (by simp; omega) tsize51 rfl rfl
    refine d_pure 3 (by simp only [runP, List.take_succ_cons, List.take_zero, awant_none, astep, evl, put, upd_app, ↓reduceIte, Nat.reduceEqDiff, List.isEmpty_nil, Bool.and_self, newME_v, nchk, fld104_0, hix] <;> rfl) ?_
    dsimp only
    refine d_full (lo := n) (hi := n + 1 + 2 * i + 2) _ (by simp only [astep, evl, upd_app, ↓reduceIte, Nat.reduceEqDiff, undef, hst] <;> rfl) rfl (a1.le (Nat.le_refl _) (Nat.le_refl _) (by simp)) (by decide +kernel) (by intro x hx; simp at hx; subst hx; simp [newME]; omega) (by intro x hx; simp [Eff.wr] at hx; subst hx; simp [newME]; omega) (by simp [newME]) fun acc a2 => ?_
    have hset : [plc n i 0, plc n i 1, plc n i 2, .int .i64 (0 : Nat), .int .i64 (o : Nat)].set i (ptr2 (n + 1 + 2 * i + 1)) = [plc n (i + 1) 0, plc n (i + 1) 1, plc n (i + 1) 2, .int .i64 (0 : Nat), .int .i64 (o : Nat)] := by
      have : i = 0 ∨ i = 1 ∨ i = 2 := by omega
      rcases this with rfl | rfl | rfl <;> simp [plc]
    rw [hset]
    simp only []
    refine ⟨by simp [upd_app, put, t8], fun _ _ _ => ⟨by simp [upd_app, put, t3], by show n + 1 + 2 * i + 2 = _; omega, by simp [ap_wr], fun k hk => ?_, fun q hq => ?_⟩⟩
    · by_cases hki : k = i
      · subst hki
        exact m3.congr (by rw [ap_wr, upd_ne _ _ (by omega)]) (by rw [ap_wr, upd_ne _ _ (by omega)])
      · have := hmo k (by omega)
        exact this.congr (by rw [ap_wr, upd_ne _ _ (by omega), k3 _ (by omega)]) (by rw [ap_wr, upd_ne _ _ (by omega), k3 _ (by omega)])
    · rw [ap_wr, upd_ne _ _ (by omega), k3 q (by omega), hkp q hq]
  · rintro t g n' ⟨t3, hn', hb, hmo, hkp⟩
    refine s_run (by simp only [runL, awant_none, astep, evl, put, ap_none, List.length_nil, Nat.add_zero, upd_app, ↓reduceIte, t3] <;> rfl) ?_
    refine w_ret ⟨.inr rfl, by simp, List.range' n (madeA o j).length, ?_⟩
    have hL : (madeA o j).length = 7 := rfl
    refine fin_news (Nat.le_refl _) ?_ ?_ (fun i b hb' => ?_) (fun b hb' c hc => ?_) (fun i b hb' => hkp.at (hs i (hwf i b hb').1) hb')
    · simp only [resVal, upd_app, renT, renA, ren1, hL, shf_zero (show 0 < 7 by omega)]
      rfl
    · exact .inr ⟨Nat.le_refl _, by rw [hL]; show j < j + 7; omega⟩
    · rw [hL]
      have hi : i < 7 := (List.getElem?_eq_some_iff.1 hb').1
      have m0 := hmo 0 (by omega)
      have m1 := hmo 1 (by omega)
      have m2 := hmo 2 (by omega)
      have hcase : i = 0 ∨ i = 1 ∨ i = 2 ∨ i = 3 ∨ i = 4 ∨ i = 5 ∨ i = 6 := by omega
      have hints : ∀ k, renB (shf j 7 n) (moQ k) = moQ k := fun k => renB_plain plain_ints
      rcases hcase with rfl | rfl | rfl | rfl | rfl | rfl | rfl
      · cases hb'
        rw [Nat.add_zero, hb]
        simp only [renB, List.map_cons, List.map_nil, ren1, shf_at (show 2 < 7 by omega), shf_at (show 4 < 7 by omega), shf_at (show 6 < 7 by omega)]
        rfl
      · cases hb'
        rw [hints]; exact m0.hq
      · cases hb'
        have := m0.hp
        simp only [renB, List.map_cons, List.map_nil, ren1, Option.isSome_some, if_true, shf_at (show 1 < 7 by omega)]
        exact this
      · cases hb'
        rw [hints]; exact m1.hq
      · cases hb'
        have := m1.hp
        simp only [renB, List.map_cons, List.map_nil, ren1, Option.isSome_some, if_true, shf_at (show 3 < 7 by omega)]
        exact this
      · cases hb'
        rw [hints]; exact m2.hq
      · cases hb'
        have := m2.hp
        simp only [renB, List.map_cons, List.map_nil, ren1, Option.isSome_some, if_true, shf_at (show 5 < 7 by omega)]
        exact this
    · have hpl : ∀ k, ∀ c ∈ (moQ k).cells, SV1 (fun i => s2 i ∨ (j ≤ i ∧ i < j + (madeA o j).length)) c := fun k c hc => SV1_plain (plain_ints c hc)
      have hpp : ∀ q k, q < 7 → ∀ c ∈ (moP (j + q) k).cells, SV1 (fun i => s2 i ∨ (j ≤ i ∧ i < j + (madeA o j).length)) c := fun q k hq c hc => by
        simp only [List.mem_cons, List.not_mem_nil, or_false] at hc
        rcases hc with rfl | rfl
        · exact .inr (.inr ⟨by show j ≤ j + q; omega, by rw [hL]; show j + q < j + 7; omega⟩)
        · trivial
      simp only [madeA, List.mem_cons, List.not_mem_nil, or_false] at hb'
      rcases hb' with rfl | rfl | rfl | rfl | rfl | rfl | rfl
      · simp only [List.mem_cons, List.not_mem_nil, or_false] at hc
        rcases hc with rfl | rfl | rfl | rfl | rfl
        · exact .inr ⟨by show j ≤ j + 2; omega, by rw [hL]; show j + 2 < j + 7; omega⟩
        · exact .inr ⟨by show j ≤ j + 4; omega, by rw [hL]; show j + 4 < j + 7; omega⟩
        · exact .inr ⟨by show j ≤ j + 6; omega, by rw [hL]; show j + 6 < j + 7; omega⟩
        · trivial
        · trivial
      · exact hpl _ c hc
      · exact hpp 1 _ (by omega) c hc
      · exact hpl _ c hc
      · exact hpp 3 _ (by omega) c hc
      · exact hpl _ c hc
      · exact hpp 5 _ (by omega) c hc

set_option maxRecDepth 10000 in
theorem now_spec (A : Nat) (ms : Nat → List Nat) (s o : Nat) (g : Heap) (ho : o ≤ 1) (h : Ms A ms (clsN s) o g) : FnSpec Try.prog 82 [ptr5 A] g { v := ptr2 (A + 2 + 2 * whN o s), r := [A] } := by
  refine spec_of_body [2] follows Try.func82 rfl (by kernel_rfl) (by simp [Try.f82]) (by kernel_rfl) rfl ?_
  intro g2 s2 n hg hfr hs hn hwf hsv
  have hA : g2 A = some ⟨false, 104, [ptr2 (A + 2), ptr2 (A + 4), ptr2 (A + 6), .int .i64 (clsN s : Nat), .int .i64 (o : Nat)]⟩ := by rw [hg A (by simp [Eff.fp])]; exact h.hm
  have l1 : stepLoad Try.prog 3 (.pointer (some ⟨A, 3, some 5⟩)) g2 = some { v := .int .i64 (clsN s : Nat), r := [A] } := ld_at hA rfl rfl aggT3
  have l2 : stepLoad Try.prog 3 (.pointer (some ⟨A, 4, some 5⟩)) g2 = some { v := .int .i64 (o : Nat), r := [A] } := ld_at hA rfl rfl aggT3
  have hw := whN_lt (s := s) ho
  have l3 : stepLoad Try.prog 51 (.pointer (some ⟨A, whN o s, some 5⟩)) g2 = some { v := ptr2 (A + 2 + 2 * whN o s), r := [A] } := by
    have : whN o s = 0 ∨ whN o s = 1 ∨ whN o s = 2 := by omega
    rcases this with e | e | e <;> rw [e] <;> exact ld_at hA rfl rfl aggT51
  have wm : IntKind.i64.wrap (((clsN s : Nat) : Int) * ((o : Nat) : Int)) = ((whN o s : Nat) : Int) := by
    rw [show ((clsN s : Nat) : Int) * ((o : Nat) : Int) = ((whN o s : Nat) : Int) by simp [whN], wrap_nat (by omega)]
  have hix := idx102 A (whN o s) (some 5) hw
  refine s_run (by simp only [runL, awant_none, astep, evl, put, ap_none, List.length_nil, Nat.add_zero, undef] <;> rfl) ?_
  refine s_draw #[0, 0, 2, 6, 14, 0, 32, 96, 224, 510, 1, 1025, 4095, 8191, 16383] (by decide +kernel) (by simp only [runR, Option.getD_some, List.getElem?_cons_zero, awant_none, astep, evl, put, upd_app, stepBin, abin, reduceCtorEq, ↓reduceIte, Nat.reduceEqDiff, List.isEmpty_nil, Bool.and_self, nchk, fld104_0, fld104_1, fld104_2, l1, l2, wm, hix, l3] <;> rfl) ?_
  refine w_ret ⟨.inr rfl, by simp, [], fin_none (by simp [resVal]) ?_ (fun _ _ h => h)⟩
  have hcell := (hwf A _ hA).2
  have : whN o s = 0 ∨ whN o s = 1 ∨ whN o s = 2 := by omega
  rcases this with e | e | e <;> rw [e]
  · exact hcell (ptr2 (A + 2)) (by simp)
  · exact hcell (ptr2 (A + 4)) (by simp)
  · exact hcell (ptr2 (A + 6)) (by simp)
end Go.Proofs.Ytahinegnblankaa
