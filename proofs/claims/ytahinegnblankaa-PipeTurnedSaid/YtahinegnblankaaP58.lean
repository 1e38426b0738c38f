import Derived.Test.YtahinegnblankaaP55
namespace Go.Proofs.Ytahinegnblankaa
open Go Abs
set_option linter.unusedSimpArgs false
set_option linter.unusedVariables false

theorem w_num {P : Program} {c : Code} {Q : AQ} {t : Nat → Value} {g : Heap} {n : Nat} (h : ∀ N, N = n → awp P c Q t g N) : awp P c Q t g n := h n rfl
theorem tinf53 : tinf Try.prog 53 = some ([.pointer none], 1, 8) := by kernel_rfl
abbrev rsS (A : Nat) : Blk := ⟨false, 53, [ptr1 A, ptr1 (A + 2), ptr1 (A + 4)]⟩
theorem lit96 (x y z : Addr) (j : Nat) : stepBuildSlice Try.prog 96 3 [(0, .pointer (some x)), (1, .pointer (some y)), (2, .pointer (some z))] j = some { v := .slice (some ⟨j, 0, some 3⟩) 3 1, j := j, a := [⟨false, 53, [.pointer (some x), .pointer (some y), .pointer (some z)]⟩] } := by
  simp [stepBuildSlice, Try.underlying96, tinf53, fillL, Value.cells, isTup, putAll, List.replicate]
theorem idx96 (q i : Nat) (h : i < 3) : stepIndex Try.prog 96 (.slice (some ⟨q, 0, some 3⟩) 3 1) (.int .i64 (i : Int)) = some { v := .pointer (some ⟨q, i, some 3⟩) } := by simp [stepIndex, Try.underlying96, tsize53]; omega

/-- The models of the document: the row of their places, and theirs. -/
structure Rs (A : Nat) (ms : Nat → List Nat) (g : Heap) : Prop where
  hs : g (A + 6) = some (rsS A)
  ro : ∀ i, i < 3 → Ro (A + 2 * i) (A + 1 + 2 * i) (ms i) g
section
variable {A : Nat} {ms : Nat → List Nat} {g g' : Heap}
theorem Rs.congr (h : Rs A ms g) (hg : ∀ i, A ≤ i → i < A + 7 → g' i = g i) : Rs A ms g' :=
  ⟨by rw [hg (A + 6) (by omega) (by omega)]; exact h.hs, fun i hi => (h.ro i hi).congr (hg _ (by omega) (by omega)) (hg _ (by omega) (by omega))⟩
theorem Rs.ldm (h : Rs A ms g) {w : Nat} (hw : w < 3) : stepLoad Try.prog 53 (.pointer (some ⟨A + 6, w, some 3⟩)) g = some { v := ptr1 (A + 2 * w), r := [A + 6] } := by
  have : w = 0 ∨ w = 1 ∨ w = 2 := by omega
  rcases this with rfl | rfl | rfl <;> exact ld_at h.hs rfl rfl aggT53
theorem Rs.saw (h : Rs A ms g) {w x : Nat} (hw : w < 3) : Rs A (setF ms w (saw (ms w) x)) ((rsawE (A + 2 * w) (A + 1 + 2 * w) (saw (ms w) x)).ap g) ∧ ∀ i, i ≠ A + 1 + 2 * w → (rsawE (A + 2 * w) (A + 1 + 2 * w) (saw (ms w) x)).ap g i = g i := by
  obtain ⟨a1, a2⟩ := rsawE_ap (h.ro w hw) (saw_len (ms w) x)
  refine ⟨⟨by rw [a2 _ (by omega)]; exact h.hs, fun i hi => ?_⟩, a2⟩
  by_cases e : i = w
  · subst e
    rw [setF_self]; exact a1
  · rw [setF_ne e]
    exact (h.ro i hi).congr (a2 _ (by omega)) (a2 _ (by omega))
end

def rmodA (j : Nat) : List Blk := [roP (j + 1) (ones 258), moQ (ones 258), roP (j + 3) (ones 258), moQ (ones 258), roP (j + 5) (ones 258), moQ (ones 258), rsS j]
def rmodE (j : Nat) : Eff := { v := .slice (some ⟨j + 6, 0, some 3⟩) 3 1, j := j, a := rmodA j }
theorem rmodE_v (j : Nat) : (rmodE j).v = .slice (some ⟨j + 6, 0, some 3⟩) 3 1 := rfl
theorem rmodE_ap (j : Nat) (g : Heap) : Rs j (fun _ => ones 258) ((rmodE j).ap g) := by
  have hA : ∀ k b, (rmodA j)[k]? = some b → (rmodE j).ap g (j + k) = some b := fun k b h => addAll_get h
  refine ⟨hA 6 _ rfl, fun i hi => ?_⟩
  have : i = 0 ∨ i = 1 ∨ i = 2 := by omega
  rcases this with rfl | rfl | rfl
  · exact ⟨hA 0 _ rfl, hA 1 _ rfl⟩
  · exact ⟨hA 2 _ rfl, hA 3 _ rfl⟩
  · exact ⟨hA 4 _ rfl, hA 5 _ rfl⟩

set_option maxRecDepth 10000 in
theorem rmod_spec (g : Heap) (j : Nat) : FnSpec Try.prog 84 [] g (rmodE j) := by
  refine spec_of_body [0] follows Try.func84 rfl (by kernel_rfl) (by simp [Try.f84]) (by kernel_rfl) rfl ?_
  intro g2 s2 n hg hfr hs hn hwf hsv
  refine s_run (by simp only [runL, awant_none, astep, evl, put, ap_none, List.length_nil, Nat.add_zero, undef] <;> rfl) ?_
  refine s_take 0 rfl ?_
  refine ops_call 42 _ rfl (rnew_yes 258 g2 n (by omega) (by omega)) (by intro _; rfl) (ops_heap fun G1 hG1 => ?_)
  have r1 : Ro n (n + 1) (ones 258) G1 := by rw [hG1]; exact newRE_ap 258 n g2
  have k1 : Kp n g2 G1 := by rw [hG1]; exact newRE_kp (Kp.refl _ _) (Nat.le_refl _)
  refine ops_take 0 rfl ?_
  refine ops_call 42 _ rfl (rnew_yes 258 G1 (n + 2) (by omega) (by omega)) (by intro _; rfl) (ops_heap fun G2 hG2 => ?_)
  have r2 : Ro (n + 2) (n + 3) (ones 258) G2 := by rw [hG2]; exact newRE_ap 258 (n + 2) G1
  have k2 : Kp (n + 2) G1 G2 := by rw [hG2]; exact newRE_kp (Kp.refl _ _) (Nat.le_refl _)
  refine ops_take 0 rfl ?_
  refine ops_call 42 _ rfl (rnew_yes 258 G2 (n + 4) (by omega) (by omega)) (by intro _; rfl) (ops_heap fun G3 hG3 => ?_)
  have r3 : Ro (n + 4) (n + 5) (ones 258) G3 := by rw [hG3]; exact newRE_ap 258 (n + 4) G2
  have k3 : Kp (n + 4) G2 G3 := by rw [hG3]; exact newRE_kp (Kp.refl _ _) (Nat.le_refl _)
  refine ops_run (by simp only [runL, awant_none, astep, evl, put, ap_none, ap_new, List.length_nil, List.length_cons, Nat.add_zero, Nat.zero_add, upd_app, ↓reduceIte, Nat.reduceEqDiff, List.map_cons, List.map_nil, undef, newRE_v, lit96] <;> rfl) (w_heap fun G4 hG4 => ?_)
  have hG4' : G4 = upd G3 (n + 6) (some (rsS n)) := hG4
  have k4 : Kp (n + 6) G3 G4 := by rw [hG4']; exact kp_upd (Kp.refl _ _) (Nat.le_refl _)
  have b4 : G4 (n + 6) = some (rsS n) := by rw [hG4']; simp
  have q1 : Ro n (n + 1) (ones 258) G4 := r1.congr (by rw [k4 _ (by omega), k3 _ (by omega), k2 _ (by omega)]) (by rw [k4 _ (by omega), k3 _ (by omega), k2 _ (by omega)])
  have q2 : Ro (n + 2) (n + 3) (ones 258) G4 := r2.congr (by rw [k4 _ (by omega), k3 _ (by omega)]) (by rw [k4 _ (by omega), k3 _ (by omega)])
  have q3 : Ro (n + 4) (n + 5) (ones 258) G4 := r3.congr (by rw [k4 _ (by omega)]) (by rw [k4 _ (by omega)])
  have kk : Kp n g2 G4 := ((k1.trans k2 (by omega)).trans k3 (by omega)).trans k4 (by omega)
  have hL : (rmodA j).length = 7 := rfl
  refine w_ret ⟨.inr rfl, by simp, List.range' n (rmodA j).length, ?_⟩
  refine fin_news (Nat.le_refl _) ?_ ?_ (fun i b hb' => ?_) (fun b hb' c hc => ?_) (fun i b hb' => kk.at (hs i (hwf i b hb').1) hb')
  · simp only [resVal, upd_app, renT, renA, ren1, Option.isSome_some, if_true, hL, shf_at (show 6 < 7 by omega)]
    rfl
  · exact .inr (.inr ⟨by show j ≤ j + 6; omega, by rw [hL]; show j + 6 < j + 7; omega⟩)
  · rw [hL]
    have hi : i < 7 := (List.getElem?_eq_some_iff.1 hb').1
    have hcase : i = 0 ∨ i = 1 ∨ i = 2 ∨ i = 3 ∨ i = 4 ∨ i = 5 ∨ i = 6 := by omega
    have hints : ∀ k, renB (shf j 7 n) (moQ k) = moQ k := fun k => renB_plain plain_ints
    rcases hcase with rfl | rfl | rfl | rfl | rfl | rfl | rfl
    · cases hb'
      have := q1.hp
      simp only [renB, List.map_cons, List.map_nil, ren1, Option.isSome_some, if_true, shf_at (show 1 < 7 by omega)]
      exact this
    · cases hb'
      rw [hints]; exact q1.hq
    · cases hb'
      have := q2.hp
      simp only [renB, List.map_cons, List.map_nil, ren1, Option.isSome_some, if_true, shf_at (show 3 < 7 by omega)]
      exact this
    · cases hb'
      rw [hints]; exact q2.hq
    · cases hb'
      have := q3.hp
      simp only [renB, List.map_cons, List.map_nil, ren1, Option.isSome_some, if_true, shf_at (show 5 < 7 by omega)]
      exact this
    · cases hb'
      rw [hints]; exact q3.hq
    · cases hb'
      simp only [renB, List.map_cons, List.map_nil, ren1, shf_zero (show 0 < 7 by omega), shf_at (show 2 < 7 by omega), shf_at (show 4 < 7 by omega)]
      exact b4
  · have hpl : ∀ k, ∀ c ∈ (moQ k).cells, SV1 (fun i => s2 i ∨ (j ≤ i ∧ i < j + (rmodA j).length)) c := fun k c hc => SV1_plain (plain_ints c hc)
    have hpp : ∀ q k, q < 7 → ∀ c ∈ (roP (j + q) k).cells, SV1 (fun i => s2 i ∨ (j ≤ i ∧ i < j + (rmodA j).length)) c := fun q k hq c hc => by
      simp only [List.mem_cons, List.not_mem_nil, or_false] at hc
      subst hc
      exact .inr (.inr ⟨by show j ≤ j + q; omega, by rw [hL]; show j + q < j + 7; omega⟩)
    simp only [rmodA, List.mem_cons, List.not_mem_nil, or_false] at hb'
    rcases hb' with rfl | rfl | rfl | rfl | rfl | rfl | rfl
    · exact hpp 1 _ (by omega) c hc
    · exact hpl _ c hc
    · exact hpp 3 _ (by omega) c hc
    · exact hpl _ c hc
    · exact hpp 5 _ (by omega) c hc
    · exact hpl _ c hc
    · simp only [List.mem_cons, List.not_mem_nil, or_false] at hc
      rcases hc with rfl | rfl | rfl
      · exact .inr ⟨Nat.le_refl _, by rw [hL]; show j < j + 7; omega⟩
      · exact .inr ⟨by show j ≤ j + 2; omega, by rw [hL]; show j + 2 < j + 7; omega⟩
      · exact .inr ⟨by show j ≤ j + 4; omega, by rw [hL]; show j + 4 < j + 7; omega⟩

set_option maxRecDepth 10000 in
theorem rpack_no (v : Value) (x : Int) (g : Heap) (hx : ¬ (x = 0 ∨ x = 1)) : FnSpec Try.prog 60 [v, .int .i64 x] g { v := .tuple #[.slice none 0 0, .bool false] } := by
  refine spec_of_body [4, 5] follows Try.func60 rfl (by kernel_rfl) (by simp [Try.f60]) (by kernel_rfl) rfl ?_
  intro g2 s2 n hg hfr hs hn hwf hsv
  refine s_run (by simp only [runL, awant_none, astep, evl, put, ap_none, List.length_nil, Nat.add_zero, undef] <;> rfl) ?_
  by_cases h0 : x < 0
  · have d0 : decide (x < 0) = true := decide_eq_true h0
    refine w_assoc (s_run (by simp only [runL, awant_some, Option.getD_some, List.getElem?_toArray, List.getElem?_cons_succ, List.getElem?_cons_zero, Option.bind_some, b_tf, awant_none, astep, evl, put, ap_none, List.length_nil, Nat.add_zero, upd_app, stepBin, abin, stepPick, ↓reduceIte, Nat.reduceEqDiff, undef, d0] <;> rfl) ?_)
    refine s_true (by simp [evl]) (w_assoc (s_run (by simp only [runL, awant_none, astep, evl, put, ap_none, List.length_nil, Nat.add_zero] <;> rfl) ?_))
    exact s_ret ⟨.inr rfl, by simp [upd_app, isTup], [], fin_none (by simp [resVal, upd_app]) (by simp [SVT, SVA, SV1]) (fun _ _ h => h)⟩
  · have d0 : decide (x < 0) = false := decide_eq_false h0
    have d1 : decide (x > 1) = true := decide_eq_true (by omega)
    refine w_assoc (s_run (by simp only [runL, awant_some, Option.getD_some, List.getElem?_toArray, List.getElem?_cons_succ, List.getElem?_cons_zero, Option.bind_some, b_tf, b_ff, awant_none, astep, evl, put, ap_none, List.length_nil, Nat.add_zero, upd_app, stepBin, abin, stepPick, ↓reduceIte, Nat.reduceEqDiff, Bool.false_eq_true, undef, d0, d1] <;> rfl) ?_)
    refine s_true (by simp [evl]) (w_assoc (s_run (by simp only [runL, awant_none, astep, evl, put, ap_none, List.length_nil, Nat.add_zero] <;> rfl) ?_))
    exact s_ret ⟨.inr rfl, by simp [upd_app, isTup], [], fin_none (by simp [resVal, upd_app]) (by simp [SVT, SVA, SV1]) (fun _ _ h => h)⟩

set_option maxRecDepth 10000 in
theorem rpack_spec (v : Value) (l : List Nat) (o : Nat) (g : Heap) (j : Nat) (ho : o ≤ 1) (hl : l.length ≤ 100000) (hb : ∀ x ∈ l, x < 256) (hv : Src g v 1 l.length (bs l)) : FnSpec Try.prog 60 [v, .int .i64 o] g (packE (packB o l) (srcBlk v) j) := by
  refine spec_of_body [4, 5] follows Try.func60 rfl (by kernel_rfl) (by simp [Try.f60]) (by kernel_rfl) rfl ?_
  intro g2 s2 n hg hfr hs hn hwf hsv
  have hv2 : Src g2 v 1 l.length (bs l) := hv.congr fun i hi => hg i (by simp [packE, Eff.fp, hi])
  have hlen := hv2.len Try.underlying24
  have hdom : ∀ i ∈ srcBlk v, i < n := fun i hi => by
    obtain ⟨b, hb⟩ := Option.isSome_iff_exists.1 (hv2.dom i hi)
    exact hs i (hwf i b hb).1
  clear hg hfr hn hv
  have d0 : decide (((o : Nat) : Int) < 0) = false := decide_eq_false (by omega)
  have d1 : decide (((o : Nat) : Int) > 1) = false := decide_eq_false (by omega)
  have d2 : decide ((l.length : Int) > 100000) = false := decide_eq_false (by omega)
  refine s_run (by simp only [runL, awant_none, astep, evl, put, ap_none, List.length_nil, Nat.add_zero, undef] <;> rfl) ?_
  refine w_assoc (s_run (by simp only [runL, awant_some, Option.getD_some, List.getElem?_toArray, List.getElem?_cons_succ, List.getElem?_cons_zero, Option.bind_some, b_ff, awant_none, astep, evl, put, ap_none, List.length_nil, Nat.add_zero, upd_app, stepBin, abin, stepPick, stepCall, reduceCtorEq, ↓reduceIte, Nat.reduceEqDiff, Bool.false_eq_true, hlen, d0, d1, d2] <;> rfl) ?_)
  refine s_false (by simp [evl]) (s_skip ?_)
  refine w_gen (fun t => t 0 = v ∧ t 1 = .int .i64 o) (by simp [upd_app]) ?_
  rintro t ⟨t0, t1⟩
  -- the moved bytes
  have hml := move_len l row0
  have hmb := move_lt hb full0
  have hMv := rmove_spec v l g2 n (by omega) hb hv2
  have s3 := newE_src 5 (bs (move l row0)) (srcBlk v) n g2
  have b3 := newE_blk 5 (bs (move l row0)) (srcBlk v) n
  have hj3 := newE_j 5 (bs (move l row0)) (srcBlk v) n
  have hw3 := newE_w 5 (bs (move l row0)) (srcBlk v) n
  have hbl3 : (bs (move l row0)).length = (move l row0).length := by simp
  rw [hbl3] at s3
  generalize newE 5 (bs (move l row0)) (srcBlk v) n = E3 at hMv s3 b3 hj3 hw3
  refine s_take 1 (by simp only [runL, List.take_succ_cons, List.take_zero, awant_none, astep, evl, put, ap_none, List.length_nil, Nat.add_zero, t0] <;> rfl) ?_
  refine ops_call 28 E3 rfl hMv (fun _ => hj3) (ops_heap fun G3 hG3 => ops_num fun N3 hN3 => ?_)
  have hG3' : G3 = E3.ap g2 := hG3
  have hN3' : N3 = n + E3.a.length := hN3
  have k3 : Kp n g2 G3 := by rw [hG3']; exact kp_ap (Kp.refl _ _) hw3 (fun _ => by rw [hj3]; exact Nat.le_refl _)
  rw [← hG3'] at s3
  clear hG3 hG3' hN3 hMv
  -- the symbols
  have hT := rtell_spec E3.v (move l row0) G3 N3 (by omega) hmb s3
  obtain ⟨i4, hO4, hi4⟩ := newE_OwnI 3 (ints (tell (move l row0) 0)) (srcBlk E3.v) N3 G3
  have hj4 := newE_j 3 (ints (tell (move l row0) 0)) (srcBlk E3.v) N3
  have hw4 := newE_w 3 (ints (tell (move l row0) 0)) (srcBlk E3.v) N3
  generalize newE 3 (ints (tell (move l row0) 0)) (srcBlk E3.v) N3 = E4 at hT hO4 hi4 hj4 hw4
  refine ops_take 0 rfl ?_
  refine ops_call 39 E4 rfl hT (fun _ => hj4) (ops_heap fun G4 hG4 => ops_num fun M4 hM4 => ?_)
  have hG4' : G4 = E4.ap G3 := hG4
  have hM4e : M4 = N3 + E4.a.length := hM4
  have k4 : Kp N3 G3 G4 := by rw [hG4']; exact kp_ap (Kp.refl _ _) hw4 (fun _ => by rw [hj4]; exact Nat.le_refl _)
  rw [← hG4'] at hO4
  have hM4' : n ≤ M4 ∧ ∀ q, i4 = some q → n ≤ q ∧ q < M4 := by
    refine ⟨by omega, fun q hq => ?_⟩
    have := hi4 q hq
    omega
  clear hM4 hG4 hG4' hi4 hT
  generalize E4.v = u4 at hO4 ⊢
  have hsl := syms_len l
  have htl : (ints (tell (move l row0) 0)).length + 1 = (syms l).length := by simp [syms]
  have hO5 : OwnI 3 1 (upd G4 M4 (some ⟨false, 3, [.int .i64 257]⟩)) u4 (ints (tell (move l row0) 0)).length (ints (tell (move l row0) 0)) i4 := hO4.keep fun k hk => upd_ne _ _ (by have := hM4'.2 k hk; omega)
  have hsrc : srcCells (.slice (some ⟨M4, 0, some 1⟩) 1 1) (upd G4 M4 (some ⟨false, 3, [.int .i64 257]⟩)) 1 = some (1, [.int .i64 257]) := by simp [srcCells, rd]
  obtain ⟨f, i5, hf, hO6, hi5, hkf⟩ := own_append (P := Try.prog) (n := M4 + 1) hO5 hsrc (by simp) Try.underlying22 tinf3 (by omega) (by omega) (by omega)
  have hcells : ints (tell (move l row0) 0) ++ [.int .i64 257] = ints (syms l) := by simp [syms]
  rw [hcells, htl] at hO6
  obtain ⟨k, hik, hfv, hfk, hkl⟩ : ∃ k, i5 = some k ∧ f.v = .slice (some ⟨k, 0, some (syms l).length⟩) (syms l).length 1 ∧ f.ap (upd G4 M4 (some ⟨false, 3, [.int .i64 257]⟩)) k = some ⟨false, 3, ints (syms l)⟩ ∧ (n ≤ k ∧ k < M4 + 1 + f.a.length) := by
    rcases hO6 with ⟨_, _, h, _⟩ | ⟨k, e, h1, h2, _⟩
    · have : (syms l).length = 0 := h
      omega
    · refine ⟨k, e, ?_, h2, ?_⟩
      · rw [h1]; simp
      · rcases hi5 with ⟨e', _⟩ | ⟨_, e', e2⟩
        · rw [e] at e'
          have := hM4'.2 k e'.symm
          omega
        · rw [e] at e'
          cases e'
          omega
  subst hik
  refine ops_run (by simp only [runL, awant_none, astep, evl, put, ap_none, ap_new, List.length_nil, List.length_cons, Nat.add_zero, Nat.zero_add, upd_app, stepCall, ↓reduceIte, Nat.reduceEqDiff, List.map_cons, List.map_nil, undef, lit22_1, hf, hfv] <;> rfl) (w_heap fun G6 hG6 => ?_)
  have hG6' : G6 = f.ap (upd G4 M4 (some ⟨false, 3, [.int .i64 257]⟩)) := hG6
  rw [← hG6'] at hfk hkf
  have kg6 : Kp n g2 G6 := fun q hq => by rw [hkf q (by omega) (fun e => by have := hM4'.2 q e.symm; omega), upd_ne _ _ (by omega), k4 q (by omega), k3 q hq]
  clear hG6 hkf hf hO4 hO5 hO6 hi5 hG6'
  refine w_num fun M hM0 => ?_
  have hM : M = M4 + 1 + f.a.length := hM0
  clear hM0
  have hMn : n ≤ M ∧ n ≤ k ∧ k < M := by omega
  refine w_gen (fun t => t 1 = .int .i64 o ∧ t 6 = .slice (some ⟨k, 0, some (syms l).length⟩) (syms l).length 1) (by simp [upd_app, t1]) ?_
  clear t0 t1
  rintro t ⟨t1, t6⟩
  obtain ⟨L, hL⟩ : ∃ L, syms l = L := ⟨_, rfl⟩
  have hL258 := fun i => syms_at (i := i) hb
  have hLl := syms_lt hb
  rw [hL] at hsl hL258 hfk hLl t6
  have hPB : packB o l = (pall o L ps0).N := by rw [← hL]; rfl
  -- models and writer
  refine s_take 0 rfl ?_
  refine ops_call 84 _ rfl (rmod_spec G6 M) (by intro _; rfl) (ops_heap fun G7 hG7 => ?_)
  have M7 : Rs M (fun _ => ones 258) G7 := by rw [hG7]; exact rmodE_ap M G6
  have k7 : Kp M G6 G7 := by rw [hG7]; exact kp_ap (Kp.refl _ _) rfl (fun _ => Nat.le_refl _)
  refine ops_run (by simp only [runL, awant_none, astep, evl, put, ap_none, List.length_nil, Nat.add_zero, upd_app, ↓reduceIte, rmodE_v] <;> rfl) ?_
  refine w_gen (fun t => t 1 = .int .i64 o ∧ t 6 = .slice (some ⟨k, 0, some L.length⟩) L.length 1 ∧ t 7 = .slice (some ⟨M + 6, 0, some 3⟩) 3 1) (by simp [upd_app, t1, t6]) ?_
  clear t1 t6
  rintro t ⟨t1, t6, t7⟩
  refine s_take 0 rfl ?_
  refine ops_call 32 _ rfl (rnewW_spec G7 (M + 7)) (by intro _; rfl) (ops_heap fun G8 hG8 => ?_)
  have W8 : Rw (M + 8) (M + 7) [0, 0, 0, 0] 4294967295 G8 := by rw [hG8]; exact rnewWE_ap (M + 7) G7
  have k8 : Kp (M + 7) G7 G8 := by rw [hG8]; exact kp_ap (Kp.refl _ _) rfl (fun _ => Nat.le_refl _)
  have M8 : Rs M (fun _ => ones 258) G8 := M7.congr fun i h1 h2 => k8 i h2
  have kg8 : Kp n g2 G8 := (kg6.trans k7 (by omega)).trans k8 (by omega)
  have hk8 : G8 k = some ⟨false, 3, ints L⟩ := by rw [k8 k (by omega), k7 k (by omega)]; exact hfk
  refine ops_run (by simp only [runL, awant_none, astep, evl, put, ap_none, List.length_nil, Nat.add_zero, upd_app, ↓reduceIte, rnewWE_v] <;> rfl) ?_
  refine w_gen (fun t => t 1 = .int .i64 o ∧ t 6 = .slice (some ⟨k, 0, some L.length⟩) L.length 1 ∧ t 7 = .slice (some ⟨M + 6, 0, some 3⟩) 3 1 ∧ t 8 = ptr2 (M + 8)) (by simp [upd_app, t1, t6, t7]) ?_
  clear t1 t6 t7
  rintro t ⟨t1, t6, t7, t8⟩
  have ln := len22 k L.length (some L.length)
  refine s_run (by simp only [runL, awant_none, astep, evl, put, ap_none, List.length_nil, Nat.add_zero] <;> rfl) ?_
  refine w_assoc (s_run (by simp only [runL, awant_none, astep, evl, put, ap_none, List.length_nil, Nat.add_zero] <;> rfl) ?_)
  refine s_for 0 L.length (fun i t g n' => t 1 = .int .i64 o ∧ t 6 = .slice (some ⟨k, 0, some L.length⟩) L.length 1 ∧ t 7 = .slice (some ⟨M + 6, 0, some 3⟩) 3 1 ∧ t 8 = ptr2 (M + 8) ∧ t 9 = .int .i64 ((pall o (L.take i) ps0).last : Nat) ∧ Rw (M + 8) (M + 7) (pall o (L.take i) ps0).N (pall o (L.take i) ps0).r g ∧ Rs M (pall o (L.take i) ps0).ms g ∧ g k = some ⟨false, 3, ints L⟩ ∧ Kp n g2 g) (by omega) (by omega) (by simp [])
    ⟨by simp [upd_app, t1], by simp [upd_app, t6], by simp [upd_app, t7], by simp [upd_app, t8], by simp [upd_app]; rfl, W8, M8, hk8, kg8⟩ ?_ ?_ ?_
  · clear t1 t6 t7 t8 W8 M8 hk8 kg8
    rintro i t g n' hi t10 ⟨t1, t6, t7, t8, t9, hR, hMs, hk, hkp⟩
    have dl : decide ((i : Int) < ((L.length : Nat) : Int)) = decide (i < L.length) := by simp
    exact ⟨_, (by simp only [runL, awant_none, astep, evl, put, ap_none, List.length_nil, Nat.add_zero, upd_app, stepBin, abin, stepCall, ↓reduceIte, Nat.reduceEqDiff, t10, t6, ln, dl] <;> rfl), by simp [], by simp [upd_app, t10], by simp [upd_app, t1], by simp [upd_app, t6], by simp [upd_app, t7], by simp [upd_app, t8], by simp [upd_app, t9], hR, hMs, hk, hkp⟩
  · clear t1 t6 t7 t8 W8 M8 hk8 kg8
    rintro i t g n' hi t10 ⟨t1, t6, t7, t8, t9, hR, hMs, hk, hkp⟩
    have hx := hL258 i hi
    have hPG : PG (pall o (L.take i) ps0) := PG.start.all fun y hy => hLl y (List.mem_of_mem_take hy)
    have hNl := pall_len (o := o) (L.take i) ps0
    have h4 : ps0.N.length = 4 := rfl
    have htk : (L.take i).length ≤ i := by simp; omega
    rw [pall_take hi]
    obtain ⟨S, hS⟩ : ∃ S, pall o (L.take i) ps0 = S := ⟨_, rfl⟩
    rw [hS] at hR hMs hPG hNl t9 ⊢
    have hix := idx22 k L.length i L.length hi
    have hld := ldq hk hi
    obtain ⟨x, hxx⟩ : ∃ x, byt L i = x := ⟨_, rfl⟩
    rw [hxx] at hx hld ⊢
    have hw := whN_lt (s := S.last) ho
    have hRo := hMs.ro _ hw
    have hGd := hPG.g (whN o S.last)
    have hcl := hPG.l (whN o S.last)
    have hsum := hGd.sum
    have hsp := rspan_yes _ _ (S.ms (whN o S.last)) x g hRo (by omega) (by omega) (by omega)
    have htot := rtotal_spec _ _ (S.ms (whN o S.last)) g hRo (by omega) (by omega)
    have hld2 := hMs.ldm hw
    have hix2 := idx96 (M + 6) (whN o S.last) hw
    have htk2 := sum_take_le (S.ms (whN o S.last)) x
    obtain ⟨F, hF, hFv, hFa, hFr, hFw, hR', hFf⟩ := rput_any (x := (((S.ms (whN o S.last)).take x).sum : Nat)) (y := (byt (S.ms (whN o S.last)) x : Nat)) (z := ((S.ms (whN o S.last)).sum : Nat)) hR hPG.e.b hPG.e.r1 hPG.e.r2 (by omega) (by omega) (by omega)
    refine s_take 3 (by simp only [runL, List.take_succ_cons, List.take_zero, awant_none, astep, evl, put, ap_none, List.length_nil, Nat.add_zero, upd_app, ↓reduceIte, Nat.reduceEqDiff, t1, t7, t9] <;> rfl) ?_
    refine ops_call 85 _ rfl (which_spec o S.last g ho) (by simp) ?_
    refine ops_run (by simp only [runL, awant_none, astep, evl, put, ap_none, List.length_nil, Nat.add_zero, upd_app, ↓reduceIte, Nat.reduceEqDiff, hix2, hld2] <;> rfl) ?_
    refine w_gen (fun t => t 1 = .int .i64 o ∧ t 6 = .slice (some ⟨k, 0, some L.length⟩) L.length 1 ∧ t 7 = .slice (some ⟨M + 6, 0, some 3⟩) 3 1 ∧ t 8 = ptr2 (M + 8) ∧ t 10 = .int .i64 i ∧ t 11 = ptr1 (M + 2 * whN o S.last)) (by simp [upd_app, t1, t6, t7, t8, t10]) ?_
    clear t1 t6 t7 t8 t9 t10
    rintro t ⟨t1, t6, t7, t8, t10, t11⟩
    refine s_take 5 (by simp only [runL, List.take_succ_cons, List.take_zero, awant_none, astep, evl, put, ap_none, List.length_nil, Nat.add_zero, upd_app, ↓reduceIte, Nat.reduceEqDiff, t6, t10, t11, hix, hld] <;> rfl) ?_
    refine ops_call 48 _ rfl hsp (by simp) ?_
    refine ops_run (by simp only [runL, List.getElem?_toArray, List.getElem?_cons_succ, List.getElem?_cons_zero, awant_none, astep, evl, put, ap_none, List.length_nil, Nat.add_zero, upd_app, stepExtract, ↓reduceIte, Nat.reduceEqDiff] <;> rfl) ?_
    refine w_gen (fun t => t 1 = .int .i64 o ∧ t 6 = .slice (some ⟨k, 0, some L.length⟩) L.length 1 ∧ t 7 = .slice (some ⟨M + 6, 0, some 3⟩) 3 1 ∧ t 8 = ptr2 (M + 8) ∧ t 10 = .int .i64 i ∧ t 11 = ptr1 (M + 2 * whN o S.last) ∧ t 12 = .int .i64 (((S.ms (whN o S.last)).take x).sum : Nat) ∧ t 13 = .int .i64 (byt (S.ms (whN o S.last)) x : Nat)) (by simp [upd_app, t1, t6, t7, t8, t10, t11]) ?_
    clear t1 t6 t7 t8 t10 t11
    rintro t ⟨t1, t6, t7, t8, t10, t11, t12, t13⟩
    refine s_take 4 (by simp only [runL, List.take_succ_cons, List.take_zero, awant_none, astep, evl, put, ap_none, List.length_nil, Nat.add_zero, upd_app, ↓reduceIte, Nat.reduceEqDiff, t8, t11, t12, t13] <;> rfl) ?_
    refine ops_call 46 _ rfl htot (by simp) ?_
    refine ops_take 0 rfl ?_
    refine ops_call 34 F rfl hF (fun h => (h hFa).elim) (ops_heap fun G3 hG3 => ?_)
    have hG3' : G3 = F.ap g := hG3
    rw [← hG3'] at hR' hFf
    clear hG3
    refine ops_run (by simp only [runL, put, List.length_nil, Nat.add_zero] <;> rfl) ?_
    have hMs3 : Rs M S.ms G3 := hMs.congr fun q h1 h2 => hFf q (by omega) (by omega)
    have hk3 : G3 k = some ⟨false, 3, ints L⟩ := by rw [hFf k (by omega) (by omega)]; exact hk
    have hld3 := ldq hk3 hi
    rw [hxx] at hld3
    refine w_gen (fun t => t 1 = .int .i64 o ∧ t 6 = .slice (some ⟨k, 0, some L.length⟩) L.length 1 ∧ t 7 = .slice (some ⟨M + 6, 0, some 3⟩) 3 1 ∧ t 8 = ptr2 (M + 8) ∧ t 10 = .int .i64 i ∧ t 11 = ptr1 (M + 2 * whN o S.last)) (by simp [upd_app, t1, t6, t7, t8, t10, t11]) ?_
    clear t1 t6 t7 t8 t10 t11 t12 t13
    rintro t ⟨t1, t6, t7, t8, t10, t11⟩
    obtain ⟨a1, a2⟩ := hMs3.saw (x := x) hw
    refine s_take 5 (by simp only [runL, List.take_succ_cons, List.take_zero, awant_none, astep, evl, put, ap_none, List.length_nil, Nat.add_zero, upd_app, ↓reduceIte, Nat.reduceEqDiff, t6, t10, t11, hix, hld3] <;> rfl) ?_
    refine ops_call 44 _ rfl (rsaw_yes _ _ (S.ms (whN o S.last)) x G3 (hMs3.ro _ hw) (by omega) (by omega) (by omega)) (by intro h; exact (h rfl).elim) (ops_heap fun G4 hG4 => ?_)
    have hG4' : G4 = (rsawE (M + 2 * whN o S.last) (M + 1 + 2 * whN o S.last) (saw (S.ms (whN o S.last)) x)).ap G3 := hG4
    rw [← hG4'] at a1 a2
    clear hG4
    refine ops_run (by simp only [runL, put] <;> rfl) ?_
    have hk4 : G4 k = some ⟨false, 3, ints L⟩ := by rw [a2 k (by omega)]; exact hk3
    have hld4 := ldq hk4 hi
    rw [hxx] at hld4
    refine w_gen (fun t => t 1 = .int .i64 o ∧ t 6 = .slice (some ⟨k, 0, some L.length⟩) L.length 1 ∧ t 7 = .slice (some ⟨M + 6, 0, some 3⟩) 3 1 ∧ t 8 = ptr2 (M + 8) ∧ t 10 = .int .i64 i) (by simp [upd_app, t1, t6, t7, t8, t10]) ?_
    clear t1 t6 t7 t8 t10 t11
    rintro t ⟨t1, t6, t7, t8, t10⟩
    refine region_run (id := 14) (by simp only [runL, awant_none, astep, evl, put, ap_none, List.length_nil, Nat.add_zero, upd_app, ↓reduceIte, Nat.reduceEqDiff, t6, t10, hix, hld4] <;> rfl) ?_
    simp only [rangePost]
    refine ⟨by simp [upd_app, t10], fun _ _ _ => ⟨by simp [upd_app, t1], by simp [upd_app, t6], by simp [upd_app, t7], by simp [upd_app, t8], by simp [upd_app]; rfl, hR'.congr (a2 _ (by omega)) (a2 _ (by omega)), a1, hk4, fun q hq => ?_⟩⟩
    show G4 q = g2 q
    rw [a2 q (by omega), hFf q (by omega) (by omega)]
    exact hkp q hq
  · clear t1 t6 t7 t8 W8 M8 hk8 kg8
    rintro t g n' ⟨t1, t6, t7, t8, t9, hR, hMs, hk, hkp⟩
    rw [List.take_length, ← hPB] at hR
    refine s_run (by simp only [runL, awant_none, astep, evl, put, ap_none, List.length_nil, Nat.add_zero, upd_app, ↓reduceIte, t8, nchk, fld43_0, hR.ld0] <;> rfl) ?_
    refine w_ret ⟨.inr rfl, by simp [upd_app, isTup], [M + 7], ?_⟩
    refine fin_one (by simp [resVal, upd_app, renT, renA, ren1]) (fun c hc => ?_) (by omega) hR.hq (fun c hc => plain_ints c hc) (fun i b hb => hkp.at (hs i (hwf i b hb).1) hb)
    simp at hc
    rcases hc with rfl | rfl
    · exact .inr (.inr rfl)
    · trivial
end Go.Proofs.Ytahinegnblankaa
