import Derived.Test.YtdpkhijbikbhnaaT26
namespace Go.Proofs.Ytdpkhijbikbhnaa
open Go Abs Plain
set_option linter.unusedSimpArgs false
set_option linter.unusedVariables false

/-- Of each place how much it has alike with the one ahead. -/
def plL (s A : List Nat) : List Nat := (List.range A.length).map fun i => if A.idxOf i = 0 then 0 else al s A i
theorem plL_len (s A : List Nat) : (plL s A).length = A.length := by simp [plL]
theorem plL_at {s A : List Nat} {i : Nat} (h : i < A.length) : byt (plL s A) i = if A.idxOf i = 0 then 0 else al s A i := by rw [byt_eq (by rw [plL_len]; exact h)]; simp [plL]
theorem lcpL_byt {s A : List Nat} (h : SA s A) {i : Nat} (hi : i < A.length) : byt (lcpL s A) i = byt (plL s A) (byt A i) := by
  have hx := h.lt hi
  rw [nth_byt, ← h.len] at hx
  have hid : A.idxOf (byt A i) = i := by rw [← nth_byt]; exact idx_nth h.nd hi
  rw [plL_at hx, hid, ← nth_byt (lcpL s A), lcpL_at hi]
  by_cases e : i = 0
  · rw [if_pos e, if_pos e]
  · rw [if_neg e, if_neg e, al, hid, cp_comm, nth_byt, nth_byt]
theorem max_sub (m : Nat) : stepMax (.int .i64 (((m : Nat) : Int) - 1)) (.int .i64 0) = some { v := .int .i64 ((m - 1 : Nat) : Int) } := by
  show some ({ v := .int .i64 (if ((m : Nat) : Int) - 1 < 0 then 0 else ((m : Nat) : Int) - 1) } : Eff) = _
  split
  · rw [show m - 1 = 0 by omega]; rfl
  · rw [show ((m : Nat) : Int) - 1 = ((m - 1 : Nat) : Int) by omega]

set_option maxRecDepth 20000 in
theorem plcp_spec (v w : Value) (s A : List Nat) (g : Heap) (j : Nat) (hS : SA s A) (hl : s.length ≤ 2 ^ 38) (hv : Src g v 1 s.length (bs s)) (hw : Src g w 1 A.length (ints A)) :
    FnSpec Try.prog 29 [v, w] g (okE (some (zs (plL s A))) (srcBlk v ++ srcBlk w) j) := by
  refine spec_of_body [4, 5] follows Try.func29 rfl (by kernel_rfl) (by simp [Try.f29]) (by kernel_rfl) rfl ?_
  intro g2 s2 n hg hfr hs hn hwf hsv
  rw [okE_fp] at hg
  have hv2 : Src g2 v 1 s.length (bs s) := hv.congr fun i hi => hg i (by simp [hi])
  have hw2 : Src g2 w 1 A.length (ints A) := hw.congr fun i hi => hg i (by simp [hi])
  have hvd := dom_of hs hwf hv2
  have hwd := dom_of hs hwf hw2
  have hlv := hv2.len Try.underlying30
  have hlw := hw2.len Try.underlying22
  have hAl := hS.len
  clear hg hfr hn hv hw
  refine s_run (by simp only [runL, awant_none, astep, evl, put, ap_none, List.length_nil, Nat.add_zero, undef] <;> rfl) ?_
  refine s_take 1 (by simp only [runL, Option.getD_some, List.getElem?_cons_succ, List.getElem?_cons_zero, List.take_succ_cons, List.take_zero, awant_none, astep, evl, put, ap_none, List.length_nil, Nat.add_zero, upd_app, ↓reduceIte, Nat.reduceEqDiff] <;> rfl) ?_
  refine ops_call 45 _ rfl (ahead_spec w s A g2 n hS (by omega) hw2) (fun _ => rfl) ?_
  refine ops_heap fun G1 hG1 => ?_
  have b1 : G1 n = some ⟨false, 3, intsI (ahL A A.length)⟩ := by rw [hG1]; simp [okE, ap_new]
  have k1 : Kp n g2 G1 := by rw [hG1]; simp only [okE, ap_new]; exact kp_upd (Kp.refl _ _) (Nat.le_refl _)
  have hal := ahL_len A A.length
  clear hG1
  refine ops_run (by simp only [runL, List.getElem?_toArray, List.getElem?_cons_succ, List.getElem?_cons_zero, awant_none, astep, evl, put, ap_none, List.length_nil, List.length_cons, Nat.add_zero, Nat.zero_add, upd_app, stepExtract, ↓reduceIte, Nat.reduceEqDiff, okE, hal] <;> rfl) ?_
  refine w_gen (fun t => t 0 = v ∧ t 1 = w ∧ t 6 = .slice (some ⟨n, 0, some A.length⟩) A.length 1 ∧ t 7 = .bool true) (by simp [upd_app]) ?_
  rintro t ⟨t0, t1, t6, t7⟩
  refine w_num fun N hN => ?_
  replace hN : N = n + 1 := hN
  have e1 : ((A.length : Int) != (s.length : Int)) = false := ine_f (by omega)
  refine w_assoc (s_run (by simp only [runL, awant_some, List.getElem?_toArray, List.getElem?_cons_succ, List.getElem?_cons_zero, Option.bind_some, b_ff, Bool.not_true, awant_none, astep, evl, put, ap_none, List.length_nil, Nat.add_zero, upd_app, stepBin, abin, stepUn, stepPick, stepCall, reduceCtorEq, ↓reduceIte, Nat.reduceEqDiff, Bool.false_eq_true, t0, t1, t7, hlv, hlw, e1] <;> rfl) ?_)
  refine s_false (by simp [evl]) (s_skip ?_)
  show awp _ _ _ _ G1 N
  have hvg := k1.src hv2 hvd
  have hfa := falls_spec v w s A G1 hS hl hvg (k1.src hw2 hwd)
  refine s_take 2 (by simp only [runL, List.take_succ_cons, List.take_zero, awant_none, astep, evl, put, ap_none, List.length_nil, Nat.add_zero, upd_app, reduceCtorEq, ↓reduceIte, Nat.reduceEqDiff, t0, t1] <;> rfl) ?_
  refine ops_call 46 _ rfl (by simp only [upd_app, evl, List.map_cons, List.map_nil]; exact hfa) (fun h => (h rfl).elim) ?_
  refine ops_run (by simp only [runL, awant_none, astep, evl, put, ap_none, List.length_nil, Nat.add_zero, upd_app, ↓reduceIte] <;> rfl) ?_
  refine w_gen (fun t => t 0 = v ∧ t 1 = w ∧ t 6 = .slice (some ⟨n, 0, some A.length⟩) A.length 1 ∧ t 8 = .bool true) (by simp [upd_app, t0, t1, t6]) ?_
  clear t0 t1 t6 t7
  rintro t ⟨t0, t1, t6, t8⟩
  show awp _ _ _ _ G1 N
  refine s_run (by simp only [runL, awant_none, astep, evl, put, ap_none, ap_new, List.length_nil, List.length_cons, Nat.add_zero, Nat.zero_add, upd_app, stepCall, ↓reduceIte, t1, hlw, mkInts A.length N (by omega)] <;> rfl) (w_heap fun G2 hG2 => ?_)
  have b2 : G2 N = some ⟨false, 3, ints (preR (plL s A) 0)⟩ := by rw [hG2, preR_zero, plL_len]; simp []
  have b3 : G2 n = some ⟨false, 3, intsI (ahL A A.length)⟩ := by rw [hG2, upd_ne _ _ (by omega)]; exact b1
  have k2 : Kp n g2 G2 := by rw [hG2]; exact kp_upd k1 (by omega)
  clear hG2
  refine s_run (by simp only [runL, awant_none, astep, evl, put, ap_none, List.length_nil, Nat.add_zero] <;> rfl) ?_
  refine w_assoc (s_run (by simp only [runL, awant_none, astep, evl, put, ap_none, List.length_nil, Nat.add_zero, upd_app, stepCall, ↓reduceIte, Nat.reduceEqDiff, t6, lenI] <;> rfl) ?_)
  refine s_rng A.length (fun k t g n' => t 0 = v ∧ t 8 = .bool true ∧ t 9 = .slice (some ⟨N, 0, some A.length⟩) A.length 1 ∧ t 33 = .slice (some ⟨n, 0, some A.length⟩) A.length 1 ∧ (∃ m : Nat, t 10 = .int .i64 m ∧ m ≤ s.length ∧ (k < s.length → 0 < A.idxOf k → m - 1 ≤ al s A k)) ∧ g N = some ⟨false, 3, ints (preR (plL s A) k)⟩ ∧ g n = some ⟨false, 3, intsI (ahL A A.length)⟩ ∧ Kp n g2 g) (by omega) (by simp []) (by simp [upd_app])
    (fun _ => ⟨by simp [upd_app, t0], by simp [upd_app, t8], by simp [upd_app], by simp [upd_app], ⟨0, by simp [upd_app], by omega, by omega⟩, b2, b3, k2⟩) (by decide) ?_ ?_
  · clear t0 t1 t6 t8 b1 b2 b3 k1 k2 hvg hfa
    rintro k t g n' hk t35 t34 ⟨t0, t8, t9, t33, ⟨m, t10, hm, hml⟩, b, ba, hkp⟩
    have hks : k < s.length := by omega
    have hml := hml hks
    have iy := idxI n A.length k A.length hk
    have ly := ldI (m := A.length) (i := k) ba hal (by rw [hal]; exact hk)
    have hrl := List.idxOf_lt_length_of_mem (hS.mem hks)
    have hah : (ahL A A.length)[k]'(by rw [hal]; exact hk) = if A.idxOf k = 0 then -1 else ((byt A (A.idxOf k - 1) : Nat) : Int) := by simp [ahL, hrl, nth_byt]
    rw [hah] at ly
    have w0 : IntKind.i64.wrap (((m : Nat) : Int) - 1) = ((m : Nat) : Int) - 1 := wrap64_of (by omega) (by omega)
    have hmx := max_sub m
    have hset := preR_set (l := plL s A) (k := k) (by rw [plL_len]; exact hk)
    rw [plL_at hk] at hset
    have hpl : (preR (plL s A) k).length = A.length := by rw [preR_len (by rw [plL_len]; omega), plL_len]
    have io := idxI N A.length k A.length hk
    have hvg := hkp.src hv2 hvd
    have hka : k + 1 < s.length → 0 < A.idxOf k → 0 < A.idxOf (k + 1) → al s A k - 1 ≤ al s A (k + 1) := fun h1 h2 h3 => kasai hS h1 h2 h3
    refine s_run (by simp only [runL, awant_none, astep, evl, put, ap_none, List.length_nil, Nat.add_zero, upd_app, ↓reduceIte, Nat.reduceEqDiff, t33, t35, iy, ly] <;> rfl) ?_
    refine s_run (by simp only [runL, awant_none, astep, evl, put, ap_none, List.length_nil, Nat.add_zero, upd_app, stepBin, abin, stepCall, ↓reduceIte, Nat.reduceEqDiff, t10, w0, hmx] <;> rfl) ?_
    by_cases h0 : A.idxOf k = 0
    · rw [if_pos h0] at hset
      refine s_cut (fun t' G' N' => G' = g ∧ t' 0 = v ∧ t' 8 = .bool true ∧ t' 9 = .slice (some ⟨N, 0, some A.length⟩) A.length 1 ∧ t' 33 = .slice (some ⟨n, 0, some A.length⟩) A.length 1 ∧ t' 10 = .int .i64 ((0 : Nat) : Int) ∧ t' 11 = .int .i64 k ∧ t' 35 = .int .i64 k ∧ t' 34 = .int .i64 A.length) ?_ ?_
      · refine w_block (s_run (by simp only [runL, awant_none, astep, evl, put, ap_none, List.length_nil, Nat.add_zero, upd_app, stepBin, abin, ↓reduceIte, Nat.reduceEqDiff, Int.reduceBEq, h0, Int.reduceNeg] <;> rfl) ?_)
        refine w_true (by simp [evl]) ?_
        refine region_run (id := 13) (by simp only [runL, awant_none, astep, evl, put, ap_none, List.length_nil, Nat.add_zero] <;> rfl) ?_
        exact ⟨rfl, rfl, by simp [upd_app, t0], by simp [upd_app, t8], by simp [upd_app, t9], by simp [upd_app, t33], by simp [], by simp [upd_app], by simp [upd_app, t35], by simp [upd_app, t34]⟩
      · clear t0 t8 t9 t33 t10 t35 t34
        rintro t G' N' ⟨hgg, t0, t8, t9, t33, t10, t11, t35, t34⟩
        subst hgg
        have s1 := stN (m := A.length) (i := k) (x := 0) b hpl (by rw [hpl]; exact hk)
        rw [hset] at s1
        refine region_run (id := 16) (by simp only [runL, awant_none, astep, evl, put, ap_none, ap_wr, List.length_nil, Nat.add_zero, upd_app, ↓reduceIte, Nat.reduceEqDiff, undef, t9, t10, t11, io, s1] <;> rfl) ?_
        simp only [rngPost]
        exact ⟨by simp [upd_app, t35], by simp [upd_app, t34], fun _ _ _ => ⟨by simp [upd_app, t0], by simp [upd_app, t8], by simp [upd_app, t9], by simp [upd_app, t33], ⟨0, by simp [upd_app, t10], by omega, by omega⟩, by simp [], by rw [upd_ne _ _ (by omega)]; exact ba, kp_upd hkp (by omega)⟩⟩
    · rw [if_neg h0] at hset
      have hml := hml (by omega)
      have hyl := hS.lt (show A.idxOf k - 1 < A.length by omega)
      have hale : al s A k = cp (s.drop k) (s.drop (byt A (A.idxOf k - 1))) := by rw [al, nth_byt]
      rw [nth_byt] at hyl
      have hka := fun h1 => hka h1 (by omega)
      have c1 := cp_le (s.drop k) (s.drop (byt A (A.idxOf k - 1)))
      have c2 := cp_le (s.drop (byt A (A.idxOf k - 1))) (s.drop k)
      rw [cp_comm] at c2
      rw [List.length_drop] at c1 c2
      have hmore := cp_more (s := s) (n := m - 1) (i := k) (j := byt A (A.idxOf k - 1)) (by rw [← hale]; exact hml)
      have e2 : (((byt A (A.idxOf k - 1) : Nat) : Int) == -1) = false := ieq_f (by omega)
      have hif : (if A.idxOf k = 0 then (-1 : Int) else ((byt A (A.idxOf k - 1) : Nat) : Int)) = ((byt A (A.idxOf k - 1) : Nat) : Int) := if_neg h0
      rw [hif]
      generalize byt A (A.idxOf k - 1) = y at *
      obtain ⟨q, hq⟩ : ∃ q, m - 1 = q := ⟨_, rfl⟩
      rw [hq] at hml hmore ⊢
      rw [← hale] at hmore c1 c2
      generalize al s A k = C at *
      have w3 : IntKind.i64.wrap ((k : Int) + (q : Int)) = ((k + q : Nat) : Int) := wrap_add (by omega)
      have w4 : IntKind.i64.wrap ((y : Int) + (q : Int)) = ((y + q : Nat) : Int) := wrap_add (by omega)
      have hcom := common_spec v s (k + q) (y + q) g hl (by omega) (by omega) hvg
      have w5 : IntKind.i64.wrap ((q : Int) + ((cp (s.drop (k + q)) (s.drop (y + q)) : Nat) : Int)) = ((C : Nat) : Int) := by rw [wrap_add (by omega)]; omega
      refine s_cut (fun t' G' N' => G' = g ∧ t' 0 = v ∧ t' 8 = .bool true ∧ t' 9 = .slice (some ⟨N, 0, some A.length⟩) A.length 1 ∧ t' 33 = .slice (some ⟨n, 0, some A.length⟩) A.length 1 ∧ t' 10 = .int .i64 C ∧ t' 11 = .int .i64 k ∧ t' 35 = .int .i64 k ∧ t' 34 = .int .i64 A.length) ?_ ?_
      · refine w_block (s_run (by simp only [runL, awant_none, astep, evl, put, ap_none, List.length_nil, Nat.add_zero, upd_app, stepBin, abin, ↓reduceIte, Nat.reduceEqDiff, e2] <;> rfl) ?_)
        refine w_false (by simp [evl]) (s_run (by simp only [runL, awant_none, astep, evl, put, ap_none, List.length_nil, Nat.add_zero, upd_app, ↓reduceIte, Nat.reduceEqDiff, t8] <;> rfl) ?_)
        refine w_true (by simp [evl]) ?_
        refine w_gen (fun t => t 0 = v ∧ t 8 = .bool true ∧ t 9 = .slice (some ⟨N, 0, some A.length⟩) A.length 1 ∧ t 33 = .slice (some ⟨n, 0, some A.length⟩) A.length 1 ∧ t 10 = .int .i64 q ∧ t 11 = .int .i64 k ∧ t 12 = .int .i64 y ∧ t 35 = .int .i64 k ∧ t 34 = .int .i64 A.length) (by simp [upd_app, t0, t8, t9, t33, t35, t34]) ?_
        clear t0 t8 t9 t33 t10 t35 t34
        rintro t ⟨t0, t8, t9, t33, t10, t11, t12, t35, t34⟩
        refine region_take (id := 15) 8 (by simp only [runL, List.take_succ_cons, List.take_zero, awant_none, astep, evl, put, ap_none, List.length_nil, Nat.add_zero, upd_app, stepBin, abin, reduceCtorEq, ↓reduceIte, Nat.reduceEqDiff, t0, t10, t11, t12, w3, w4] <;> rfl) ?_
        refine ops_call 28 _ rfl (by simp only [upd_app, evl, List.map_cons, List.map_nil]; exact hcom) (fun h => (h rfl).elim) ?_
        refine ops_run (by simp only [runL, awant_none, astep, evl, put, ap_none, List.length_nil, Nat.add_zero, upd_app, stepBin, abin, ↓reduceIte, Nat.reduceEqDiff, w5] <;> rfl) ?_
        exact ⟨rfl, rfl, by simp [upd_app, t0], by simp [upd_app, t8], by simp [upd_app, t9], by simp [upd_app, t33], by simp [], by simp [upd_app, t11], by simp [upd_app, t35], by simp [upd_app, t34]⟩
      · clear t0 t8 t9 t33 t10 t35 t34
        rintro t G' N' ⟨hgg, t0, t8, t9, t33, t10, t11, t35, t34⟩
        subst hgg
        have s1 := stN (m := A.length) (i := k) (x := C) b hpl (by rw [hpl]; exact hk)
        rw [hset] at s1
        refine region_run (id := 16) (by simp only [runL, awant_none, astep, evl, put, ap_none, ap_wr, List.length_nil, Nat.add_zero, upd_app, ↓reduceIte, Nat.reduceEqDiff, undef, t9, t10, t11, io, s1] <;> rfl) ?_
        simp only [rngPost]
        exact ⟨by simp [upd_app, t35], by simp [upd_app, t34], fun _ _ _ => ⟨by simp [upd_app, t0], by simp [upd_app, t8], by simp [upd_app, t9], by simp [upd_app, t33], ⟨C, by simp [upd_app, t10], by omega, hka⟩, by simp [], by rw [upd_ne _ _ (by omega)]; exact ba, kp_upd hkp (by omega)⟩⟩
  · clear t0 t1 t6 t8 b1 b2 b3 k1 k2 hvg hfa
    rintro t g n' ⟨t0, t8, t9, t33, _, b, ba, hkp⟩
    have e := preR_all (plL s A)
    rw [plL_len] at e
    rw [e] at b
    refine s_run (by simp only [runL, awant_none, astep, evl, put, ap_none, List.length_nil, Nat.add_zero, upd_app, ↓reduceIte, t9] <;> rfl) ?_
    exact w_ret (okE_some (k := N) (l := zs (plL s A)) rfl (by simp [upd_app, plL_len]) (by simp []) (by omega) (by rw [← ints_zs]; exact b) hs hwf hkp rfl)

set_option maxRecDepth 20000 in
theorem philcp_spec (v w : Value) (s A : List Nat) (g : Heap) (j : Nat) (hS : SA s A) (hl : s.length ≤ 2 ^ 38) (hv : Src g v 1 s.length (bs s)) (hw : Src g w 1 A.length (ints A)) :
    FnSpec Try.prog 13 [v, w] g (okE (some (zs (lcpL s A))) (srcBlk v ++ srcBlk w) j) := by
  refine spec_of_body [4, 5] follows Try.func13 rfl (by kernel_rfl) (by simp [Try.f13]) (by kernel_rfl) rfl ?_
  intro g2 s2 n hg hfr hs hn hwf hsv
  rw [okE_fp] at hg
  have hv2 : Src g2 v 1 s.length (bs s) := hv.congr fun i hi => hg i (by simp [hi])
  have hw2 : Src g2 w 1 A.length (ints A) := hw.congr fun i hi => hg i (by simp [hi])
  have hvd := dom_of hs hwf hv2
  have hwd := dom_of hs hwf hw2
  have hlw := hw2.len Try.underlying22
  have hAl := hS.len
  clear hg hfr hn hv hw
  refine s_run (by simp only [runL, awant_none, astep, evl, put, ap_none, List.length_nil, Nat.add_zero, undef] <;> rfl) ?_
  refine s_take 2 (by simp only [runL, Option.getD_some, List.getElem?_cons_succ, List.getElem?_cons_zero, List.take_succ_cons, List.take_zero, awant_none, astep, evl, put, ap_none, List.length_nil, Nat.add_zero, upd_app, reduceCtorEq, ↓reduceIte, Nat.reduceEqDiff] <;> rfl) ?_
  refine ops_call 29 _ rfl (plcp_spec v w s A g2 n hS hl hv2 hw2) (fun _ => rfl) ?_
  refine ops_heap fun G1 hG1 => ?_
  have b1 : G1 n = some ⟨false, 3, ints (plL s A)⟩ := by rw [hG1, ints_zs]; simp [okE, ap_new]
  have k1 : Kp n g2 G1 := by rw [hG1]; simp only [okE, ap_new]; exact kp_upd (Kp.refl _ _) (Nat.le_refl _)
  have hpl : (zs (plL s A)).length = A.length := by simp [zs, plL_len]
  clear hG1
  refine ops_run (by simp only [runL, List.getElem?_toArray, List.getElem?_cons_succ, List.getElem?_cons_zero, awant_none, astep, evl, put, ap_none, List.length_nil, List.length_cons, Nat.add_zero, Nat.zero_add, upd_app, stepExtract, ↓reduceIte, Nat.reduceEqDiff, okE, hpl] <;> rfl) ?_
  refine w_assoc (s_run (by simp only [runL, Bool.not_true, awant_none, astep, evl, put, ap_none, List.length_nil, Nat.add_zero, upd_app, stepUn, ↓reduceIte] <;> rfl) ?_)
  refine s_false (by simp [evl]) (s_skip ?_)
  refine w_gen (fun t => t 0 = v ∧ t 1 = w ∧ t 6 = .slice (some ⟨n, 0, some A.length⟩) A.length 1) (by simp [upd_app]) ?_
  rintro t ⟨t0, t1, t6⟩
  refine w_num fun N hN => ?_
  replace hN : N = n + 1 := hN
  show awp _ _ _ _ G1 N
  refine s_run (by simp only [runL, awant_none, astep, evl, put, ap_none, ap_new, List.length_nil, List.length_cons, Nat.add_zero, Nat.zero_add, upd_app, stepCall, ↓reduceIte, t1, hlw, mkInts A.length N (by omega)] <;> rfl) (w_heap fun G2 hG2 => ?_)
  have b2 : G2 N = some ⟨false, 3, ints (preR (lcpL s A) 0)⟩ := by rw [hG2, preR_zero, lcpL_len]; simp []
  have b3 : G2 n = some ⟨false, 3, ints (plL s A)⟩ := by rw [hG2, upd_ne _ _ (by omega)]; exact b1
  have k2 : Kp n g2 G2 := by rw [hG2]; exact kp_upd k1 (by omega)
  clear hG2
  refine w_assoc (s_run (by simp only [runL, awant_none, astep, evl, put, ap_none, List.length_nil, Nat.add_zero, upd_app, stepCall, ↓reduceIte, Nat.reduceEqDiff, t1, hlw] <;> rfl) ?_)
  refine s_rng A.length (fun k t g n' => t 6 = .slice (some ⟨n, 0, some A.length⟩) A.length 1 ∧ t 8 = .slice (some ⟨N, 0, some A.length⟩) A.length 1 ∧ t 22 = w ∧ g N = some ⟨false, 3, ints (preR (lcpL s A) k)⟩ ∧ g n = some ⟨false, 3, ints (plL s A)⟩ ∧ Kp n g2 g) (by omega) (by simp []) (by simp [upd_app])
    (fun _ => ⟨by simp [upd_app, t6], by simp [upd_app], by simp [upd_app], b2, b3, k2⟩) (by decide) ?_ ?_
  · clear t0 t1 t6 b1 b2 b3 k1 k2
    rintro k t g n' hk t24 t23 ⟨t6, t8, t22, b, ba, hkp⟩
    obtain ⟨p, i1, l1, _⟩ := srcN (hkp.src hw2 hwd) hk
    have hx := hS.lt hk
    rw [nth_byt, ← hAl] at hx
    have hset := preR_set (l := lcpL s A) (k := k) (by rw [lcpL_len]; exact hk)
    rw [lcpL_byt hS hk] at hset
    have hpl2 : (preR (lcpL s A) k).length = A.length := by rw [preR_len (by rw [lcpL_len]; omega), lcpL_len]
    generalize byt A k = x at *
    have iy := idxI n A.length x A.length hx
    have ly := ldN (m := A.length) (i := x) ba (plL_len s A) (by rw [plL_len]; exact hx)
    have io := idxI N A.length k A.length hk
    have s1 := stN (m := A.length) (i := k) (x := byt (plL s A) x) b hpl2 (by rw [hpl2]; exact hk)
    rw [hset] at s1
    refine s_run (by simp only [runL, awant_none, astep, evl, put, ap_none, List.length_nil, Nat.add_zero, upd_app, ↓reduceIte, Nat.reduceEqDiff, t22, t24, i1, l1] <;> rfl) ?_
    refine region_run (id := 8) (by simp only [runL, awant_none, astep, evl, put, ap_none, ap_wr, List.length_nil, Nat.add_zero, upd_app, ↓reduceIte, Nat.reduceEqDiff, undef, t6, t8, iy, ly, io, s1] <;> rfl) ?_
    simp only [rngPost]
    exact ⟨by simp [upd_app, t24], by simp [upd_app, t23], fun _ _ _ => ⟨by simp [upd_app, t6], by simp [upd_app, t8], by simp [upd_app, t22], by simp [], by rw [upd_ne _ _ (by omega)]; exact ba, kp_upd hkp (by omega)⟩⟩
  · clear t0 t1 t6 b1 b2 b3 k1 k2
    rintro t g n' ⟨t6, t8, t22, b, ba, hkp⟩
    have e := preR_all (lcpL s A)
    rw [lcpL_len] at e
    rw [e] at b
    refine s_run (by simp only [runL, awant_none, astep, evl, put, ap_none, List.length_nil, Nat.add_zero, upd_app, ↓reduceIte, t8] <;> rfl) ?_
    exact w_ret (okE_some (k := N) (l := zs (lcpL s A)) rfl (by simp [upd_app, lcpL_len]) (by simp []) (by omega) (by rw [← ints_zs]; exact b) hs hwf hkp rfl)
end Go.Proofs.Ytdpkhijbikbhnaa
