import Derived.Test.YtahinegnblankaaP52
namespace Go.Proofs.Ytahinegnblankaa
open Go Abs
set_option linter.unusedSimpArgs false
set_option linter.unusedVariables false

theorem newE_OwnI (e : TypeId) (cs : List Value) (r : List Nat) (j : Nat) (G : Heap) : ∃ i, OwnI e 1 ((newE e cs r j).ap G) (newE e cs r j).v cs.length cs i ∧ ∀ q, i = some q → q = j ∧ (newE e cs r j).a.length = 1 := by
  unfold newE
  split
  · rename_i h
    have : cs = [] := List.eq_nil_of_length_eq_zero h
    subst this
    exact ⟨none, OwnI.nil e 1 _, by simp⟩
  · exact ⟨some j, .inr ⟨j, rfl, rfl, by simp [ap_new], by simp⟩, fun q hq => by cases hq; exact ⟨rfl, rfl⟩⟩

def packE (F : List Nat) (r : List Nat) (j : Nat) : Eff := { v := .tuple #[.slice (some ⟨j, 0, some F.length⟩) F.length 1, .bool true], r := r, j := j, a := [⟨false, 5, bs F⟩] }
theorem packE_ap (F r : List Nat) (j : Nat) (g : Heap) : (packE F r j).ap g j = some ⟨false, 5, bs F⟩ := by simp [packE, Eff.ap, setAll, addAll]
theorem packE_v (F r : List Nat) (j : Nat) : (packE F r j).v = .tuple #[.slice (some ⟨j, 0, some F.length⟩) F.length 1, .bool true] := rfl

theorem syms_at {l : List Nat} {i : Nat} (hb : ∀ x ∈ l, x < 256) (h : i < (syms l).length) : byt (syms l) i < 258 := by
  rw [byt_eq h]
  exact syms_lt hb _ (List.getElem_mem h)
theorem syms_len (l : List Nat) : (syms l).length ≤ l.length + 1 := by
  have h2 := tell_len (move l row0) 0
  rw [move_len] at h2
  simp [syms]
  omega
theorem pall_take {o : Nat} {L : List Nat} {i : Nat} (h : i < L.length) : pall o (L.take (i + 1)) ps0 = pst o (pall o (L.take i) ps0) (byt L i) := by rw [take_succ_byt h, pall_snoc]

set_option maxRecDepth 10000 in
theorem pack_spec (v : Value) (l : List Nat) (o : Nat) (g : Heap) (j : Nat) (ho : o ≤ 1) (hl : l.length ≤ 100000) (hb : ∀ x ∈ l, x < 256) (hv : Src g v 1 l.length (bs l)) : FnSpec Try.prog 59 [v, .int .i64 o] g (packE (packB o l) (srcBlk v) j) := by
  refine spec_of_body [4, 5] follows Try.func59 rfl (by kernel_rfl) (by simp [Try.f59]) (by kernel_rfl) rfl ?_
  intro g2 s2 n hg hfr hs hn hwf hsv
  have hv2 : Src g2 v 1 l.length (bs l) := hv.congr fun i hi => hg i (by simp [packE, Eff.fp, hi])
  have hlen := hv2.len Try.underlying24
  have hdom : ∀ i ∈ srcBlk v, i < n := fun i hi => by
    obtain ⟨b, hb⟩ := Option.isSome_iff_exists.1 (hv2.dom i hi)
    exact hs i (hwf i b hb).1
  clear hg hfr hn hv
  have hiso := isOrder_spec o g2
  rw [decide_eq_true (show ((o : Nat) : Int) = 0 ∨ ((o : Nat) : Int) = 1 by omega)] at hiso
  have d1 : decide ((l.length : Int) > 100000) = false := decide_eq_false (by omega)
  refine s_run (by simp only [runL, awant_none, astep, evl, put, ap_none, List.length_nil, Nat.add_zero, undef] <;> rfl) ?_
  refine w_assoc (s_take 1 (by simp only [runL, Option.getD_some, List.getElem?_cons_succ, List.getElem?_cons_zero, List.take_succ_cons, List.take_zero, awant_none, astep, evl, put, ap_none, List.length_nil, Nat.add_zero, upd_app, ↓reduceIte, Nat.reduceEqDiff] <;> rfl) ?_)
  refine ops_call 80 _ rfl hiso (by simp) ?_
  refine ops_run (by simp only [runL, awant_some, Option.getD_some, List.getElem?_toArray, List.getElem?_cons_succ, List.getElem?_cons_zero, Option.bind_some, b_ff, Bool.not_true, awant_none, astep, evl, put, ap_none, List.length_nil, Nat.add_zero, upd_app, stepBin, abin, stepUn, stepPick, stepCall, reduceCtorEq, ↓reduceIte, Nat.reduceEqDiff, Bool.false_eq_true, hlen, d1] <;> rfl) ?_
  refine s_false (by simp [evl]) (s_skip ?_)
  refine w_gen (fun t => t 0 = v ∧ t 1 = .int .i64 o) (by simp [upd_app]) ?_
  rintro t ⟨t0, t1⟩
  refine s_take 1 (by simp only [runL, List.take_succ_cons, List.take_zero, awant_none, astep, evl, put, ap_none, List.length_nil, Nat.add_zero, t1] <;> rfl) ?_
  refine ops_call 81 _ rfl (made_spec o g2 n) (by intro _; rfl) (ops_heap fun G1 hG1 => ?_)
  have M1 : Ms n (fun _ => ones 258) 0 o G1 := by rw [hG1]; exact madeE_ap o n g2
  have k1 : Kp n g2 G1 := by rw [hG1]; exact kp_ap (Kp.refl _ _) rfl (fun _ => Nat.le_refl _)
  refine ops_run (by simp only [runL, awant_none, astep, evl, put, ap_none, List.length_nil, Nat.add_zero, upd_app, ↓reduceIte, madeE_v] <;> rfl) ?_
  refine w_gen (fun t => t 0 = v ∧ t 6 = ptr5 n) (by simp [upd_app, t0]) ?_
  clear t0 t1
  rintro t ⟨t0, t6⟩
  refine s_take 0 rfl ?_
  refine ops_call 31 _ rfl (newW_spec G1 (n + 7)) (by intro _; rfl) (ops_heap fun G2 hG2 => ?_)
  have W2 : Wr (n + 7) none [] 0 4294967295 G2 := by rw [hG2]; exact newWE_ap (n + 7) G1
  have k2 : Kp (n + 7) G1 G2 := by rw [hG2]; exact kp_ap (Kp.refl _ _) rfl (fun _ => Nat.le_refl _)
  have M2 : Ms n (fun _ => ones 258) 0 o G2 := M1.congr fun i h1 h2 => k2 i h2
  refine ops_run (by simp only [runL, awant_none, astep, evl, put, ap_none, List.length_nil, Nat.add_zero, upd_app, ↓reduceIte, newWE_v] <;> rfl) ?_
  refine w_gen (fun t => t 0 = v ∧ t 6 = ptr5 n ∧ t 7 = ptr3 (n + 7)) (by simp [upd_app, t0, t6]) ?_
  clear t0 t6
  rintro t ⟨t0, t6, t7⟩
  have k12 : Kp n g2 G2 := k1.trans k2 (by omega)
  refine w_assoc (s_take 1 (by simp only [runL, List.take_succ_cons, List.take_zero, awant_none, astep, evl, put, ap_none, List.length_nil, Nat.add_zero, t0] <;> rfl) ?_)
  refine ops_call 26 _ rfl (move_spec v l G2 (n + 8) (by omega) hb (k12.src hv2 hdom)) (by intro _; rfl) (ops_heap fun G3 hG3 => ?_)
  have k3 : Kp (n + 8) G2 G3 := by rw [hG3]; exact kp_ap (Kp.refl _ _) rfl (fun _ => Nat.le_refl _)
  have hml := move_len l row0
  have b3 : G3 (n + 8) = some ⟨false, 5, bs (move l row0)⟩ := by rw [hG3]; simp [ap_new]
  have s3 : Src G3 (.slice (some ⟨n + 8, 0, some l.length⟩) l.length 1) 1 (move l row0).length (bs (move l row0)) := src_bs b3 hml.symm
  refine ops_take 0 rfl ?_
  have hT := tell_spec (.slice (some ⟨n + 8, 0, some l.length⟩) l.length 1) (move l row0) G3 (n + 9) (by omega) (move_lt hb full0) s3
  obtain ⟨i4, hO4, hi4⟩ := newE_OwnI 3 (ints (tell (move l row0) 0)) (srcBlk (.slice (some ⟨n + 8, 0, some l.length⟩) l.length 1)) (n + 9) G3
  have hj4 := newE_j 3 (ints (tell (move l row0) 0)) (srcBlk (.slice (some ⟨n + 8, 0, some l.length⟩) l.length 1)) (n + 9)
  have hw4 := newE_w 3 (ints (tell (move l row0) 0)) (srcBlk (.slice (some ⟨n + 8, 0, some l.length⟩) l.length 1)) (n + 9)
  generalize newE 3 (ints (tell (move l row0) 0)) (srcBlk (.slice (some ⟨n + 8, 0, some l.length⟩) l.length 1)) (n + 9) = E4 at hT hO4 hi4 hj4 hw4
  refine ops_call 24 E4 rfl hT (by intro _; rw [hj4]; rfl) (ops_heap fun G4 hG4 => ops_num fun M4 hM4 => ?_)
  have hG4' : G4 = E4.ap G3 := hG4
  have hM4e : M4 = n + 9 + E4.a.length := hM4
  have k4 : Kp (n + 9) G3 G4 := by rw [hG4']; exact kp_ap (Kp.refl _ _) hw4 (fun _ => by rw [hj4]; exact Nat.le_refl _)
  rw [← hG4'] at hO4
  have hM4' : n + 9 ≤ M4 ∧ ∀ q, i4 = some q → n + 9 ≤ q ∧ q < M4 := by
    refine ⟨by omega, fun q hq => ?_⟩
    have := hi4 q hq
    omega
  clear hM4 hG4 hG4' hi4 hT hM4e
  generalize E4.v = u4 at hO4 ⊢
  have hsl := syms_len l
  have htl : (ints (tell (move l row0) 0)).length + 1 = (syms l).length := by simp [syms]
  have hO5 : OwnI 3 1 (upd G4 M4 (some ⟨false, 3, [.int .i64 257]⟩)) u4 (ints (tell (move l row0) 0)).length (ints (tell (move l row0) 0)) i4 := hO4.keep fun k hk => upd_ne _ _ (by have := hM4'.2 k hk; omega)
  have hsrc : srcCells (.slice (some ⟨M4, 0, some 1⟩) 1 1) (upd G4 M4 (some ⟨false, 3, [.int .i64 257]⟩)) 1 = some (1, [.int .i64 257]) := by simp [srcCells, rd]
  obtain ⟨f, i5, hf, hO6, hi5, hkf⟩ := own_append (P := Try.prog) (n := M4 + 1) hO5 hsrc (by simp) Try.underlying22 tinf3 (by omega) (by omega) (by omega)
  have hcells : ints (tell (move l row0) 0) ++ [.int .i64 257] = ints (syms l) := by simp [syms]
  rw [hcells, htl] at hO6
  obtain ⟨k, hik, hfv, hfk, hkl⟩ : ∃ k, i5 = some k ∧ f.v = .slice (some ⟨k, 0, some (syms l).length⟩) (syms l).length 1 ∧ f.ap (upd G4 M4 (some ⟨false, 3, [.int .i64 257]⟩)) k = some ⟨false, 3, ints (syms l)⟩ ∧ (n + 9 ≤ k ∧ k < M4 + 1 + f.a.length) := by
    rcases hO6 with ⟨_, _, h, _⟩ | ⟨k, e, h1, h2, _⟩
    · have : (syms l).length = 0 := h
      omega
    · refine ⟨k, e, ?_, h2, ?_⟩
      · rw [h1]; simp
      · rcases hi5 with ⟨e', _⟩ | ⟨_, e', e2⟩
        · rw [e] at e'
          have := hM4'.2 k e'.symm
          omega
        · rw [e] at e'
          cases e'
          omega
  subst hik
  have ln := len22 k (syms l).length (some (syms l).length)
  refine ops_run (by simp only [runL, awant_none, astep, evl, put, ap_none, ap_new, List.length_nil, List.length_cons, Nat.add_zero, Nat.zero_add, upd_app, stepCall, ↓reduceIte, Nat.reduceEqDiff, List.map_cons, List.map_nil, undef, lit22_1, hf, hfv, ln] <;> rfl) (w_heap fun G6 hG6 => ?_)
  have hG6' : G6 = f.ap (upd G4 M4 (some ⟨false, 3, [.int .i64 257]⟩)) := hG6
  rw [← hG6'] at hfk hkf
  have k6 : ∀ q, q < M4 → some q ≠ i4 → G6 q = G4 q := fun q h1 h2 => by rw [hkf q (by omega) h2, upd_ne _ _ (by omega)]
  have k69 : Kp (n + 9) G4 G6 := fun q hq => k6 q (by omega) (fun e => by have := hM4'.2 q e.symm; omega)
  have k38 : Kp (n + 8) G2 G6 := (k3.trans k4 (by omega)).trans k69 (by omega)
  have W6 : Wr (n + 7) none [] 0 4294967295 G6 := W2.congr (k38 _ (by omega)) (by simp)
  have M6 : Ms n (fun _ => ones 258) 0 o G6 := M2.congr fun i h1 h2 => k38 i (by omega)
  have kg6 : Kp n g2 G6 := k12.trans k38 (by omega)
  clear hG6 hkf hf hO4 hO5 hO6 hi5 k6 hG6'
  obtain ⟨M, hM⟩ : ∃ M, M4 + 1 + f.a.length = M := ⟨_, rfl⟩
  have hMn : n + 9 ≤ M ∧ n + 9 ≤ k ∧ k < M := by omega
  obtain ⟨L, hL⟩ : ∃ L, syms l = L := ⟨_, rfl⟩
  have hL258 := fun i => syms_at (i := i) hb
  have hLl := syms_lt hb
  rw [hL] at hsl hL258 hfk hLl
  have hPB : packB o l = (pall o L ps0).N := by rw [← hL]; rfl
  rw [hL]
  refine s_rng L.length (fun i t g n' => t 6 = ptr5 n ∧ t 7 = ptr3 (n + 7) ∧ t 28 = .slice (some ⟨k, 0, some L.length⟩) L.length 1 ∧ M ≤ n' ∧ ∃ sl b m, Wr (n + 7) sl b m (pall o (L.take i) ps0).r g ∧ all4 b m = (pall o (L.take i) ps0).N ∧ m < 2 ^ 32 ∧ (∀ x ∈ b, x < 256) ∧ (∀ q, sl = some q → M ≤ q ∧ q < n') ∧ Ms n (pall o (L.take i) ps0).ms (clsN (pall o (L.take i) ps0).last) o g ∧ g k = some ⟨false, 3, ints L⟩ ∧ Kp n g2 g) (by omega) (by simp []) (by simp [upd_app])
    (fun v => ⟨by simp [upd_app, t6], by simp [upd_app, t7], by simp [upd_app], by rw [← hM]; exact Nat.le_refl _, none, [], 0, W6, rfl, by omega, by simp, by simp, M6, hfk, kg6⟩) (by decide) ?_ ?_
  · clear t0 t6 t7 W6 M6 kg6 hfk k69 k38 W2 M2 k12 k3 k4 k1 k2 M1 b3 s3
    rintro i t g n' hi t30 t29 ⟨t6, t7, t28, hn', sl, b, m, hW, hN, hm, hbb, hslb, hMs, hk, hkp⟩
    have hx := hL258 i hi
    have hPG : PG (pall o (L.take i) ps0) := PG.start.all fun y hy => hLl y (List.mem_of_mem_take hy)
    have hNl := pall_len (o := o) (L.take i) ps0
    have h4 : ps0.N.length = 4 := rfl
    have htk : (L.take i).length ≤ i := by simp; omega
    rw [pall_take hi]
    obtain ⟨S, hS⟩ : ∃ S, pall o (L.take i) ps0 = S := ⟨_, rfl⟩
    rw [hS] at hW hN hMs hPG hNl ⊢
    have hbl : b.length + 4 = S.N.length := by rw [← hN, all4_len]
    have hix := idx22 k L.length i L.length hi
    have hld := ldq hk hi
    obtain ⟨x, hxx⟩ : ∃ x, byt L i = x := ⟨_, rfl⟩
    rw [hxx] at hx hld ⊢
    refine s_run (by simp only [runL, awant_none, astep, evl, put, ap_none, List.length_nil, Nat.add_zero, upd_app, ↓reduceIte, t28, t30, hix, hld] <;> rfl) ?_
    refine w_gen (fun t => t 6 = ptr5 n ∧ t 7 = ptr3 (n + 7) ∧ t 28 = .slice (some ⟨k, 0, some L.length⟩) L.length 1 ∧ t 9 = .int .i64 x ∧ t 30 = .int .i64 i ∧ t 29 = .int .i64 L.length) (by simp [upd_app, t6, t7, t28, t29, t30]) ?_
    clear t6 t7 t28 t29 t30
    rintro t ⟨t6, t7, t28, t9, t30, t29⟩
    have hw := whN_lt (s := S.last) ho
    have hnow := now_spec n S.ms S.last o g ho hMs
    have hMo := hMs.mo _ hw
    have hGd := hPG.g (whN o S.last)
    have hcl := hPG.l (whN o S.last)
    have hsaw := fun g h => msaw_spec n S.ms S.last o x g ho h hGd (by omega)
    have hsum := hGd.sum
    have hsp := span_yes _ _ (S.ms (whN o S.last)) x g hMo (by omega) (by omega) (by omega)
    have htot := total_spec _ _ (S.ms (whN o S.last)) g hMo
    refine s_take 1 (by simp only [runL, List.take_succ_cons, List.take_zero, awant_none, astep, evl, put, ap_none, List.length_nil, Nat.add_zero, t6] <;> rfl) ?_
    refine ops_call 82 _ rfl hnow (by simp) ?_
    refine ops_take 1 (by simp only [runL, List.take_succ_cons, List.take_zero, awant_none, astep, evl, put, ap_none, List.length_nil, Nat.add_zero, upd_app, ↓reduceIte, Nat.reduceEqDiff, t9] <;> rfl) ?_
    refine ops_call 47 _ rfl hsp (by simp) ?_
    refine ops_run (by simp only [runL, List.getElem?_toArray, List.getElem?_cons_succ, List.getElem?_cons_zero, awant_none, astep, evl, put, ap_none, List.length_nil, Nat.add_zero, upd_app, stepExtract, ↓reduceIte, Nat.reduceEqDiff] <;> rfl) ?_
    refine w_gen (fun t => t 6 = ptr5 n ∧ t 7 = ptr3 (n + 7) ∧ t 28 = .slice (some ⟨k, 0, some L.length⟩) L.length 1 ∧ t 9 = .int .i64 x ∧ t 30 = .int .i64 i ∧ t 29 = .int .i64 L.length ∧ t 10 = .int .i64 (((S.ms (whN o S.last)).take x).sum : Nat) ∧ t 11 = .int .i64 (byt (S.ms (whN o S.last)) x : Nat)) (by simp [upd_app, t6, t7, t28, t29, t30, t9]) ?_
    clear t6 t7 t28 t29 t30 t9
    rintro t ⟨t6, t7, t28, t9, t30, t29, t10, t11⟩
    obtain ⟨F, sl', b', m', hF, hFv, hFj, hFa, hFr, hFw, hW', hN', hm', hb', hfr', hsl'⟩ := put_any (x := (((S.ms (whN o S.last)).take x).sum : Nat)) (y := (byt (S.ms (whN o S.last)) x : Nat)) (z := ((S.ms (whN o S.last)).sum : Nat)) (j := n') hW hbb hm hPG.e.r1 hPG.e.r2 (by omega) (by have := sum_take_le (S.ms (whN o S.last)) x; omega) (by omega) (by omega)
    refine s_take 4 (by simp only [runL, List.take_succ_cons, List.take_zero, awant_none, astep, evl, put, ap_none, List.length_nil, Nat.add_zero, upd_app, ↓reduceIte, Nat.reduceEqDiff, t6, t7, t10, t11] <;> rfl) ?_
    refine ops_call 82 _ rfl hnow (by simp) ?_
    refine ops_take 0 rfl ?_
    refine ops_call 45 _ rfl htot (by simp) ?_
    refine ops_take 0 rfl ?_
    refine ops_call 33 _ rfl hF hFj (ops_heap fun G3 hG3 => ops_num fun M3 hM3 => ?_)
    have hG3' : G3 = F.ap g := hG3
    have hM3' : M3 = n' + F.a.length := hM3
    rw [← hG3'] at hW' hfr'
    clear hG3 hM3
    refine ops_run (by simp only [runL, put] <;> rfl) ?_
    have hMs3 : Ms n S.ms (clsN S.last) o G3 := hMs.congr fun q h1 h2 => hfr' q (by omega) (by omega) (fun e => by have := hslb q e; omega)
    refine w_gen (fun t => t 6 = ptr5 n ∧ t 7 = ptr3 (n + 7) ∧ t 28 = .slice (some ⟨k, 0, some L.length⟩) L.length 1 ∧ t 9 = .int .i64 x ∧ t 30 = .int .i64 i ∧ t 29 = .int .i64 L.length) (by simp [upd_app, t6, t7, t28, t29, t30, t9]) ?_
    clear t6 t7 t28 t29 t30 t9 t10 t11
    rintro t ⟨t6, t7, t28, t9, t30, t29⟩
    obtain ⟨a1, a2⟩ := msE_ap (cls' := clsN x) (c := saw (S.ms (whN o S.last)) x) hMs3 hw
    refine region_take (id := 10) 2 (by simp only [runL, List.take_succ_cons, List.take_zero, awant_none, astep, evl, put, ap_none, List.length_nil, Nat.add_zero, upd_app, ↓reduceIte, Nat.reduceEqDiff, t6, t9] <;> rfl) ?_
    refine ops_call 83 _ rfl (hsaw G3 hMs3) (by simp [msE]) (ops_heap fun G4 hG4 => ?_)
    rw [← hG4] at a1 a2
    refine ops_run (by simp only [runL, put] <;> rfl) ?_
    have hsl3 : ∀ q, sl' = some q → M ≤ q ∧ q < M3 := fun q e => by
      rcases hsl' with e' | ⟨_, e', e3⟩
      · have := hslb q (by rw [← e', e]); omega
      · rw [e'] at e; cases e; omega
    simp only [rangePost]
    rw [hN] at hN'
    refine ⟨by simp [upd_app, t30], by simp [upd_app, t29], fun _ _ _ => ⟨by simp [upd_app, t6], by simp [upd_app, t7], by simp [upd_app, t28], by show M ≤ M3; omega, sl', b', m', hW'.congr (a2 _ (.inr (Nat.le_refl _))) (fun q e => a2 q (.inr (by have := hsl3 q e; omega))), hN', hm', hb', hsl3, a1, ?_, fun q hq => ?_⟩⟩
    · show G4 k = _
      rw [a2 k (.inr (by omega)), hfr' k (by omega) (by omega) (fun e => by have := hslb k e; omega)]
      exact hk
    · show G4 q = g2 q
      rw [a2 q (.inl hq), hfr' q (by omega) (by omega) (fun e => by have := hslb q e; omega)]
      exact hkp q hq
  · clear t0 t6 t7 W6 M6 kg6 hfk
    rintro t g n' ⟨t6, t7, t28, hn', sl, b, m, hW, hN, hm, hbb, hslb, hMs, hk, hkp⟩
    rw [List.take_length] at hW hN
    have hNl := pall_len (o := o) L ps0
    have h4 : ps0.N.length = 4 := rfl
    have hbl : b.length + 4 = (pall o L ps0).N.length := by rw [← hN, all4_len]
    have hE := end_spec (n + 7) sl b m _ g n' hW hm (by omega)
    rw [hN, ← hPB] at hE
    rw [← hPB] at hbl
    refine s_take 1 (by simp only [runL, List.take_succ_cons, List.take_zero, awant_none, astep, evl, put, ap_none, List.length_nil, Nat.add_zero, t7] <;> rfl) ?_
    refine ops_call 35 _ rfl hE (by intro _; rfl) (ops_heap fun G7 hG7 => ?_)
    have b7 : G7 n' = some ⟨false, 5, bs (packB o l)⟩ := by rw [hG7]; simp [endE, Eff.ap, setAll, addAll]
    have k7 : Kp n g2 G7 := by rw [hG7]; exact kp_ap hkp rfl (fun _ => by show n ≤ n'; omega)
    refine ops_run (by simp only [runL, awant_none, astep, evl, put, ap_none, List.length_nil, Nat.add_zero, upd_app, ↓reduceIte] <;> rfl) ?_
    refine w_ret ⟨.inr rfl, by simp [upd_app, endE, isTup], [n'], ?_⟩
    refine fin_one (by simp [resVal, upd_app, endE, renT, renA, ren1]) (fun c hc => ?_) (by omega) b7 (fun c hc => plain_ints c hc) (fun i b hb => k7.at (hs i (hwf i b hb).1) hb)
    simp at hc
    rcases hc with rfl | rfl
    · exact .inr (.inr rfl)
    · trivial

set_option maxRecDepth 10000 in
theorem pack_no (v : Value) (x : Int) (g : Heap) (hx : ¬ (x = 0 ∨ x = 1)) : FnSpec Try.prog 59 [v, .int .i64 x] g { v := .tuple #[.slice none 0 0, .bool false] } := by
  refine spec_of_body [4, 5] follows Try.func59 rfl (by kernel_rfl) (by simp [Try.f59]) (by kernel_rfl) rfl ?_
  intro g2 s2 n hg hfr hs hn hwf hsv
  have hiso := isOrder_spec x g2
  rw [decide_eq_false hx] at hiso
  refine s_run (by simp only [runL, awant_none, astep, evl, put, ap_none, List.length_nil, Nat.add_zero, undef] <;> rfl) ?_
  refine w_assoc (s_take 1 (by simp only [runL, Option.getD_some, List.getElem?_cons_succ, List.getElem?_cons_zero, List.take_succ_cons, List.take_zero, awant_none, astep, evl, put, ap_none, List.length_nil, Nat.add_zero, upd_app, ↓reduceIte, Nat.reduceEqDiff] <;> rfl) ?_)
  refine ops_call 80 _ rfl hiso (by simp) ?_
  refine ops_run (by simp only [runL, awant_some, List.getElem?_toArray, List.getElem?_cons_succ, List.getElem?_cons_zero, Option.bind_some, b_tf, Bool.not_false, awant_none, astep, evl, put, ap_none, List.length_nil, Nat.add_zero, upd_app, stepUn, stepPick, ↓reduceIte, Nat.reduceEqDiff, undef] <;> rfl) ?_
  refine s_true (by simp [evl]) (w_assoc (s_run (by simp only [runL, awant_none, astep, evl, put, ap_none, List.length_nil, Nat.add_zero] <;> rfl) ?_))
  exact s_ret ⟨.inr rfl, by simp [upd_app, isTup], [], fin_none (by simp [resVal, upd_app]) (by simp [SVT, SVA, SV1]) (fun _ _ h => h)⟩
end Go.Proofs.Ytahinegnblankaa
