import Derived.Test.YtdpkhijbikbhnaaT20
namespace Go.Proofs.Ytdpkhijbikbhnaa
open Go Abs Plain
set_option linter.unusedSimpArgs false
set_option linter.unusedVariables false

theorem binfX : binf Try.prog 77 = some (#[(0, 1), (1, 1), (2, 1), (3, 1)].toList, [.slice none 0 0, .slice none 0 0, .slice none 0 0, .slice none 0 0]) := by kernel_rfl
theorem mkX (a b c d : Option Addr) (m1 m2 m3 m4 e1 e2 e3 e4 : Nat) : stepBuild Try.prog 77 [(0, .slice a m1 e1), (1, .slice b m2 e2), (2, .slice c m3 e3), (3, .slice d m4 e4)] = some { v := .agg #[.slice a m1 e1, .slice b m2 e2, .slice c m3 e3, .slice d m4 e4] } := by
  simp [stepBuild, binfX, fillL, Value.cells, isTup, putAll]
theorem boxX (a b c d : Value) (T j : Nat) : stepBox T (.agg #[a, b, c, d]) j = some { v := .pointer (some ⟨j, 0, some 4⟩), j := j, a := [⟨false, T, [a, b, c, d]⟩] } := rfl
theorem tinfP : tinf Try.prog 75 = some ([.pointer none], 1, 8) := by kernel_rfl
theorem tinfS : tinf Try.prog 22 = some ([.slice none 0 0], 1, 24) := by kernel_rfl
theorem tsizeP : tsize Try.prog 75 = some 1 := by kernel_rfl
theorem aggTP : aggT Try.prog 75 = some false := by kernel_rfl
theorem allocP (j : Nat) : stepAlloc Try.prog 75 j = some { v := .pointer (some ⟨j, 0, some 1⟩), j := j, a := [⟨false, 75, [.pointer none]⟩] } := by simp [stepAlloc, tinfP]
theorem allocS (j : Nat) : stepAlloc Try.prog 22 j = some { v := .pointer (some ⟨j, 0, some 1⟩), j := j, a := [⟨false, 22, [.slice none 0 0]⟩] } := by simp [stepAlloc, tinfS]

theorem sum_cntL (k : Nat) : ∀ l : List Nat, (cntL l k).sum ≤ l.length
  | [] => by
    have : cntL [] k = List.replicate k 0 := by unfold cntL; rw [List.eq_replicate_iff]; simp
    rw [this]; simp
  | x :: l => by
    have ih := sum_cntL k l
    have key : ∀ k, (cntL (x :: l) k).sum ≤ (cntL l k).sum + 1 ∧ (k ≤ x → (cntL (x :: l) k).sum = (cntL l k).sum) := by
      intro k
      induction k with
      | zero => simp [cntL]
      | succ k ihk =>
        have e1 : ∀ l : List Nat, (cntL l (k + 1)).sum = (cntL l k).sum + l.count k := fun l => by simp [cntL, List.range_succ]
        rw [e1, e1, List.count_cons]
        by_cases h : x = k
        · subst h
          have := ihk.2 (Nat.le_refl _)
          simp
          omega
        · have : (x == k) = false := by simpa using h
          rw [this]
          simp
          omega
    have := (key k).1
    simp
    omega

/-- The first k of those that are handed in, from the last one on, are laid. -/
def inRun (s : List Nat) (p : PS) (first : List Nat) : Nat → PS
  | 0 => p
  | k + 1 => le1 s (inRun s p first k) (byt first (first.length - 1 - k))
theorem inRun_len (s : List Nat) (p : PS) (first : List Nat) : ∀ k, (inRun s p first k).1.length = p.1.length ∧ (inRun s p first k).2.length = p.2.length
  | 0 => ⟨rfl, rfl⟩
  | k + 1 => by
    obtain ⟨h1, h2⟩ := inRun_len s p first k
    simp [inRun, le1, layE, layEr, h1, h2]
def indRow1 (s : List Nat) (k : Nat) (first : List Nat) : List Int := (inRun s (endsL (cntL s k), List.replicate s.length (-1)) first first.length).2
def indRow2 (s : List Nat) (k : Nat) (first : List Nat) : List Int := (lgRun s (lg1 s (startsL (cntL s k), indRow1 s k first) (s.length - 1)) s.length).2
def indRow3 (s : List Nat) (k : Nat) (first : List Nat) : List Int := (smRun s (endsL (cntL s k), clrL s (indRow2 s k first)) s.length s.length).2
structure IndOk (s : List Nat) (k : Nat) (first : List Nat) : Prop where
  ins : ∀ q, q < first.length → leOk s (inRun s (endsL (cntL s k), List.replicate s.length (-1)) first q) (byt first (first.length - 1 - q))
  l0 : lgOk s (startsL (cntL s k), indRow1 s k first) (s.length - 1)
  lg : lgAll s (lg1 s (startsL (cntL s k), indRow1 s k first) (s.length - 1)) s.length
  cl : ∀ j ∈ indRow2 s k first, 0 ≤ j → j.toNat < s.length
  sm : smAll s (endsL (cntL s k), clrL s (indRow2 s k first)) s.length
theorem indRow1_len (s : List Nat) (k : Nat) (first : List Nat) : (indRow1 s k first).length = s.length := by
  unfold indRow1; rw [(inRun_len _ _ _ _).2]; simp
theorem indRow2_len (s : List Nat) (k : Nat) (first : List Nat) : (indRow2 s k first).length = s.length := by
  unfold indRow2; rw [(lgRun_len _ _ _).2]; simp [lg1, laySr, indRow1_len]
theorem indRow3_len (s : List Nat) (k : Nat) (first : List Nat) : (indRow3 s k first).length = s.length := by
  unfold indRow3; rw [(smRun_len _ _ _ _).2]; simp [clrL_len, indRow2_len]
/-- What Sort comes to. -/
def indL (s : List Nat) (k : Nat) (first : List Nat) : List Int := if s.length = 0 then [] else indRow3 s k first

set_option maxRecDepth 40000 in
set_option maxHeartbeats 1000000 in
theorem isort_spec (v w : Value) (s : List Nat) (k : Nat) (first : List Nat) (g : Heap) (jj : Nat) (hl : s.length ≤ 2 ^ 37) (hk : k ≤ 1048576) (hlf : first.length ≤ 2 ^ 37) (hsk : ∀ x ∈ s, x < k) (hf : srt (zs first) = zs (firstL s)) (hok : 0 < s.length → IndOk s k first)
    (hv : Src g v 1 s.length (ints s)) (hw : Src g w 1 first.length (ints first)) :
    FnSpec Try.prog 32 [v, .int .i64 k, w] g (okE (some (indL s k first)) (srcBlk v ++ srcBlk w) jj) := by
  refine spec_of_body [6, 7] follows Try.func32 rfl (by kernel_rfl) (by simp [Try.f32]) (by kernel_rfl) rfl ?_
  intro g2 s2 n hg hfr hs hn hwf hsv
  rw [okE_fp] at hg
  have hv2 : Src g2 v 1 s.length (ints s) := hv.congr fun i hi => hg i (by simp [hi])
  have hw2 : Src g2 w 1 first.length (ints first) := hw.congr fun i hi => hg i (by simp [hi])
  have hvd := dom_of hs hwf hv2
  have hwd := dom_of hs hwf hw2
  have hlv := hv2.len Try.underlying22
  obtain ⟨av, kv, hvf⟩ := src_form hv2
  clear hg hfr hn hv hw
  refine s_run (by simp only [runL, awant_none, astep, evl, put, ap_none, List.length_nil, Nat.add_zero, undef] <;> rfl) ?_
  refine s_take 2 (by simp only [runL, Option.getD_some, List.getElem?_cons_succ, List.getElem?_cons_zero, List.take_succ_cons, List.take_zero, awant_none, astep, evl, put, ap_none, List.length_nil, Nat.add_zero, upd_app, reduceCtorEq, ↓reduceIte, Nat.reduceEqDiff] <;> rfl) ?_
  refine ops_call 17 _ rfl (counts_spec v s k g2 n (by omega) hk hsk hv2) (fun _ => rfl) ?_
  refine ops_heap fun G1 hG1 => ?_
  have b1 : G1 n = some ⟨false, 3, ints (cntL s k)⟩ := by rw [hG1, ints_zs]; simp [okE, ap_new]
  have k1 : Kp n g2 G1 := by rw [hG1]; simp only [okE, ap_new]; exact kp_upd (Kp.refl _ _) (Nat.le_refl _)
  have hzl : (zs (cntL s k)).length = k := by simp [cntL_len]
  clear hG1
  refine ops_run (by simp only [runL, List.getElem?_toArray, List.getElem?_cons_succ, List.getElem?_cons_zero, awant_none, astep, evl, put, ap_none, List.length_nil, List.length_cons, Nat.add_zero, Nat.zero_add, upd_app, stepExtract, ↓reduceIte, Nat.reduceEqDiff, okE, hzl] <;> rfl) ?_
  refine w_gen (fun t => t 0 = v ∧ t 1 = .int .i64 k ∧ t 2 = w ∧ t 8 = .slice (some ⟨n, 0, some k⟩) k 1 ∧ t 9 = .bool true) (by simp [upd_app]) ?_
  rintro t ⟨t0, t1, t2, t8, t9⟩
  show awp _ _ _ _ G1 (n + 1)
  have hw3 : Src G1 w 1 first.length (ints first) := k1.src hw2 hwd
  have hval := values_spec w _ _ G1 (n + 1) hw3
  refine s_take 1 (by simp only [runL, List.take_succ_cons, List.take_zero, awant_none, astep, evl, put, ap_none, List.length_nil, Nat.add_zero, t2] <;> rfl) ?_
  refine ops_call 49 _ rfl (by simp only [upd_app, evl, List.map_cons, List.map_nil]; exact hval) (fun _ => rfl) ?_
  refine ops_heap fun G2 hG2 => ?_
  have k2 : Kp (n + 1) G1 G2 := by rw [hG2]; simp only [ap_new]; exact kp_upd (Kp.refl _ _) (Nat.le_refl _)
  have hbox : BoxA (n + 1) w (zs first) G2 := by
    refine ⟨by rw [hG2]; simp [ap_new], ?_⟩
    have := k2.src hw3 (fun i hi => by have := hwd i hi; omega)
    rw [ints_zs] at this; simpa [zs] using this
  have hso := sorted_spec (n + 1) w (zs first) G2 (n + 1 + 1) (by simp [zs]; omega) hbox
  refine ops_call 48 _ rfl (by simp only [upd_app, evl, put, List.map_cons, List.map_nil]; exact hso) (fun _ => newE_j _ _ _ _) ?_
  rw [hf]
  refine ops_heap fun G3 hG3 => ?_
  have k3 : Kp (n + 1 + 1) G2 G3 := by rw [hG3]; exact newE_kp (Kp.refl _ _) (Nat.le_refl _)
  have hsr3 : Src G3 (newE 3 (intsI (zs (firstL s))) ((n + 1) :: srcBlk w) (n + 1 + 1)).v 1 (intsI (zs (firstL s))).length (intsI (zs (firstL s))) := by rw [hG3]; exact newE_src 3 (intsI (zs (firstL s))) ((n + 1) :: srcBlk w) (n + 1 + 1) G2
  have hdm3 := newE_blk 3 (intsI (zs (firstL s))) ((n + 1) :: srcBlk w) (n + 1 + 1)
  obtain ⟨z3, hz3⟩ : ∃ z, (newE 3 (intsI (zs (firstL s))) ((n + 1) :: srcBlk w) (n + 1 + 1)).v = z := ⟨_, rfl⟩
  rw [hz3] at hsr3 hdm3
  refine ops_run (by simp only [runL, awant_none, astep, evl, put, ap_none, List.length_nil, List.length_cons, Nat.add_zero, Nat.zero_add, upd_app, ↓reduceIte, hz3] <;> rfl) ?_
  have q3 : Kp n g2 G3 := fun q hq => by rw [k3 q (by omega), k2 q (by omega), k1 q hq]
  have b3 : G3 n = some ⟨false, 3, ints (cntL s k)⟩ := by rw [k3 n (by omega), k2 n (by omega)]; exact b1
  clear b1 k1 hw3 hval k2 hbox hso k3 hG2 hG3
  refine w_gen (fun t => t 0 = v ∧ t 1 = .int .i64 k ∧ t 2 = w ∧ t 8 = .slice (some ⟨n, 0, some k⟩) k 1 ∧ t 9 = .bool true ∧ t 10 = z3) (by simp [upd_app, t0, t1, t2, t8, t9]) ?_
  clear t0 t1 t2 t8 t9
  rintro t ⟨t0, t1, t2, t8, t9, t10⟩
  refine w_num fun N3 hN3 => ?_
  replace hN3 : N3 = n + 1 + 1 + (newE 3 (intsI (zs (firstL s))) ((n + 1) :: srcBlk w) (n + 1 + 1)).a.length := hN3
  have hN3' : n + 1 + 1 ≤ N3 := by omega
  have hz3d : ∀ i ∈ srcBlk z3, i < N3 := fun i hi => by
    obtain ⟨h1, h2⟩ := hdm3 i hi
    omega
  clear hN3 hdm3
  have hfi := first_spec v s G3 N3 (by omega) (q3.src hv2 hvd)
  have hsr3' : Src G3 z3 1 (zs (firstL s)).length (intsI (zs (firstL s))) := by simpa using hsr3
  refine w_assoc (s_take 5 (by simp only [runL, awant_some, List.getElem?_toArray, List.getElem?_cons_succ, List.getElem?_cons_zero, Option.bind_some, b_ff, Bool.not_true, List.take_succ_cons, List.take_zero, awant_none, astep, evl, put, ap_none, List.length_nil, Nat.add_zero, upd_app, stepUn, reduceCtorEq, ↓reduceIte, Nat.reduceEqDiff, t0, t9, t10] <;> rfl) ?_)
  refine g_call 31 _ (by simp only [awant_some, List.getElem?_toArray, List.getElem?_cons_succ, List.getElem?_cons_zero, Option.bind_some, b_ff, upd_app, ↓reduceIte, Nat.reduceEqDiff] <;> rfl) rfl (by simp only [upd_app, evl, List.map_cons, List.map_nil]; exact hfi) (fun _ => newE_j _ _ _ _) ?_
  refine ops_heap fun G4 hG4 => ?_
  have k4 : Kp N3 G3 G4 := by rw [hG4]; exact newE_kp (Kp.refl _ _) (Nat.le_refl _)
  have hsr4 : Src G4 (newE 3 (ints (firstL s)) (srcBlk v) N3).v 1 (ints (firstL s)).length (ints (firstL s)) := by rw [hG4]; exact newE_src 3 (ints (firstL s)) (srcBlk v) N3 G3
  have hsr4' : Src G4 (newE 3 (ints (firstL s)) (srcBlk v) N3).v 1 (zs (firstL s)).length (intsI (zs (firstL s))) := by rw [ints_zs] at hsr4 ⊢; simpa using hsr4
  have hfl : (firstL s).length ≤ s.length := firstP_len s _
  have heq := equal_spec z3 (newE 3 (ints (firstL s)) (srcBlk v) N3).v (zs (firstL s)) (zs (firstL s)) G4 (by simp [zs]; omega) (by simp [zs]; omega) (k4.src hsr3' hz3d) hsr4'
  rw [decide_eq_true rfl] at heq
  refine g_call 30 _ (by simp only [awant_some, List.getElem?_toArray, List.getElem?_cons_succ, List.getElem?_cons_zero, Option.bind_some, b_ff, put, upd_app, ↓reduceIte, Nat.reduceEqDiff] <;> rfl) rfl (by simp only [upd_app, evl, put, List.map_cons, List.map_nil, ↓reduceIte, Nat.reduceEqDiff]; exact heq) (fun h => (h rfl).elim) ?_
  refine ops_run (by simp only [runL, awant_some, List.getElem?_toArray, List.getElem?_cons_succ, List.getElem?_cons_zero, Option.bind_some, b_ff, Bool.not_true, awant_none, astep, evl, put, ap_none, List.length_nil, Nat.add_zero, upd_app, stepUn, stepPick, ↓reduceIte, Nat.reduceEqDiff, Bool.false_eq_true] <;> rfl) ?_
  refine s_false (by simp [evl]) (s_skip ?_)
  refine w_heap fun G hG => ?_
  refine w_num fun N hN => ?_
  refine w_gen (fun t => t 0 = v ∧ t 2 = w ∧ t 8 = .slice (some ⟨n, 0, some k⟩) k 1) (by simp [upd_app, t0, t2, t8]) ?_
  have hGG : G4 = G := hG.symm
  replace hN : N = N3 + (newE 3 (ints (firstL s)) (srcBlk v) N3).a.length + 0 := hN
  have hNN : n + 2 ≤ N := by omega
  subst hGG
  have kG : Kp n g2 G4 := fun q hq => by rw [k4 q (by omega), q3 q hq]
  have bC : G4 n = some ⟨false, 3, ints (cntL s k)⟩ := by rw [k4 n (by omega)]; exact b3
  clear hG hN k4 hsr4 hsr4' heq hfi hsr3 hsr3' hG4 q3 b3 t0 t1 t2 t8 t9 t10 hz3d hN3'
  rintro t ⟨t0, t2, t8⟩
  by_cases h0 : s.length = 0
  · have e1 : ((s.length : Int) == 0) = true := ieq_t (by omega)
    refine w_assoc (s_run (by simp only [runL, awant_none, astep, evl, put, ap_none, List.length_nil, Nat.add_zero, upd_app, stepBin, abin, stepCall, ↓reduceIte, t0, hlv, e1] <;> rfl) ?_)
    refine s_true (by simp [evl]) (w_assoc (s_run (by simp only [runL, awant_none, astep, evl, put, ap_none, ap_new, List.length_nil, List.length_cons, Nat.add_zero, Nat.zero_add, upd_app, ↓reduceIte, List.map_nil, undef, litI_0] <;> rfl) ?_))
    refine s_ret ?_
    show _ ∧ _
    exact okE_some (k := N) (l := []) rfl (by simp [upd_app]) (by simp []) (by omega) (by simp []) hs hwf (kp_upd kG (by omega)) (by rw [indL, if_pos h0])
  have e1 : ((s.length : Int) == 0) = false := ieq_f (by omega)
  have hok := hok (by omega)
  refine w_assoc (s_run (by simp only [runL, awant_none, astep, evl, put, ap_none, List.length_nil, Nat.add_zero, upd_app, stepBin, abin, stepCall, ↓reduceIte, t0, hlv, e1] <;> rfl) ?_)
  refine s_false (by simp [evl]) (s_skip ?_)
  have hsm := small_spec v s G4 N (by omega) (kG.src hv2 hvd)
  refine s_take 2 (by simp only [runL, List.take_succ_cons, List.take_zero, awant_none, astep, evl, put, ap_none, List.length_nil, Nat.add_zero, upd_app, reduceCtorEq, ↓reduceIte, t0] <;> rfl) ?_
  refine ops_call 47 _ rfl (by simp only [upd_app, evl, List.map_cons, List.map_nil]; exact hsm) (fun _ => rfl) ?_
  dsimp only
  refine ops_heap fun G5 hG5 => ?_
  have b5 : G5 N = some ⟨false, 4, bools (smallL s)⟩ := by rw [hG5]; simp [ap_new]
  have k5 : Kp N G4 G5 := by rw [hG5]; simp only [ap_new]; exact kp_upd (Kp.refl _ _) (Nat.le_refl _)
  clear hG5 hsm
  refine ops_take 4 (by simp only [runL, List.take_succ_cons, List.take_zero, awant_none, astep, evl, put, ap_none, ap_new, List.length_nil, List.length_cons, Nat.add_zero, Nat.zero_add, upd_app, stepCall, reduceCtorEq, ↓reduceIte, Nat.reduceEqDiff, List.map_cons, List.map_nil, undef, t0, t8, litI_1, hlv] <;> rfl) ?_
  dsimp only
  refine ops_heap fun G6 hG6 => ?_
  have b6 : G6 (N + 1) = some ⟨false, 3, [.int .i64 (-1)]⟩ := by rw [hG6]; simp []
  have k6 : Kp (N + 1) G5 G6 := by rw [hG6]; exact kp_upd (Kp.refl _ _) (Nat.le_refl _)
  clear hG6
  have hrep := repeat_spec (.slice (some ⟨N + 1, 0, some 1⟩) 1 1) s.length G6 (N + 1 + 1) (by omega) (by omega) (src_cells b6 rfl)
  refine ops_call 50 _ rfl (by simp only [upd_app, evl, List.map_cons, List.map_nil]; exact hrep) (fun _ => rfl) ?_
  dsimp only
  refine ops_heap fun G7 hG7 => ?_
  have b7 : G7 (N + 1 + 1) = some ⟨false, 3, intsI (List.replicate s.length (-1))⟩ := by rw [hG7]; simp [ap_new]
  have k7 : Kp (N + 1 + 1) G6 G7 := by rw [hG7]; simp only [ap_new]; exact kp_upd (Kp.refl _ _) (Nat.le_refl _)
  clear hG7 hrep
  have hmk : stepBuild Try.prog 77 [(0, v), (1, .slice (some ⟨N, 0, some s.length⟩) s.length 1), (2, .slice (some ⟨n, 0, some k⟩) k 1), (3, .slice (some ⟨N + 1 + 1, 0, some s.length⟩) s.length 1)] = some { v := .agg #[v, .slice (some ⟨N, 0, some s.length⟩) s.length 1, .slice (some ⟨n, 0, some k⟩) k 1, .slice (some ⟨N + 1 + 1, 0, some s.length⟩) s.length 1] } := by rw [hvf]; exact mkX _ _ _ _ _ _ _ _ _ _ _ _
  refine ops_take 3 (by simp only [runL, List.take_succ_cons, List.take_zero, awant_none, astep, evl, put, ap_none, ap_new, List.length_nil, List.length_cons, Nat.add_zero, Nat.zero_add, upd_app, ↓reduceIte, Nat.reduceEqDiff, List.map_cons, List.map_nil, undef, hmk, boxX, allocP] <;> rfl) ?_
  dsimp only
  refine ops_heap fun G8 hG8 => ?_
  have x8 : G8 (N + 1 + 1 + 1) = some ⟨false, 77, [v, .slice (some ⟨N, 0, some s.length⟩) s.length 1, .slice (some ⟨n, 0, some k⟩) k 1, .slice (some ⟨N + 1 + 1, 0, some s.length⟩) s.length 1]⟩ := by rw [hG8]; simp [upd_app]
  have p8 : G8 (N + 1 + 1 + 1 + 1) = some ⟨false, 75, [.pointer none]⟩ := by rw [hG8]; simp []
  have k8 : Kp (N + 1 + 1 + 1) G7 G8 := by rw [hG8]; exact kp_upd (kp_upd (Kp.refl _ _) (Nat.le_refl _)) (by omega)
  clear hG8 hmk
  have hst := st_at (P := Try.prog) (T := 75) (i := 0) (c := .pointer (some ⟨N + 1 + 1 + 1, 0, some 4⟩)) (d := .pointer none) (s := some 1) p8 rfl (by simp) tsizeP rfl rfl
  refine ops_run (by simp only [runL, List.drop_succ_cons, List.drop_zero, awant_none, astep, evl, put, ap_wr, List.length_nil, Nat.add_zero, upd_app, ↓reduceIte, Nat.reduceEqDiff, undef, hst] <;> rfl) ?_
  refine w_heap fun G hG => ?_
  refine w_num fun M hM => ?_
  replace hM : M = N + 1 + 1 + 1 + 1 + 1 := hM
  replace hG : G = upd G8 (N + 1 + 1 + 1 + 1) (some ⟨false, 75, [.pointer (some ⟨N + 1 + 1 + 1, 0, some 4⟩)]⟩) := hG
  obtain ⟨X, hX⟩ : ∃ X, N + 1 + 1 + 1 = X := ⟨_, rfl⟩
  obtain ⟨R, hR⟩ : ∃ R, N + 1 + 1 = R := ⟨_, rfl⟩
  rw [hX] at hG x8
  rw [hR] at x8 b7
  have x9 : SX X v (.slice (some ⟨N, 0, some s.length⟩) s.length 1) (.slice (some ⟨n, 0, some k⟩) k 1) (.slice (some ⟨R, 0, some s.length⟩) s.length 1) G := by unfold SX; rw [hG, upd_ne _ _ (by omega)]; exact x8
  have p9 : G (X + 1) = some ⟨false, 75, [.pointer (some ⟨X, 0, some 4⟩)]⟩ := by rw [hG]; simp []
  have r9 : G R = some ⟨false, 3, intsI (List.replicate s.length (-1))⟩ := by rw [hG, upd_ne _ _ (by omega), k8 R (by omega)]; exact b7
  have b9 : G N = some ⟨false, 4, bools (smallL s)⟩ := by rw [hG, upd_ne _ _ (by omega), k8 N (by omega), k7 N (by omega), k6 N (by omega)]; exact b5
  have c9 : G n = some ⟨false, 3, ints (cntL s k)⟩ := by rw [hG, upd_ne _ _ (by omega), k8 n (by omega), k7 n (by omega), k6 n (by omega), k5 n (by omega)]; exact bC
  have k9 : Kp n g2 G := fun q hq => by rw [hG, upd_ne _ _ (by omega), k8 q (by omega), k7 q (by omega), k6 q (by omega), k5 q (by omega), kG q hq]
  refine w_gen (fun t => t 0 = v ∧ t 2 = w ∧ t 11 = .pointer (some ⟨X + 1, 0, some 1⟩)) (by simp [upd_app, t0, t2, ← hX]) ?_
  clear hG k8 k7 k6 k5 kG bC b5 b7 b6 x8 p8 hst t0 t2 t8
  rintro t ⟨t0, t2, t11⟩
  have hlc : (cntL s k).length = k := cntL_len s k
  have hsum := sum_cntL k s
  have hcs : Src G (.slice (some ⟨n, 0, some k⟩) k 1) 1 (cntL s k).length (ints (cntL s k)) := by rw [hlc]; have := src_ints (m := k) c9 hlc.symm; rwa [hlc] at this
  have hend := ends_spec X v (.slice (some ⟨N, 0, some s.length⟩) s.length 1) (.slice (some ⟨n, 0, some k⟩) k 1) (.slice (some ⟨R, 0, some s.length⟩) s.length 1) (cntL s k) G M (by omega) (by omega) x9 hcs
  have ldP := ld_at (P := Try.prog) (T := 75) (i := 0) (c := .pointer (some ⟨X, 0, some 4⟩)) (s := some 1) p9 rfl rfl aggTP
  refine s_take 1 (by simp only [runL, List.take_succ_cons, List.take_zero, awant_none, astep, evl, put, ap_none, List.length_nil, Nat.add_zero, t11, ldP] <;> rfl) ?_
  refine ops_call 51 _ rfl (by simp only [upd_app, evl, List.map_cons, List.map_nil]; exact hend) (fun _ => rfl) ?_
  dsimp only
  rw [hlc]
  refine ops_heap fun G10 hG10 => ?_
  have e10 : G10 M = some ⟨false, 3, ints (endsL (cntL s k))⟩ := by rw [hG10]; simp [ap_new]
  have k10 : Kp M G G10 := by rw [hG10]; simp only [ap_new]; exact kp_upd (Kp.refl _ _) (Nat.le_refl _)
  clear hG10 hend
  refine ops_take 1 (by simp only [runL, List.take_succ_cons, List.take_zero, awant_none, astep, put, ap_new, List.length_nil, List.length_cons, Nat.zero_add, allocS] <;> rfl) ?_
  dsimp only
  refine ops_heap fun G11 hG11 => ?_
  have p11 : G11 (M + 1) = some ⟨false, 22, [.slice none 0 0]⟩ := by rw [hG11]; simp []
  have k11 : Kp (M + 1) G10 G11 := by rw [hG11]; exact kp_upd (Kp.refl _ _) (Nat.le_refl _)
  clear hG11
  have hst := st_at (P := Try.prog) (T := 22) (i := 0) (c := .slice (some ⟨M, 0, some k⟩) k 1) (d := .slice none 0 0) (s := some 1) p11 rfl (by simp) tsizeI rfl rfl
  refine ops_run (by simp only [runL, List.drop_succ_cons, List.drop_zero, awant_none, astep, evl, put, ap_wr, List.length_nil, Nat.add_zero, upd_app, ↓reduceIte, Nat.reduceEqDiff, undef, hst] <;> rfl) ?_
  refine w_heap fun G12 hG12 => ?_
  replace hG12 : G12 = upd G11 (M + 1) (some ⟨false, 22, [.slice (some ⟨M, 0, some k⟩) k 1]⟩) := hG12
  have o12 : ∀ q, q < M → G12 q = G q := fun q hq => by rw [hG12, upd_ne _ _ (by omega), k11 q (by omega), k10 q hq]
  have e12 : G12 M = some ⟨false, 3, ints (endsL (cntL s k))⟩ := by rw [hG12, upd_ne _ _ (by omega), k11 M (by omega)]; exact e10
  have p12 : G12 (M + 1) = some ⟨false, 22, [.slice (some ⟨M, 0, some k⟩) k 1]⟩ := by rw [hG12]; simp []
  clear hG12 hst p11 k11 e10 k10
  refine w_gen (fun t => t 0 = v ∧ t 2 = w ∧ t 11 = .pointer (some ⟨X + 1, 0, some 1⟩) ∧ t 12 = .pointer (some ⟨M + 1, 0, some 1⟩)) (by simp [upd_app, t0, t2, t11]) ?_
  clear t0 t2 t11
  rintro t ⟨t0, t2, t11, t12⟩
  have hw12 : Src G12 w 1 first.length (ints first) := hw2.congr fun q hq => by rw [o12 q (by have := hwd q hq; omega)]; exact k9 q (hwd q hq)
  have hbw := backward_spec w _ _ G12 (M + 1 + 1) hw12
  show awp _ _ _ _ G12 (M + 1 + 1)
  refine w_assoc (s_take 1 (by simp only [runL, List.take_succ_cons, List.take_zero, awant_none, astep, evl, put, ap_none, List.length_nil, Nat.add_zero, t2] <;> rfl) ?_)
  refine ops_call 52 _ rfl (by simp only [upd_app, evl, List.map_cons, List.map_nil]; exact hbw) (fun _ => rfl) ?_
  dsimp only
  refine ops_heap fun G13 hG13 => ?_
  have q13 : G13 (M + 1 + 1) = some ⟨false, 22, [w]⟩ := by rw [hG13]; simp [ap_new]
  have k13 : Kp (M + 1 + 1) G12 G13 := by rw [hG13]; simp only [ap_new]; exact kp_upd (Kp.refl _ _) (Nat.le_refl _)
  clear hG13 hbw
  refine ops_run rfl ?_
  refine w_gen (fun t => t 0 = v ∧ t 2 = w ∧ t 11 = .pointer (some ⟨X + 1, 0, some 1⟩) ∧ t 12 = .pointer (some ⟨M + 1, 0, some 1⟩) ∧ t 50 = .iface 70 (.agg #[.pointer (some ⟨M + 1 + 1, 0, some 1⟩)])) (by simp [upd_app, put, t0, t2, t11, t12]) ?_
  clear t0 t2 t11 t12
  rintro t ⟨t0, t2, t11, t12, t50⟩
  have x13 : SX X v (.slice (some ⟨N, 0, some s.length⟩) s.length 1) (.slice (some ⟨n, 0, some k⟩) k 1) (.slice (some ⟨R, 0, some s.length⟩) s.length 1) G13 := by unfold SX; rw [k13 X (by omega), o12 X (by omega)]; exact x9
  have p13 : G13 (X + 1) = some ⟨false, 75, [.pointer (some ⟨X, 0, some 4⟩)]⟩ := by rw [k13 _ (by omega), o12 _ (by omega)]; exact p9
  have r13 : G13 R = some ⟨false, 3, intsI (List.replicate s.length (-1))⟩ := by rw [k13 _ (by omega), o12 _ (by omega)]; exact r9
  have e13 : G13 M = some ⟨false, 3, ints (endsL (cntL s k))⟩ := by rw [k13 _ (by omega)]; exact e12
  have s13 : G13 (M + 1) = some ⟨false, 22, [.slice (some ⟨M, 0, some k⟩) k 1]⟩ := by rw [k13 _ (by omega)]; exact p12
  have b13 : G13 N = some ⟨false, 4, bools (smallL s)⟩ := by rw [k13 _ (by omega), o12 _ (by omega)]; exact b9
  have c13 : G13 n = some ⟨false, 3, ints (cntL s k)⟩ := by rw [k13 _ (by omega), o12 _ (by omega)]; exact c9
  have o13 : Kp n g2 G13 := fun q hq => by rw [k13 _ (by omega), o12 _ (by omega), k9 q hq]
  clear x9 p9 r9 e12 p12 b9 c9 k9 o12 k13 ldP hcs hw12
  obtain ⟨p0, hp0⟩ : ∃ p0 : PS, (endsL (cntL s k), List.replicate s.length (-1)) = p0 := ⟨_, rfl⟩
  have hins := hok.ins
  rw [hp0] at hins
  have e14 : G13 M = some ⟨false, 3, ints p0.1⟩ := by rw [← hp0]; exact e13
  have r14 : G13 R = some ⟨false, 3, intsI p0.2⟩ := by rw [← hp0]; exact r13
  have lp1 : p0.1.length = k := by rw [← hp0]; simp [endsL_len, hlc]
  have lp2 : p0.2.length = s.length := by rw [← hp0]; simp
  refine w_seq (w_block ?_)
  have hzf : (zs first).length = first.length := by simp [zs]
  refine ⟨_, _, _, _, _, 70, #[.pointer (some ⟨M + 1 + 1, 0, some 1⟩)], (zs first).length, fun q => #[.int .i64 (((zs first).length - 1 - q : Nat) : Int), .int .i64 ((zs first)[(zs first).length - 1 - q]?.getD 0)], BoxA (M + 1 + 1) w (zs first),
    fun q G n' => G M = some ⟨false, 3, ints (inRun s p0 first q).1⟩ ∧ G R = some ⟨false, 3, intsI (inRun s p0 first q).2⟩ ∧ ∀ i, i < M + 1 + 1 + 1 → i ≠ M → i ≠ R → G i = G13 i, rfl, rfl, by simp [evl, t50], iter_backward (M + 1 + 1) w (zs first) (by omega), fun q => ⟨rfl, by simp [plain]⟩, ?_, ?_, ?_, ?_⟩
  · exact ⟨e14, r14, fun _ _ _ _ => rfl⟩
  · rintro q G n' ⟨_, _, ho⟩
    refine ⟨by rw [ho _ (by omega) (by omega) (by omega)]; exact q13, ?_⟩
    rw [hzf]
    have : Src G w 1 first.length (ints first) := hw2.congr fun i hi => by
      have := hwd i hi
      rw [ho i (by omega) (by omega) (by omega), o13 i this]
    rw [ints_zs] at this; exact this
  · rintro q G n' hq ⟨he, hr, ho⟩
    have hq' : q < first.length := by omega
    have hx : (zs first)[(zs first).length - 1 - q]?.getD 0 = ((byt first (first.length - 1 - q) : Nat) : Int) := by
      rw [hzf, byt_eq (show first.length - 1 - q < first.length by omega)]
      simp [zs, show first.length - 1 - q < first.length by omega]
    refine ops_run (by simp only [runL, awant_none, astep, evl, put, ap_none, List.length_nil, Nat.add_zero, upd_app, ↓reduceIte, rt2, hx] <;> rfl) ⟨rfl, rfl, ?_⟩
    have hok1 := hins q hq'
    obtain ⟨l1, l2⟩ := inRun_len s p0 first q
    have hsucc : inRun s p0 first (q + 1) = le1 s (inRun s p0 first q) (byt first (first.length - 1 - q)) := rfl
    obtain ⟨p, hp⟩ : ∃ p, inRun s p0 first q = p := ⟨_, rfl⟩
    rw [hp] at hok1 l1 l2 hsucc he hr
    generalize byt first (first.length - 1 - q) = y at *
    have q3 : p.2.length = s.length := by omega
    have q4 : p.1.length = k := by omega
    have hX' : SX X v (.slice (some ⟨N, 0, some s.length⟩) s.length 1) (.slice (some ⟨n, 0, some k⟩) k 1) (.slice (some ⟨R, 0, some s.length⟩) s.length 1) G := by unfold SX; rw [ho X (by omega) (by omega) (by omega)]; exact x13
    have hl1 := ld_at (P := Try.prog) (T := 75) (g := G) (k := X + 1) (i := 0) (c := .pointer (some ⟨X, 0, some 4⟩)) (s := some 1) (by rw [ho _ (by omega) (by omega) (by omega)]; exact p13) rfl rfl aggTP
    have hl2 := ld_at (P := Try.prog) (T := 22) (g := G) (k := M + 1) (i := 0) (c := .slice (some ⟨M, 0, some k⟩) k 1) (s := some 1) (by rw [ho _ (by omega) (by omega) (by omega)]; exact s13) rfl rfl aggTS
    have hla := last_spec X M R v (.slice (some ⟨N, 0, some s.length⟩) s.length 1) (.slice (some ⟨n, 0, some k⟩) k 1) s p.1 p.2 y G 0 (by omega) (by omega) hok1.1 hok1.2.1 hok1.2.2.1 hok1.2.2.2 (by rw [q3]; exact hX') he hr (hv2.congr fun i hi => by
      have := hvd i hi
      rw [ho i (by omega) (by omega) (by omega), o13 i this]) (by omega) (by omega) (by omega) (fun i hi => by have := hvd i hi; omega)
    rw [q4] at hla
    refine ops_take 3 (by simp only [runL, List.take_succ_cons, List.take_zero, awant_none, astep, evl, put, ap_none, List.length_nil, Nat.add_zero, upd_app, ↓reduceIte, Nat.reduceEqDiff, t11, t12, hl1, hl2] <;> rfl) ?_
    refine ops_call 53 _ rfl (by simp only [upd_app, evl, List.map_cons, List.map_nil]; exact hla) (fun h => (h rfl).elim) ?_
    refine ops_heap fun G2 hG2 => ?_
    rw [ap_w2] at hG2
    refine ops_run rfl ?_
    refine ⟨?_, ?_, fun i h1 h2 h3 => ?_⟩
    · show G2 M = _
      rw [hG2, upd_ne _ _ (by omega), upd_self, hsucc]; rfl
    · show G2 R = _
      rw [hG2, upd_self, hsucc]; rfl
    · show G2 i = _
      rw [hG2, upd_ne _ _ h3, upd_ne _ _ h2]; exact ho i h1 h2 h3
  · rintro G n' ⟨he, hr, ho⟩
    rw [hzf] at he hr
    have hi1 : (inRun s p0 first first.length).2 = indRow1 s k first := by rw [← hp0]; rfl
    rw [hi1] at hr
    have hr1 := indRow1_len s k first
    have hr2 := indRow2_len s k first
    have hr3 := indRow3_len s k first
    obtain ⟨row1, hrow1⟩ : ∃ row1, indRow1 s k first = row1 := ⟨_, rfl⟩
    obtain ⟨row2, hrow2⟩ : ∃ row2, indRow2 s k first = row2 := ⟨_, rfl⟩
    have hl0 := hok.l0
    have hlg := hok.lg
    have hcl := hok.cl
    have hsm := hok.sm
    have e2 : (lgRun s (lg1 s (startsL (cntL s k), row1) (s.length - 1)) s.length).2 = row2 := by rw [← hrow1, ← hrow2]; rfl
    have e3 : (smRun s (endsL (cntL s k), clrL s row2) s.length s.length).2 = indRow3 s k first := by rw [← hrow2]; rfl
    rw [hrow1] at hr hr1 hl0 hlg
    rw [hrow2] at hr2 hcl hsm
    have hX' : SX X v (.slice (some ⟨N, 0, some s.length⟩) s.length 1) (.slice (some ⟨n, 0, some k⟩) k 1) (.slice (some ⟨R, 0, some s.length⟩) s.length 1) G := by unfold SX; rw [ho X (by omega) (by omega) (by omega)]; exact x13
    have hP' : G (X + 1) = some ⟨false, 75, [.pointer (some ⟨X, 0, some 4⟩)]⟩ := by rw [ho _ (by omega) (by omega) (by omega)]; exact p13
    have hB' : G N = some ⟨false, 4, bools (smallL s)⟩ := by rw [ho _ (by omega) (by omega) (by omega)]; exact b13
    have hC' : G n = some ⟨false, 3, ints (cntL s k)⟩ := by rw [ho _ (by omega) (by omega) (by omega)]; exact c13
    have hkp : Kp n g2 G := fun i hi => by rw [ho _ (by omega) (by omega) (by omega), o13 i hi]
    have srB : ∀ G : Heap, G N = some ⟨false, 4, bools (smallL s)⟩ → Src G (.slice (some ⟨N, 0, some s.length⟩) s.length 1) 1 s.length (bools (smallL s)) := fun G h => src_cells h (by simp [smallL_len])
    have srC : ∀ G : Heap, G n = some ⟨false, 3, ints (cntL s k)⟩ → Src G (.slice (some ⟨n, 0, some k⟩) k 1) 1 (cntL s k).length (ints (cntL s k)) := fun G h => by rw [hlc]; exact src_cells h (by simp [hlc])
    have hlarge := large_spec X R v (.slice (some ⟨N, 0, some s.length⟩) s.length 1) (.slice (some ⟨n, 0, some k⟩) k 1) s (cntL s k) row1 G 0 (by omega) (by omega) (by omega) (by omega) (by omega) hl0 (by rw [hr1]; exact hlg) (by rw [hr1]; exact hX') hr (hkp.src hv2 hvd) (srB G hB') (srC G hC') (by omega) (fun i hi => by have := hvd i hi; omega) (fun i hi => by have := srcBlk_own i hi; omega) (fun i hi => by have := srcBlk_own i hi; omega)
    rw [hr1, e2] at hlarge
    have hl1 := ld_at (P := Try.prog) (T := 75) (i := 0) (c := .pointer (some ⟨X, 0, some 4⟩)) (s := some 1) hP' rfl rfl aggTP
    show awp _ _ _ _ _ _
    refine s_take 1 (by simp only [runL, List.take_succ_cons, List.take_zero, awant_none, astep, evl, put, ap_none, List.length_nil, Nat.add_zero, t11, hl1] <;> rfl) ?_
    refine ops_call 54 _ rfl (by simp only [upd_app, evl, List.map_cons, List.map_nil]; exact hlarge) (fun h => (h rfl).elim) ?_
    refine ops_heap fun Ga hGa => ?_
    rw [ap_wr] at hGa
    refine ops_run rfl ?_
    have oa : ∀ i, i ≠ R → Ga i = G i := fun i hi => by rw [hGa, upd_ne _ _ hi]
    have ra : Ga R = some ⟨false, 3, intsI row2⟩ := by rw [hGa, upd_self]
    clear hGa hlarge
    have hXa : SX X v (.slice (some ⟨N, 0, some s.length⟩) s.length 1) (.slice (some ⟨n, 0, some k⟩) k 1) (.slice (some ⟨R, 0, some s.length⟩) s.length 1) Ga := by unfold SX; rw [oa X (by omega)]; exact hX'
    have hkpa : Kp n g2 Ga := fun i hi => by rw [oa i (by omega)]; exact hkp i hi
    have hsmalls := smalls_spec X R v (.slice (some ⟨N, 0, some s.length⟩) s.length 1) (.slice (some ⟨n, 0, some k⟩) k 1) s (cntL s k) row2 Ga 0 (by omega) (by omega) (by omega) (by omega) hcl (by rw [hr2]; exact hsm) (by rw [hr2]; exact hXa) ra (hkpa.src hv2 hvd) (srB Ga (by rw [oa N (by omega)]; exact hB')) (srC Ga (by rw [oa n (by omega)]; exact hC')) (by omega) (fun i hi => by have := hvd i hi; omega) (fun i hi => by have := srcBlk_own i hi; omega) (fun i hi => by have := srcBlk_own i hi; omega)
    rw [hr2, e3] at hsmalls
    have hl2 := ld_at (P := Try.prog) (T := 75) (g := Ga) (k := X + 1) (i := 0) (c := .pointer (some ⟨X, 0, some 4⟩)) (s := some 1) (by rw [oa _ (by omega)]; exact hP') rfl rfl aggTP
    refine w_gen (fun t => t 11 = .pointer (some ⟨X + 1, 0, some 1⟩)) (by simp [upd_app, put, t11]) ?_
    clear t0 t2 t11 t12 t50
    intro t t11
    show awp _ _ _ _ Ga _
    refine s_take 1 (by simp only [runL, List.take_succ_cons, List.take_zero, awant_none, astep, evl, put, ap_none, List.length_nil, Nat.add_zero, t11, hl2] <;> rfl) ?_
    refine ops_call 55 _ rfl (by simp only [upd_app, evl, List.map_cons, List.map_nil]; exact hsmalls) (fun h => (h rfl).elim) ?_
    refine ops_heap fun Gb hGb => ?_
    rw [ap_wr] at hGb
    refine ops_run rfl ?_
    have ob : ∀ i, i ≠ R → Gb i = Ga i := fun i hi => by rw [hGb, upd_ne _ _ hi]
    have rb : Gb R = some ⟨false, 3, intsI (indRow3 s k first)⟩ := by rw [hGb, upd_self]
    clear hGb hsmalls
    have hXb : SX X v (.slice (some ⟨N, 0, some s.length⟩) s.length 1) (.slice (some ⟨n, 0, some k⟩) k 1) (.slice (some ⟨R, 0, some s.length⟩) s.length 1) Gb := by unfold SX; rw [ob X (by omega)]; exact hXa
    have hkpb : Kp n g2 Gb := fun i hi => by rw [ob i (by omega)]; exact hkpa i hi
    have hl3 := ld_at (P := Try.prog) (T := 75) (g := Gb) (k := X + 1) (i := 0) (c := .pointer (some ⟨X, 0, some 4⟩)) (s := some 1) (by rw [ob _ (by omega), oa _ (by omega)]; exact hP') rfl rfl aggTP
    refine w_gen (fun t => t 11 = .pointer (some ⟨X + 1, 0, some 1⟩)) (by simp [upd_app, put, t11]) ?_
    clear t11
    intro t t11
    show awp _ _ _ _ Gb _
    refine s_run (by simp only [runL, awant_none, astep, evl, put, ap_none, List.length_nil, Nat.add_zero, upd_app, ↓reduceIte, t11, hl3, nchk, fldX3, ldX3 hXb] <;> rfl) ?_
    exact w_ret (okE_some (k := R) (l := indRow3 s k first) rfl (by simp [upd_app, hr3]) (by simp []) (by omega) rb hs hwf hkpb (by rw [indL, if_neg h0]))
end Go.Proofs.Ytdpkhijbikbhnaa
