import Derived.Test.YtdpkhijbikbhnaaT27
namespace Go.Proofs.Ytdpkhijbikbhnaa
open Go Abs Plain
set_option linter.unusedSimpArgs false
set_option linter.unusedVariables false

/-- The keys of an order. -/
def ksL (order keys : List Nat) : List Nat := order.map (byt keys)
theorem ksL_at {order keys : List Nat} {i : Nat} (h : i < order.length) : byt (ksL order keys) i = byt keys (byt order i) := by
  rw [byt_eq (by simp [ksL]; exact h), byt_eq h]; simp [ksL]
def psP (order keys : List Nat) (k i : Nat) : Nat := ((cntL (ksL order keys) k).take (byt (ksL order keys) i)).sum + ((ksL order keys).take i).count (byt (ksL order keys) i)
def psRun (order keys : List Nat) (k : Nat) : Nat → List Nat
  | 0 => List.replicate order.length 0
  | i + 1 => (psRun order keys k i).set (psP order keys k i) (byt order i)
/-- An order, sorted by keys. -/
def passL (order keys : List Nat) (k : Nat) : List Nat := psRun order keys k order.length
theorem psRun_len (order keys : List Nat) (k : Nat) : ∀ i, (psRun order keys k i).length = order.length
  | 0 => by simp [psRun]
  | i + 1 => by simp [psRun, psRun_len order keys k i]
theorem passL_len (order keys : List Nat) (k : Nat) : (passL order keys k).length = order.length := psRun_len _ _ _ _
theorem psP_lt {order keys : List Nat} {k i : Nat} (hi : i < order.length) (hk : byt (ksL order keys) i < k) : psP order keys k i < order.length := by
  have hl : (ksL order keys).length = order.length := by simp [ksL]
  have h1 : ((ksL order keys).take (i + 1)).count (byt (ksL order keys) i) = ((ksL order keys).take i).count (byt (ksL order keys) i) + 1 := by
    rw [take_byt (by omega), List.count_append]; simp
  have h2 : ((ksL order keys).take (i + 1)).count (byt (ksL order keys) i) ≤ (ksL order keys).count (byt (ksL order keys) i) := (List.take_sublist _ _).count_le _
  have h3 := sum_cntL k (ksL order keys)
  have h4 := sum_take_le (cntL (ksL order keys) k) (byt (ksL order keys) i + 1)
  rw [take_byt (by rw [cntL_len]; exact hk), List.sum_append, cntL_at hk] at h4
  simp at h4
  unfold psP
  omega
/-- Where the next one of each key goes. -/
def atL (order keys : List Nat) (k i : Nat) : List Nat := (List.range k).map fun c => ((cntL (ksL order keys) k).take c).sum + ((ksL order keys).take i).count c
theorem atL_len (order keys : List Nat) (k i : Nat) : (atL order keys k i).length = k := by simp [atL]
theorem atL_at {order keys : List Nat} {k i c : Nat} (h : c < k) : byt (atL order keys k i) c = ((cntL (ksL order keys) k).take c).sum + ((ksL order keys).take i).count c := by rw [byt_eq (by rw [atL_len]; exact h)]; simp [atL]
theorem atL_zero (order keys : List Nat) (k : Nat) : atL order keys k 0 = startsL (cntL (ksL order keys) k) := by simp [atL, startsL, cntL_len]
theorem atL_set {order keys : List Nat} {k i : Nat} (hi : i < order.length) (hk : byt (ksL order keys) i < k) : (atL order keys k i).set (byt (ksL order keys) i) (psP order keys k i + 1) = atL order keys k (i + 1) := by
  have hl : (ksL order keys).length = order.length := by simp [ksL]
  apply List.ext_getElem
  · simp [atL]
  · intro x h1 h2
    rw [List.getElem_set]
    simp only [atL, List.getElem_map, List.getElem_range]
    rw [take_byt (show i < (ksL order keys).length by omega), List.count_append]
    by_cases e : byt (ksL order keys) i = x
    · rw [if_pos e, ← e]; simp [psP]; omega
    · rw [if_neg e]; simp [e]

set_option maxRecDepth 20000 in
theorem pass_spec (w v : Value) (order keys : List Nat) (k : Nat) (g : Heap) (jj : Nat) (hl : keys.length ≤ 2 ^ 37) (hlo : order.length ≤ 2 ^ 37) (hk : k ≤ 1048576) (hb : ∀ x ∈ keys, x < k) (ho : ∀ x ∈ order, x < keys.length)
    (hw : Src g w 1 order.length (ints order)) (hv : Src g v 1 keys.length (ints keys)) :
    FnSpec Try.prog 36 [w, v, .int .i64 k] g (okE (some (zs (passL order keys k))) (srcBlk w ++ srcBlk v) jj) := by
  refine spec_of_body [6, 7] follows Try.func36 rfl (by kernel_rfl) (by simp [Try.f36]) (by kernel_rfl) rfl ?_
  intro g2 s2 n hg hfr hs hn hwf hsv
  rw [okE_fp] at hg
  have hv2 : Src g2 v 1 keys.length (ints keys) := hv.congr fun i hi => hg i (by simp [hi])
  have hw2 : Src g2 w 1 order.length (ints order) := hw.congr fun i hi => hg i (by simp [hi])
  have hvd := dom_of hs hwf hv2
  have hwd := dom_of hs hwf hw2
  have hlv := hv2.len Try.underlying22
  have hlw := hw2.len Try.underlying22
  clear hg hfr hn hv hw
  have hkl : (ksL order keys).length = order.length := by simp [ksL]
  have hkk : ∀ i, i < order.length → byt (ksL order keys) i < k := fun i hi => by
    rw [ksL_at hi]
    have h1 := ho (byt order i) (by rw [byt_eq hi]; exact List.getElem_mem hi)
    exact hb _ (by rw [byt_eq h1]; exact List.getElem_mem h1)
  refine s_run (by simp only [runL, awant_none, astep, evl, put, ap_none, List.length_nil, Nat.add_zero, undef] <;> rfl) ?_
  refine w_assoc (s_take 2 (by simp only [runL, Option.getD_some, List.getElem?_cons_succ, List.getElem?_cons_zero, List.take_succ_cons, List.take_zero, awant_none, astep, evl, put, ap_none, List.length_nil, Nat.add_zero, upd_app, ↓reduceIte, Nat.reduceEqDiff] <;> rfl) ?_)
  refine ops_call 17 _ rfl (counts_spec v keys k g2 n (by omega) hk hb hv2) (fun _ => rfl) ?_
  refine ops_heap fun G1 hG1 => ?_
  have k1 : Kp n g2 G1 := by rw [hG1]; simp only [okE, ap_new]; exact kp_upd (Kp.refl _ _) (Nat.le_refl _)
  clear hG1
  refine ops_run (by simp only [runL, List.getElem?_toArray, List.getElem?_cons_succ, List.getElem?_cons_zero, awant_none, astep, evl, put, ap_none, List.length_nil, List.length_cons, Nat.add_zero, Nat.zero_add, upd_app, stepExtract, ↓reduceIte, Nat.reduceEqDiff, okE] <;> rfl) ?_
  refine w_assoc (s_run (by simp only [runL, Bool.not_true, awant_none, astep, evl, put, ap_none, List.length_nil, Nat.add_zero, upd_app, stepUn, ↓reduceIte] <;> rfl) ?_)
  refine s_false (by simp [evl]) (s_skip ?_)
  refine w_gen (fun t => t 0 = w ∧ t 1 = v ∧ t 2 = .int .i64 k) (by simp [upd_app]) ?_
  rintro t ⟨t0, t1, t2⟩
  refine w_num fun N hN => ?_
  replace hN : N = n + 1 := hN
  show awp _ _ _ _ G1 N
  refine s_run (by simp only [runL, awant_none, astep, evl, put, ap_none, ap_new, List.length_nil, List.length_cons, Nat.add_zero, Nat.zero_add, upd_app, ↓reduceIte, t2, mkInts k N (by omega)] <;> rfl) (w_heap fun G2 hG2 => ?_)
  have b2 : G2 N = some ⟨false, 3, ints (cntL ((ksL order keys).take 0) k)⟩ := by
    have : cntL ((ksL order keys).take 0) k = List.replicate k 0 := by unfold cntL; rw [List.eq_replicate_iff]; simp
    rw [hG2, this]; simp []
  have k2 : Kp n g2 G2 := by rw [hG2]; exact kp_upd k1 (by omega)
  clear hG2
  refine w_assoc (s_run (by simp only [runL, awant_none, astep, evl, put, ap_none, List.length_nil, Nat.add_zero, upd_app, stepCall, reduceCtorEq, ↓reduceIte, t0, hlw] <;> rfl) ?_)
  refine s_rng order.length (fun i t g n' => t 0 = w ∧ t 1 = v ∧ t 10 = .slice (some ⟨N, 0, some k⟩) k 1 ∧ t 27 = w ∧ g N = some ⟨false, 3, ints (cntL ((ksL order keys).take i) k)⟩ ∧ Kp n g2 g ∧ n' = N + 1) (by omega) (by simp []) (by simp [upd_app])
    (fun _ => ⟨by simp [upd_app, t0], by simp [upd_app, t1], by simp [upd_app], by simp [upd_app], b2, k2, rfl⟩) (by decide) ?_ ?_
  · clear t0 t1 t2 k1 b2 k2
    rintro i t g n' hi t29 t28 ⟨t0, t1, t10, t27, b, hkp, hnn⟩
    obtain ⟨p, i1, l1, _⟩ := srcN (hkp.src hw2 hwd) hi
    have hx := ho (byt order i) (by rw [byt_eq hi]; exact List.getElem_mem hi)
    obtain ⟨q, i2, l2, _⟩ := srcN (hkp.src hv2 hvd) hx
    have hc := hkk i hi
    rw [← ksL_at hi] at l2
    have htk := take_byt (l := ksL order keys) (k := i) (by omega)
    have hcb : ((ksL order keys).take i).count (byt (ksL order keys) i) ≤ 2 ^ 38 := by have := List.count_le_length (a := byt (ksL order keys) i) (l := (ksL order keys).take i); simp at this; omega
    have hset := cntL_push (l := (ksL order keys).take i) hc
    have hca := cntL_at (l := (ksL order keys).take i) hc
    rw [← htk] at hset
    generalize byt (ksL order keys) i = c at *
    generalize byt order i = x at *
    have iy := idxI N k c k hc
    have ly := ldN (m := k) (i := c) b (cntL_len _ _) (by rw [cntL_len]; exact hc)
    rw [hca] at ly
    have w1 : IntKind.i64.wrap ((((ksL order keys).take i).count c : Nat) + 1 : Int) = ((((ksL order keys).take i).count c + 1 : Nat) : Int) := wrap_succ (by omega)
    have s1 := stN (m := k) (i := c) (x := ((ksL order keys).take i).count c + 1) b (cntL_len _ _) (by rw [cntL_len]; exact hc)
    rw [hset] at s1
    have d0 : decide ((x : Int) < 0) = false := decide_eq_false (by omega)
    have d1 : decide ((x : Int) ≥ (keys.length : Int)) = false := decide_eq_false (by omega)
    refine s_run (by simp only [runL, awant_none, astep, evl, put, ap_none, List.length_nil, Nat.add_zero, upd_app, ↓reduceIte, t27, t29, i1, l1] <;> rfl) ?_
    refine w_assoc (s_run (by simp only [runL, awant_some, List.getElem?_toArray, List.getElem?_cons_succ, List.getElem?_cons_zero, Option.bind_some, b_ff, awant_none, astep, evl, put, ap_none, List.length_nil, Nat.add_zero, upd_app, stepBin, abin, stepPick, stepCall, ↓reduceIte, Nat.reduceEqDiff, Bool.false_eq_true, t1, hlv, d0, d1] <;> rfl) ?_)
    refine s_false (by simp [evl]) (s_skip ?_)
    refine region_run (id := 10) (by simp only [runL, awant_none, astep, evl, put, ap_none, ap_wr, List.length_nil, Nat.add_zero, upd_app, stepBin, abin, ↓reduceIte, Nat.reduceEqDiff, undef, t1, t10, i2, l2, iy, ly, w1, s1] <;> rfl) ?_
    simp only [rngPost]
    exact ⟨by simp [upd_app, t29], by simp [upd_app, t28], fun _ _ _ => ⟨by simp [upd_app, t0], by simp [upd_app, t1], by simp [upd_app, t10], by simp [upd_app, t27], by simp [], kp_upd hkp (by omega), hnn⟩⟩
  clear t0 t1 t2 k1 b2 k2
  rintro t g N' ⟨t0, t1, t10, t27, b, hkp, hnn⟩
  rw [show order.length = (ksL order keys).length by rw [hkl], List.take_length] at b
  have hcl : (cntL (ksL order keys) k).length = k := cntL_len _ _
  have hsum := sum_cntL k (ksL order keys)
  have hsc : Src g (.slice (some ⟨N, 0, some k⟩) k 1) 1 (cntL (ksL order keys) k).length (ints (cntL (ksL order keys) k)) := by rw [hcl]; exact src_cells b (by simp [hcl])
  have hst := starts_spec (.slice (some ⟨N, 0, some k⟩) k 1) (cntL (ksL order keys) k) g N' (by omega) (by omega) hsc
  rw [hcl] at hst
  refine s_take 1 (by simp only [runL, List.take_succ_cons, List.take_zero, awant_none, astep, evl, put, ap_none, List.length_nil, Nat.add_zero, t10] <;> rfl) ?_
  refine ops_call 39 _ rfl (by simp only [upd_app, evl, List.map_cons, List.map_nil]; exact hst) (fun _ => rfl) ?_
  dsimp only
  refine ops_heap fun G3 hG3 => ?_
  have b3 : G3 N' = some ⟨false, 3, ints (atL order keys k 0)⟩ := by rw [hG3, atL_zero]; simp [ap_new]
  have k3 : Kp n g2 G3 := by rw [hG3]; simp only [ap_new]; exact kp_upd hkp (by omega)
  clear hG3 hst hsc
  refine ops_run (by simp only [runL, awant_none, astep, evl, put, ap_none, List.length_nil, List.length_cons, Nat.add_zero, Nat.zero_add, upd_app, ↓reduceIte] <;> rfl) ?_
  refine w_gen (fun t => t 0 = w ∧ t 1 = v ∧ t 13 = .slice (some ⟨N', 0, some k⟩) k 1) (by simp [upd_app, t0, t1]) ?_
  clear t0 t1 t10 t27
  rintro t ⟨t0, t1, t13⟩
  show awp _ _ _ _ G3 (N' + 1)
  refine s_run (by simp only [runL, awant_none, astep, evl, put, ap_none, ap_new, List.length_nil, List.length_cons, Nat.add_zero, Nat.zero_add, upd_app, stepCall, ↓reduceIte, t0, hlw, mkInts order.length (N' + 1) (by omega)] <;> rfl) (w_heap fun G4 hG4 => ?_)
  have b4 : G4 (N' + 1) = some ⟨false, 3, ints (psRun order keys k 0)⟩ := by rw [hG4]; simp [psRun]
  have a4 : G4 N' = some ⟨false, 3, ints (atL order keys k 0)⟩ := by rw [hG4, upd_ne _ _ (by omega)]; exact b3
  have k4 : Kp n g2 G4 := by rw [hG4]; exact kp_upd k3 (by omega)
  clear hG4
  refine w_assoc (s_run (by simp only [runL, awant_none, astep, evl, put, ap_none, List.length_nil, Nat.add_zero, upd_app, stepCall, reduceCtorEq, ↓reduceIte, t0, hlw] <;> rfl) ?_)
  refine s_rng order.length (fun i t g _ => t 1 = v ∧ t 13 = .slice (some ⟨N', 0, some k⟩) k 1 ∧ t 14 = .slice (some ⟨N' + 1, 0, some order.length⟩) order.length 1 ∧ t 56 = w ∧ g N' = some ⟨false, 3, ints (atL order keys k i)⟩ ∧ g (N' + 1) = some ⟨false, 3, ints (psRun order keys k i)⟩ ∧ Kp n g2 g) (by omega) (by simp []) (by simp [upd_app])
    (fun _ => ⟨by simp [upd_app, t1], by simp [upd_app, t13], by simp [upd_app], by simp [upd_app], a4, b4, k4⟩) (by decide) ?_ ?_
  · clear t0 t1 t13 b3 k3 b4 a4 k4 b hkp
    rintro i t g n' hi t58 t57 ⟨t1, t13, t14, t56, ba, bp, hkp⟩
    obtain ⟨p, i1, l1, _⟩ := srcN (hkp.src hw2 hwd) hi
    have hx := ho (byt order i) (by rw [byt_eq hi]; exact List.getElem_mem hi)
    obtain ⟨q, i2, l2, _⟩ := srcN (hkp.src hv2 hvd) hx
    have hc := hkk i hi
    rw [← ksL_at hi] at l2
    have hlt := psP_lt hi hc
    have hset := atL_set hi hc
    have hsucc : psRun order keys k (i + 1) = (psRun order keys k i).set (psP order keys k i) (byt order i) := rfl
    have hat : byt (atL order keys k i) (byt (ksL order keys) i) = psP order keys k i := by rw [atL_at hc]; rfl
    obtain ⟨c, hcc⟩ : ∃ c, byt (ksL order keys) i = c := ⟨_, rfl⟩
    obtain ⟨x, hxx⟩ : ∃ x, byt order i = x := ⟨_, rfl⟩
    obtain ⟨P, hP⟩ : ∃ P, psP order keys k i = P := ⟨_, rfl⟩
    rw [hcc] at l2 hc hset hat
    rw [hxx] at i2 hx l1 hsucc
    rw [hP] at hlt hset hsucc hat
    have ia := idxI N' k c k hc
    have la := ldN (m := k) (i := c) ba (atL_len _ _ _ _) (by rw [atL_len]; exact hc)
    rw [hat] at la
    have ip := idxI (N' + 1) order.length P order.length hlt
    have s1 := stN (m := order.length) (i := P) (x := x) bp (psRun_len _ _ _ _) (by rw [psRun_len]; exact hlt)
    rw [← hsucc] at s1
    refine s_run (by simp only [runL, awant_none, astep, evl, put, ap_none, List.length_nil, Nat.add_zero, upd_app, ↓reduceIte, t56, t58, i1, l1] <;> rfl) ?_
    refine s_run (by simp only [runL, awant_none, astep, evl, put, ap_none, ap_wr, List.length_nil, Nat.add_zero, upd_app, ↓reduceIte, Nat.reduceEqDiff, undef, t1, t13, t14, i2, l2, ia, la, ip, s1] <;> rfl) (w_heap fun G5 hG5 => ?_)
    have p5 : G5 (N' + 1) = some ⟨false, 3, ints (psRun order keys k (i + 1))⟩ := by rw [hG5]; simp []
    have a5 : G5 N' = some ⟨false, 3, ints (atL order keys k i)⟩ := by rw [hG5, upd_ne _ _ (by omega)]; exact ba
    have k5 : Kp n g2 G5 := by rw [hG5]; exact kp_upd hkp (by omega)
    clear hG5 s1
    obtain ⟨q', i3, l3, _⟩ := srcN (k5.src hv2 hvd) hx
    rw [← hxx, ← ksL_at hi, hcc] at l3
    have la2 := ldN (m := k) (i := c) a5 (atL_len _ _ _ _) (by rw [atL_len]; exact hc)
    rw [hat] at la2
    have w1 : IntKind.i64.wrap ((P : Int) + 1) = ((P + 1 : Nat) : Int) := wrap_succ (by omega)
    have s2' := stN (m := k) (i := c) (x := P + 1) a5 (atL_len _ _ _ _) (by rw [atL_len]; exact hc)
    rw [hset] at s2'
    refine region_run (id := 18) (by simp only [runL, awant_none, astep, evl, put, ap_none, ap_wr, List.length_nil, Nat.add_zero, upd_app, stepBin, abin, ↓reduceIte, Nat.reduceEqDiff, undef, t1, t13, i3, l3, ia, la2, w1, s2'] <;> rfl) ?_
    simp only [rngPost]
    exact ⟨by simp [upd_app, t58], by simp [upd_app, t57], fun _ _ _ => ⟨by simp [upd_app, t1], by simp [upd_app, t13], by simp [upd_app, t14], by simp [upd_app, t56], by simp [], by rw [upd_ne _ _ (by omega)]; exact p5, kp_upd k5 (by omega)⟩⟩
  · clear t0 t1 t13 b3 k3 b4 a4 k4 b hkp
    rintro t g n' ⟨t1, t13, t14, t56, ba, bp, hkp⟩
    refine s_run (by simp only [runL, awant_none, astep, evl, put, ap_none, List.length_nil, Nat.add_zero, upd_app, ↓reduceIte, t14] <;> rfl) ?_
    exact w_ret (okE_some (k := N' + 1) (l := zs (passL order keys k)) rfl (by simp [upd_app, passL_len]) (by simp []) (by omega) (by rw [← ints_zs]; exact bp) hs hwf hkp rfl)
end Go.Proofs.Ytdpkhijbikbhnaa
