import Derived.Test.YtdpkhijbikbhnaaT34
namespace Go.Proofs.Ytdpkhijbikbhnaa
open Go Abs Plain
set_option linter.unusedSimpArgs false
set_option linter.unusedVariables false

/-- The sample by its last keys, r of them. -/
def sk3R (s : List Nat) (k : Nat) : Nat → List Nat
  | 0 => smpL s.length
  | r + 1 => passL (sk3R s k r) (keysL s (2 - r)) (k + 1)
theorem sk3R_len (s : List Nat) (k : Nat) : ∀ r, (sk3R s k r).length = plN s.length 1 + plN s.length 2
  | 0 => smpL_len _
  | r + 1 => by rw [sk3R, passL_len, sk3R_len s k r]
theorem keysL_key {s : List Nat} {k b x : Nat} (h : ∀ x ∈ s, x < k) (hx : x < s.length) : byt (keysL s b) x < k + 1 := keysL_lt h _ (by rw [byt_eq (by rw [keysL_len]; exact hx)]; exact List.getElem_mem _)
theorem sk3R_perm {s : List Nat} {k : Nat} (h : ∀ x ∈ s, x < k) : ∀ r, (sk3R s k r).Perm (smpL s.length)
  | 0 => List.Perm.refl _
  | r + 1 => by
    have ih := sk3R_perm h r
    exact (passL_perm fun x hx => keysL_key h (smpL_lt x (ih.mem_iff.1 hx))).trans ih
def sk3 (s : List Nat) (k : Nat) : List Nat := sk3R s k 3
/-- The ranks so far, from one on, and how many there are. -/
def rnRun (s o : List Nat) : Nat → List Nat × Nat
  | 0 => (List.replicate (s.length + 3) 0, 0)
  | i + 1 => let p := rnRun s o i; let c := if i = 0 ∨ alB s (byt o (i - 1)) (byt o i) = false then p.2 + 1 else p.2; (p.1.set (byt o i) c, c)
theorem rnRun_succ (s o : List Nat) (i : Nat) : rnRun s o (i + 1) = ((rnRun s o i).1.set (byt o i) (if i = 0 ∨ alB s (byt o (i - 1)) (byt o i) = false then (rnRun s o i).2 + 1 else (rnRun s o i).2), if i = 0 ∨ alB s (byt o (i - 1)) (byt o i) = false then (rnRun s o i).2 + 1 else (rnRun s o i).2) := rfl
theorem rnRun_succ2 (s o : List Nat) (i : Nat) : (rnRun s o (i + 1)).2 = if i = 0 ∨ alB s (byt o (i - 1)) (byt o i) = false then (rnRun s o i).2 + 1 else (rnRun s o i).2 := by rw [rnRun_succ]
theorem rnRun_succ1 (s o : List Nat) (i : Nat) : (rnRun s o (i + 1)).1 = (rnRun s o i).1.set (byt o i) (rnRun s o (i + 1)).2 := by rw [rnRun_succ2, rnRun_succ]
theorem rnRun_len (s o : List Nat) : ∀ i, (rnRun s o i).1.length = s.length + 3
  | 0 => by simp [rnRun]
  | i + 1 => by rw [rnRun_succ]; simp [rnRun_len s o i]
theorem rnRun_n (s o : List Nat) : ∀ i, (rnRun s o i).2 ≤ i
  | 0 => by simp [rnRun]
  | i + 1 => by
    have := rnRun_n s o i
    rw [rnRun_succ2]
    split <;> omega
theorem rnRun_le (s o : List Nat) : ∀ i, ∀ x ∈ (rnRun s o i).1, x ≤ (rnRun s o i).2
  | 0, x, hx => by simp [rnRun] at hx ⊢; omega
  | i + 1, x, hx => by
    have ih := rnRun_le s o i
    rw [rnRun_succ1] at hx
    rcases List.mem_or_eq_of_mem_set hx with h | h
    · have := ih x h
      rw [rnRun_succ2]
      split <;> omega
    · rw [h]; exact Nat.le_refl _
/-- The order of a sample, and its ranks; 'rec' sorts the ranks where they are not all different. -/
def rkd (rec : List Nat → Nat → List Nat) (s : List Nat) (k : Nat) : List Nat × List Nat :=
  let p := rnRun s (sk3 s k) (sk3 s k).length
  if p.2 = (sk3 s k).length then (sk3 s k, p.1)
  else (bkM s.length (rec (belL s.length p.1) (p.2 + 1)), seRun p.1 (bkM s.length (rec (belL s.length p.1) (p.2 + 1))) (bkM s.length (rec (belL s.length p.1) (p.2 + 1))).length)

set_option maxRecDepth 40000 in
set_option maxHeartbeats 2000000 in
theorem ranked_spec (rec : List Nat → Nat → List Nat) (v : Value) (s : List Nat) (kk : Nat) (g : Heap) (jj : Nat) (h2 : 2 ≤ s.length) (hl : s.length ≤ 100000) (hk : kk ≤ 1000000) (hsk : ∀ x ∈ s, x < kk) (hv : Src g v 1 s.length (ints s))
    (hrec : (rnRun s (sk3 s kk) (sk3 s kk).length).2 ≠ (sk3 s kk).length →
      (rec (belL s.length (rnRun s (sk3 s kk) (sk3 s kk).length).1) ((rnRun s (sk3 s kk) (sk3 s kk).length).2 + 1)).length ≤ 2 ^ 37 ∧ (∀ x ∈ rec (belL s.length (rnRun s (sk3 s kk) (sk3 s kk).length).1) ((rnRun s (sk3 s kk) (sk3 s kk).length).2 + 1), x < plN s.length 1 + 1 + plN s.length 2) ∧
      (bkM s.length (rec (belL s.length (rnRun s (sk3 s kk) (sk3 s kk).length).1) ((rnRun s (sk3 s kk) (sk3 s kk).length).2 + 1))).length ≠ 0 ∧
      ∀ (v' : Value) (g : Heap) (j : Nat), Src g v' 1 (belL s.length (rnRun s (sk3 s kk) (sk3 s kk).length).1).length (ints (belL s.length (rnRun s (sk3 s kk) (sk3 s kk).length).1)) → FnSpec Try.prog 19 [v', .int .i64 (((rnRun s (sk3 s kk) (sk3 s kk).length).2 + 1 : Nat) : Int)] g (newE 3 (ints (rec (belL s.length (rnRun s (sk3 s kk) (sk3 s kk).length).1) ((rnRun s (sk3 s kk) (sk3 s kk).length).2 + 1))) (srcBlk v') j)) :
    FnSpec Try.prog 35 [v, .int .i64 kk] g (twE (rkd rec s kk).1 (rkd rec s kk).2 (srcBlk v) jj) := by
  refine spec_of_body [4, 5] follows Try.func35 rfl (by kernel_rfl) (by simp [Try.f35]) (by kernel_rfl) rfl ?_
  intro g2 s2 n hg hfr hs hn hwf hsv
  rw [twE_fp] at hg
  have hv2 : Src g2 v 1 s.length (ints s) := hv.congr fun i hi => hg i hi
  have hvd := dom_of hs hwf hv2
  have hlen := hv2.len Try.underlying22
  clear hg hfr hn hv
  have hx38 : ∀ x ∈ s, x ≤ 2 ^ 38 := fun x hx => by have := hsk x hx; omega
  have hp1 : plN s.length 1 ≠ 0 := by unfold plN; omega
  have hp1l : plN s.length 1 ≤ 100000 := by unfold plN; omega
  have hp2l : plN s.length 2 ≤ 100000 := by unfold plN; omega
  have hp12 : plN s.length 1 + plN s.length 2 ≤ s.length := by unfold plN; omega
  have hsml := smpL_len s.length
  obtain ⟨mm, hmm⟩ : ∃ mm, plN s.length 1 + plN s.length 2 = mm := ⟨_, rfl⟩
  have hmm0 : mm ≠ 0 := by omega
  have hsm' : (ints (smpL s.length)).length = mm := by simp; omega
  have hskl : ∀ r, (sk3R s kk r).length = mm := fun r => by rw [sk3R_len, hmm]
  refine s_run (by simp only [runL, awant_none, astep, evl, put, ap_none, List.length_nil, Nat.add_zero, undef] <;> rfl) ?_
  refine s_take 2 (by simp only [runL, Option.getD_some, List.getElem?_cons_zero, List.take_succ_cons, List.take_zero, awant_none, astep, evl, put, ap_none, List.length_nil, Nat.add_zero, upd_app, stepCall, reduceCtorEq, ↓reduceIte, hlen] <;> rfl) ?_
  refine ops_call 57 _ rfl (by simp only [upd_app, evl, List.map_cons, List.map_nil]; exact sample_spec s.length g2 n hl) (fun _ => newE_j _ _ _ _) ?_
  rw [newE_own (by rw [hsm']; exact hmm0), hsm']
  refine ops_heap fun G1 hG1 => ?_
  have b1 : G1 n = some ⟨false, 3, ints (smpL s.length)⟩ := by rw [hG1]; simp [ap_new]
  have k1 : Kp n g2 G1 := by rw [hG1]; simp only [ap_new]; exact kp_upd (Kp.refl _ _) (Nat.le_refl _)
  clear hG1
  refine ops_run (by simp only [runL, awant_none, astep, evl, put, ap_none, List.length_nil, List.length_cons, Nat.add_zero, Nat.zero_add, upd_app, ↓reduceIte] <;> rfl) ?_
  refine s_run (by simp only [runL, awant_none, astep, evl, put, ap_none, List.length_nil, Nat.add_zero, upd_app, ↓reduceIte] <;> rfl) ?_
  refine w_gen (fun t => t 0 = v ∧ t 1 = .int .i64 kk ∧ t 6 = .slice (some ⟨n, 0, some mm⟩) mm 1 ∧ t 4 = .slice (some ⟨n, 0, some mm⟩) mm 1) (by simp [upd_app]) ?_
  rintro t ⟨t0, t1, t6, t4⟩
  show awp _ _ _ _ G1 (n + 1)
  refine w_assoc (s_run (by simp only [runL, awant_none, astep, evl, put, ap_none, List.length_nil, Nat.add_zero] <;> rfl) ?_)
  refine s_down 3 (fun k t g n' => t 0 = v ∧ t 1 = .int .i64 kk ∧ t 6 = .slice (some ⟨n, 0, some mm⟩) mm 1 ∧ ∃ q, t 4 = .slice (some ⟨q, 0, some mm⟩) mm 1 ∧ n ≤ q ∧ q < n' ∧ g q = some ⟨false, 3, ints (sk3R s kk (3 - k))⟩ ∧ g n = some ⟨false, 3, ints (smpL s.length)⟩ ∧ Kp n g2 g) 2 (by omega) (by simp []) (.inr rfl)
    (fun _ _ => ⟨by simp [upd_app, t0], by simp [upd_app, t1], by simp [upd_app, t6], n, by simp [upd_app, t4], Nat.le_refl _, Nat.lt_succ_self _, b1, b1, k1⟩) (by decide) ?_ ?_
  · clear t0 t1 t4 t6 b1 k1
    rintro k t g n' hk3 t7 ⟨t0, t1, t6, q, t4, hq1, hq2, bq, bn, hkp⟩
    have hr : 3 - (k + 1) = 2 - k := by omega
    have hr2 : 2 - (2 - k) = k := by omega
    have hr3 : 3 - k = (2 - k) + 1 := by omega
    have hsucc : sk3R s kk (3 - k) = passL (sk3R s kk (2 - k)) (keysL s k) (kk + 1) := by rw [hr3, sk3R, hr2]
    rw [hr] at bq
    have hks := keys_spec v s k g n' (by omega) (by omega) hx38 (hkp.src hv2 hvd)
    have w1 : IntKind.i64.wrap ((kk : Int) + 1) = ((kk + 1 : Nat) : Int) := wrap_succ (by omega)
    have hol := hskl (2 - k)
    have hop := sk3R_perm hsk (2 - k)
    obtain ⟨o, hoo⟩ : ∃ o, sk3R s kk (2 - k) = o := ⟨_, rfl⟩
    rw [hoo] at hsucc bq hol hop
    refine region_take (id := 6) 3 (by simp only [runL, List.take_succ_cons, List.take_zero, awant_none, astep, evl, put, ap_none, List.length_nil, Nat.add_zero, upd_app, reduceCtorEq, ↓reduceIte, Nat.reduceEqDiff, t0, t4, t7] <;> rfl) ?_
    refine ops_call 37 _ rfl (by simp only [upd_app, evl, List.map_cons, List.map_nil]; exact hks) (fun _ => rfl) ?_
    dsimp only
    refine ops_heap fun G2 hG2 => ?_
    have b2 : G2 n' = some ⟨false, 3, ints (keysL s k)⟩ := by rw [hG2]; simp [ap_new]
    have k2 : Kp n' g G2 := by rw [hG2]; simp only [ap_new]; exact kp_upd (Kp.refl _ _) (Nat.le_refl _)
    clear hG2 hks
    refine ops_take 2 (by simp only [runL, List.take_succ_cons, List.take_zero, awant_none, astep, evl, put, ap_none, List.length_nil, List.length_cons, Nat.add_zero, Nat.zero_add, upd_app, stepBin, abin, ↓reduceIte, Nat.reduceEqDiff, t1, w1] <;> rfl) ?_
    have hso : Src G2 (.slice (some ⟨q, 0, some mm⟩) mm 1) 1 o.length (ints o) := by rw [hol]; exact src_cells (by rw [k2 q hq2]; exact bq) (by simp [hol])
    have hskk : Src G2 (.slice (some ⟨n', 0, some s.length⟩) s.length 1) 1 (keysL s k).length (ints (keysL s k)) := by rw [keysL_len]; exact src_cells b2 (by simp [keysL_len])
    have hps := pass_spec _ _ o (keysL s k) (kk + 1) G2 (n' + 1) (by rw [keysL_len]; omega) (by omega) (by omega) (keysL_lt hsk) (fun x hx => by rw [keysL_len]; exact smpL_lt x (hop.mem_iff.1 hx)) hso hskk
    rw [← hsucc] at hps
    have hz : (zs (sk3R s kk (3 - k))).length = mm := by simp [zs, hskl]
    refine ops_call 36 _ rfl (by simp only [upd_app, evl, List.map_cons, List.map_nil]; exact hps) (fun _ => rfl) ?_
    refine ops_heap fun G3 hG3 => ?_
    have b3 : G3 (n' + 1) = some ⟨false, 3, ints (sk3R s kk (3 - k))⟩ := by rw [hG3, ints_zs]; simp [okE, ap_new]
    have k3 : Kp (n' + 1) G2 G3 := by rw [hG3]; simp only [okE, ap_new]; exact kp_upd (Kp.refl _ _) (Nat.le_refl _)
    clear hG3 hps hso hskk
    refine ops_run (by simp only [runL, List.getElem?_toArray, List.getElem?_cons_succ, List.getElem?_cons_zero, awant_none, astep, evl, put, ap_none, List.length_nil, List.length_cons, Nat.add_zero, Nat.zero_add, upd_app, stepExtract, ↓reduceIte, Nat.reduceEqDiff, okE, hz] <;> rfl) ?_
    simp only [rngPost]
    refine ⟨by simp [upd_app, t7], fun _ _ _ _ _ => ⟨by simp [upd_app, t0], by simp [upd_app, t1], by simp [upd_app, t6], n' + 1, by simp [upd_app], by omega, by show n' + 1 < n' + 1 + 1; omega, b3, ?_, fun q hq => by rw [k3 q (by omega), k2 q (by omega), hkp q hq]⟩⟩
    rw [k3 n (by omega), k2 n (by omega)]; exact bn
  clear t0 t1 t4 t6 b1 k1
  rintro t g N ⟨t0, t1, t6, Q, t4, hQ1, hQ2, bQ, bn, hkp⟩
  have hol := hskl 3
  have hop := sk3R_perm hsk 3
  obtain ⟨o, hoo⟩ : ∃ o, sk3R s kk 3 = o := ⟨_, rfl⟩
  have hoo' : sk3 s kk = o := hoo
  rw [hoo] at hol hop
  have bQ : g Q = some ⟨false, 3, ints o⟩ := by rw [← hoo]; exact bQ
  have hrkd : rkd rec s kk = if (rnRun s o o.length).2 = o.length then (o, (rnRun s o o.length).1) else (bkM s.length (rec (belL s.length (rnRun s o o.length).1) ((rnRun s o o.length).2 + 1)), seRun (rnRun s o o.length).1 (bkM s.length (rec (belL s.length (rnRun s o o.length).1) ((rnRun s o o.length).2 + 1))) (bkM s.length (rec (belL s.length (rnRun s o o.length).1) ((rnRun s o o.length).2 + 1))).length) := by rw [← hoo']; rfl
  rw [hoo'] at hrec
  clear hoo hoo' hskl
  have hlen2 := (hkp.src hv2 hvd).len Try.underlying22
  have w3 : IntKind.i64.wrap ((s.length : Int) + 3) = ((s.length + 3 : Nat) : Int) := by rw [wrap64_of (by omega) (by omega)]; omega
  refine s_run (by simp only [runL, awant_none, astep, evl, put, ap_none, ap_new, List.length_nil, List.length_cons, Nat.add_zero, Nat.zero_add, upd_app, stepBin, abin, stepCall, ↓reduceIte, t0, hlen2, w3, mkInts (s.length + 3) N (by omega)] <;> rfl) (w_heap fun G2 hG2 => ?_)
  have r2 : G2 N = some ⟨false, 3, ints (rnRun s o 0).1⟩ := by rw [hG2]; simp [rnRun]
  have o2 : ∀ q, q < N → G2 q = g q := fun q hq => by rw [hG2, upd_ne _ _ (by omega)]
  clear hG2
  refine s_run (by simp only [runL, awant_none, astep, evl, put, ap_none, List.length_nil, Nat.add_zero] <;> rfl) ?_
  refine w_assoc (s_run (by simp only [runL, awant_none, astep, evl, put, ap_none, List.length_nil, Nat.add_zero, upd_app, stepCall, ↓reduceIte, Nat.reduceEqDiff, t4, lenI] <;> rfl) ?_)
  refine s_rng mm (fun i t g' n' => t 0 = v ∧ t 4 = .slice (some ⟨Q, 0, some mm⟩) mm 1 ∧ t 5 = .slice (some ⟨N, 0, some (s.length + 3)⟩) (s.length + 3) 1 ∧ t 6 = .slice (some ⟨n, 0, some mm⟩) mm 1 ∧ t 43 = .slice (some ⟨Q, 0, some mm⟩) mm 1 ∧ t 8 = .int .i64 ((rnRun s o i).2 : Nat) ∧ g' N = some ⟨false, 3, ints (rnRun s o i).1⟩ ∧ (∀ q, q < N → g' q = g q) ∧ n' = N + 1) (by omega) (by simp []) (by simp [upd_app])
    (fun _ => ⟨by simp [upd_app, t0], by simp [upd_app, t4], by simp [upd_app], by simp [upd_app, t6], by simp [upd_app], by simp [upd_app, rnRun], r2, o2, rfl⟩) (by decide) ?_ ?_
  · clear t0 t1 t4 t6 r2 o2
    rintro i t g' n' hi t45 t44 ⟨t0, t4, t5, t6, t43, t8, bR, ho, hnn⟩
    have og : g' Q = some ⟨false, 3, ints o⟩ := by rw [ho Q hQ2]; exact bQ
    have io := idxI Q mm i mm hi
    have lo := ldN (m := mm) (i := i) og hol (by omega)
    have hx := smpL_lt (byt o i) (hop.mem_iff.1 (by rw [byt_eq (by omega)]; exact List.getElem_mem _))
    have hsucc := rnRun_succ s o i
    have hrl := rnRun_len s o i
    have hrn := rnRun_n s o i
    have hsucc2 : (rnRun s o (i + 1)).2 = if i = 0 ∨ alB s (byt o (i - 1)) (byt o i) = false then (rnRun s o i).2 + 1 else (rnRun s o i).2 := by rw [hsucc]
    have hsucc1 : (rnRun s o (i + 1)).1 = (rnRun s o i).1.set (byt o i) (rnRun s o (i + 1)).2 := by rw [hsucc2, hsucc]
    clear hsucc
    obtain ⟨r, hr⟩ : ∃ r, (rnRun s o i).1 = r := ⟨_, rfl⟩
    obtain ⟨c, hc⟩ : ∃ c, (rnRun s o i).2 = c := ⟨_, rfl⟩
    obtain ⟨c', hc'⟩ : ∃ c', (rnRun s o (i + 1)).2 = c' := ⟨_, rfl⟩
    obtain ⟨x, hxx⟩ : ∃ x, byt o i = x := ⟨_, rfl⟩
    rw [hc'] at hsucc1
    rw [hr] at hsucc1 hrl bR
    rw [hc', hc] at hsucc2
    rw [hc] at t8 hrn
    rw [hxx] at hsucc1 hsucc2 hx lo
    have ix := idxI N (s.length + 3) x (s.length + 3) (by omega)
    have s1 := stN (m := s.length + 3) (i := x) (x := c') bR hrl (by omega)
    rw [← hsucc1] at s1
    have w1 : IntKind.i64.wrap ((c : Int) + 1) = ((c + 1 : Nat) : Int) := wrap_succ (by omega)
    refine s_run (by simp only [runL, awant_none, astep, evl, put, ap_none, List.length_nil, Nat.add_zero, upd_app, ↓reduceIte, Nat.reduceEqDiff, t43, t45, io, lo] <;> rfl) ?_
    refine w_gen (fun t => t 0 = v ∧ t 4 = .slice (some ⟨Q, 0, some mm⟩) mm 1 ∧ t 5 = .slice (some ⟨N, 0, some (s.length + 3)⟩) (s.length + 3) 1 ∧ t 6 = .slice (some ⟨n, 0, some mm⟩) mm 1 ∧ t 43 = .slice (some ⟨Q, 0, some mm⟩) mm 1 ∧ t 8 = .int .i64 (c : Nat) ∧ t 9 = .int .i64 i ∧ t 10 = .int .i64 x ∧ t 45 = .int .i64 i ∧ t 44 = .int .i64 mm) (by simp [upd_app, t0, t4, t5, t6, t43, t8, t45, t44]) ?_
    clear t0 t4 t5 t6 t43 t8 t45 t44
    rintro t ⟨t0, t4, t5, t6, t43, t8, t9, t10, t45, t44⟩
    have done : ∀ (t : Nat → Value) (c'' : Nat), t 0 = v → t 4 = .slice (some ⟨Q, 0, some mm⟩) mm 1 → t 5 = .slice (some ⟨N, 0, some (s.length + 3)⟩) (s.length + 3) 1 → t 6 = .slice (some ⟨n, 0, some mm⟩) mm 1 → t 43 = .slice (some ⟨Q, 0, some mm⟩) mm 1 → t 10 = .int .i64 x → t 45 = .int .i64 i → t 44 = .int .i64 mm → t 8 = .int .i64 (c' : Nat) →
        awp Try.prog (Try.f35.body.getD .skip |> cr |> cr |> cr |> cr |> cr |> cr |> cl |> cr |> cb |> cb |> cr |> cr |> cl |> cb |> cr |> cr) (rngPost 2 3 (fun t' g'' n'' => t' 45 = .int .i64 i ∧ t' 44 = .int .i64 mm ∧ ∀ v1 v2 v3, upd (upd (upd t' 69 v1) 45 v2) 46 v3 0 = v ∧ upd (upd (upd t' 69 v1) 45 v2) 46 v3 4 = .slice (some ⟨Q, 0, some mm⟩) mm 1 ∧ upd (upd (upd t' 69 v1) 45 v2) 46 v3 5 = .slice (some ⟨N, 0, some (s.length + 3)⟩) (s.length + 3) 1 ∧ upd (upd (upd t' 69 v1) 45 v2) 46 v3 6 = .slice (some ⟨n, 0, some mm⟩) mm 1 ∧ upd (upd (upd t' 69 v1) 45 v2) 46 v3 43 = .slice (some ⟨Q, 0, some mm⟩) mm 1 ∧ upd (upd (upd t' 69 v1) 45 v2) 46 v3 8 = .int .i64 ((rnRun s o (i + 1)).2 : Nat) ∧ g'' N = some ⟨false, 3, ints (rnRun s o (i + 1)).1⟩ ∧ (∀ q, q < N → g'' q = g q) ∧ n'' = N + 1) (athen (awp Try.prog (Try.f35.body.getD .skip |> cr |> cr |> cr |> cr |> cr |> cr |> cr) (fun e t' g' _ => (e = .normal ∨ e = .ret) ∧ (([4, 5] : List Tmp).length ≠ 1 → ∀ r ∈ ([4, 5] : List Tmp), isTup (t' r) = false) ∧ ∃ ids, Abs.Fin (twE (rkd rec s kk).1 (rkd rec s kk).2 (srcBlk v) jj) ids s2 g2 n g' (resVal [4, 5] t'))) (fun e t' g' _ => (e = .normal ∨ e = .ret) ∧ (([4, 5] : List Tmp).length ≠ 1 → ∀ r ∈ ([4, 5] : List Tmp), isTup (t' r) = false) ∧ ∃ ids, Abs.Fin (twE (rkd rec s kk).1 (rkd rec s kk).2 (srcBlk v) jj) ids s2 g2 n g' (resVal [4, 5] t')))) t g' n' := by
      intro t _ t0 t4 t5 t6 t43 t10 t45 t44 t8
      show awp Try.prog (.region _ _ _) _ t g' n'
      refine region_run (id := 14) (by simp only [runL, awant_none, astep, evl, put, ap_none, ap_wr, List.length_nil, Nat.add_zero, upd_app, ↓reduceIte, Nat.reduceEqDiff, undef, t5, t10, t8, ix, s1] <;> rfl) ?_
      simp only [rngPost]
      exact ⟨by simp [upd_app, t45], by simp [upd_app, t44], fun _ _ _ => ⟨by simp [upd_app, t0], by simp [upd_app, t4], by simp [upd_app, t5], by simp [upd_app, t6], by simp [upd_app, t43], by simp [upd_app, t8, hc'], by rw [upd_self], fun q hq => by rw [upd_ne _ _ (by omega)]; exact ho q hq, hnn⟩⟩
    by_cases h0 : i = 0
    · have e0 : ((i : Int) == 0) = true := ieq_t (by omega)
      rw [if_pos (.inl h0)] at hsucc2
      refine w_assoc (s_run (by simp only [runL, awant_some, List.getElem?_toArray, List.getElem?_cons_succ, List.getElem?_cons_zero, Option.bind_some, b_tf, awant_none, astep, evl, put, ap_none, List.length_nil, Nat.add_zero, upd_app, stepBin, abin, stepPick, ↓reduceIte, Nat.reduceEqDiff, undef, t9, e0] <;> rfl) ?_)
      refine s_true (by simp [evl]) (s_run (by simp only [runL, awant_none, astep, evl, put, ap_none, List.length_nil, Nat.add_zero, upd_app, stepBin, abin, ↓reduceIte, Nat.reduceEqDiff, t8, w1] <;> rfl) ?_)
      exact done _ 0 (by simp [upd_app, t0]) (by simp [upd_app, t4]) (by simp [upd_app, t5]) (by simp [upd_app, t6]) (by simp [upd_app, t43]) (by simp [upd_app, t10]) (by simp [upd_app, t45]) (by simp [upd_app, t44]) (by simp [hsucc2])
    · have e0 : ((i : Int) == 0) = false := ieq_f (by omega)
      have w2 : IntKind.i64.wrap ((i : Int) - 1) = ((i - 1 : Nat) : Int) := wrap_sub1 (by omega) (by omega)
      have io2 := idxI Q mm (i - 1) mm (by omega)
      have lo2 := ldN (m := mm) (i := i - 1) og hol (by omega)
      have hy := smpL_lt (byt o (i - 1)) (hop.mem_iff.1 (by rw [byt_eq (by omega)]; exact List.getElem_mem _))
      obtain ⟨y, hyy⟩ : ∃ y, byt o (i - 1) = y := ⟨_, rfl⟩
      rw [hyy] at lo2 hy hsucc2
      have hal := alike_spec v s y x g' (by omega) (by omega) (by omega) hx38 ((show Kp n g2 g' from fun q hq => by rw [ho q (by omega), hkp q hq]).src hv2 hvd)
      refine w_assoc (s_take 10 (by simp only [runL, awant_some, List.getElem?_toArray, List.getElem?_cons_succ, List.getElem?_cons_zero, Option.bind_some, b_ff, List.take_succ_cons, List.take_zero, awant_none, astep, evl, put, ap_none, List.length_nil, Nat.add_zero, upd_app, stepBin, abin, reduceCtorEq, ↓reduceIte, Nat.reduceEqDiff, t0, t4, t9, t10, e0, w2, io2, lo2] <;> rfl) ?_)
      refine g_call 58 _ (by simp only [awant_some, List.getElem?_toArray, List.getElem?_cons_succ, List.getElem?_cons_zero, Option.bind_some, b_ff, upd_app, ↓reduceIte, Nat.reduceEqDiff] <;> rfl) rfl (by simp only [upd_app, evl, List.map_cons, List.map_nil]; exact hal) (by simp) ?_
      cases hb : alB s y x with
      | true =>
        rw [hb, if_neg (by simp [h0])] at hsucc2
        refine ops_run (by simp only [runL, awant_some, List.getElem?_toArray, List.getElem?_cons_succ, List.getElem?_cons_zero, Option.bind_some, b_ff, Bool.not_true, awant_none, astep, evl, put, ap_none, List.length_nil, Nat.add_zero, upd_app, stepUn, stepPick, ↓reduceIte, Nat.reduceEqDiff, Bool.false_eq_true] <;> rfl) ?_
        refine s_false (by simp [evl]) (s_skip ?_)
        exact done _ 0 (by simp [upd_app, t0]) (by simp [upd_app, t4]) (by simp [upd_app, t5]) (by simp [upd_app, t6]) (by simp [upd_app, t43]) (by simp [upd_app, t10]) (by simp [upd_app, t45]) (by simp [upd_app, t44]) (by simp [upd_app, hsucc2, t8])
      | false =>
        rw [hb, if_pos (.inr rfl)] at hsucc2
        refine ops_run (by simp only [runL, awant_some, List.getElem?_toArray, List.getElem?_cons_succ, List.getElem?_cons_zero, Option.bind_some, b_ff, Bool.not_false, awant_none, astep, evl, put, ap_none, List.length_nil, Nat.add_zero, upd_app, stepUn, stepPick, ↓reduceIte, Nat.reduceEqDiff, Bool.false_eq_true] <;> rfl) ?_
        refine s_true (by simp [evl]) (s_run (by simp only [runL, awant_none, astep, evl, put, ap_none, List.length_nil, Nat.add_zero, upd_app, stepBin, abin, ↓reduceIte, Nat.reduceEqDiff, t8, w1] <;> rfl) ?_)
        exact done _ 0 (by simp [upd_app, t0]) (by simp [upd_app, t4]) (by simp [upd_app, t5]) (by simp [upd_app, t6]) (by simp [upd_app, t43]) (by simp [upd_app, t10]) (by simp [upd_app, t45]) (by simp [upd_app, t44]) (by simp [hsucc2])
  clear t0 t1 t4 t6 r2 o2
  rintro t g' n' ⟨t0, t4, t5, t6, t43, t8, bR, ho, rfl⟩
  rw [← hol] at bR t8
  have hrl := rnRun_len s o o.length
  have hrn := rnRun_n s o o.length
  have og : g' Q = some ⟨false, 3, ints o⟩ := by rw [ho Q hQ2]; exact bQ
  have sg : g' n = some ⟨false, 3, ints (smpL s.length)⟩ := by rw [ho n (by omega)]; exact bn
  have kg : Kp n g2 g' := fun q hq => by rw [ho q (by omega), hkp q hq]
  by_cases hc : (rnRun s o o.length).2 = o.length
  · have e : (((rnRun s o o.length).2 : Int) == (mm : Int)) = true := ieq_t (by omega)
    rw [if_pos hc] at hrkd
    refine w_assoc (s_run (by simp only [runL, awant_none, astep, evl, put, ap_none, List.length_nil, Nat.add_zero, upd_app, stepBin, abin, stepCall, ↓reduceIte, Nat.reduceEqDiff, t8, t6, lenI, e] <;> rfl) ?_)
    refine s_true (by simp [evl]) (w_assoc (s_run (by simp only [runL, awant_none, astep, evl, put, ap_none, List.length_nil, Nat.add_zero, upd_app, ↓reduceIte, Nat.reduceEqDiff, t4, t5] <;> rfl) ?_))
    refine s_ret ?_
    rw [hrkd]
    exact twE_fin (k0 := Q) (k1 := N) (la := mm) (lb := s.length + 3) rfl (by simp [upd_app]) hol.symm (by simp []) hrl.symm (by omega) (by omega) (by omega) og bR hs hwf kg
  · have e : (((rnRun s o o.length).2 : Int) == (mm : Int)) = false := ieq_f (by omega)
    rw [if_neg hc] at hrkd
    obtain ⟨h3, h4, h5, h6⟩ := hrec hc
    refine w_assoc (s_run (by simp only [runL, awant_none, astep, evl, put, ap_none, List.length_nil, Nat.add_zero, upd_app, stepBin, abin, stepCall, ↓reduceIte, Nat.reduceEqDiff, t8, t6, lenI, e] <;> rfl) ?_)
    refine s_false (by simp [evl]) (s_skip ?_)
    rw [hrkd]
    exact ranked_tail (S := n) (R := N) h2 hl hrl (by omega) h3 h4 h5 h6 hv2 hvd hs hwf (by simp [upd_app, t0]) (by simp [upd_app, t5]) (by simp [upd_app, t6, hmm]) (by simp [upd_app, t8]) sg bR kg ⟨Nat.le_refl _, by omega⟩ ⟨by omega, by omega⟩ (by omega)
end Go.Proofs.Ytdpkhijbikbhnaa
