import Derived.Test.YtdpkhijbikbhnaaT38
namespace Go.Proofs.Ytdpkhijbikbhnaa
open Go Abs Plain
set_option linter.unusedSimpArgs false
set_option linter.unusedVariables false

section
variable {s2 : Nat → Prop} {g2 g' : Heap} {n : Nat} {v' : Value}
/-- Two new blocks and a written one, of plain cells. -/
theorem fin_n2w {v : Value} {r : List Nat} {j k0 k1 p : Nat} {b0 b1 b : Blk} (hv : v' = renT (fun i => if i = j then k0 else if i = j + 1 then k1 else i) v) (hsv : SVT (fun i => s2 i ∨ (j ≤ i ∧ i < j + 2)) v) (hk0 : n ≤ k0) (hk1 : n ≤ k1) (hne : k0 ≠ k1)
    (h0 : g' k0 = some b0) (h1 : g' k1 = some b1) (hp0 : ∀ c ∈ b0.cells, plain c = true) (hp1 : ∀ c ∈ b1.cells, plain c = true) (hdom : (g2 p).isSome = true) (hw : g' p = some b) (hpb : ∀ c ∈ b.cells, plain c = true)
    (hold : ∀ i b, i ≠ p → g2 i = some b → g' i = some b) : Abs.Fin { v := v, r := r, w := [(p, b)], j := j, a := [b0, b1] } [k0, k1] s2 g2 n g' v' := by
  have hsig : (sig ({ v := v, r := r, w := [(p, b)], j := j, a := [b0, b1] } : Eff) [k0, k1]) = fun i => if i = j then k0 else if i = j + 1 then k1 else i := by
    funext i
    unfold sig
    by_cases e0 : i = j
    · subst e0; simp
    · by_cases e1 : i = j + 1
      · subst e1; simp
      · rw [if_neg e0, if_neg e1]
        show (if j ≤ i then _ else i) = i
        split
        · rw [List.getElem?_eq_none (by simp; omega)]; rfl
        · rfl
  refine ⟨rfl, by simp [hk0, hk1], by simpa using hne, by rw [hsig]; exact hv, fun m c hm => ?_, fun i hi => ?_, fun i hi => ?_, fun i c hi hc => hold i c ?_ hc, hsv, fun c hc x hx => ?_, fun q hq x hx => ?_⟩
  · rw [hsig]
    rcases m with _ | _ | m
    · simp at hm; subst hm; exact ⟨k0, rfl, by rw [renB_plain hp0]; exact h0⟩
    · simp at hm; subst hm; exact ⟨k1, rfl, by rw [renB_plain hp1]; exact h1⟩
    · simp at hm
  · simp at hi; subst hi
    exact ⟨b, by simp [setAll], by rw [hsig, renB_plain hpb]; exact hw⟩
  · simp at hi; subst hi; exact hdom
  · simpa using hi
  · simp at hc
    rcases hc with rfl | rfl
    · exact SV1_plain (hp0 x hx)
    · exact SV1_plain (hp1 x hx)
  · simp at hq; subst hq; exact SV1_plain (hpb x hx)
end

theorem idxF0 (a b c : Value) : stepIdx Try.prog 89 (.agg #[a, b, c]) (.int .i64 ((0 : Nat) : Int)) = some { v := a } := by simp [stepIdx, tsizeF, aggF]
theorem idxF1 (a b c : Value) : stepIdx Try.prog 89 (.agg #[a, b, c]) (.int .i64 ((1 : Nat) : Int)) = some { v := b } := by simp [stepIdx, tsizeF, aggF]
theorem idxF2 (a b c : Value) : stepIdx Try.prog 89 (.agg #[a, b, c]) (.int .i64 ((2 : Nat) : Int)) = some { v := c } := by simp [stepIdx, tsizeF, aggF]

def incL (l : List Int) : Nat → List Int
  | 0 => l
  | k + 1 => (incL l k).set k (IntKind.i64.wrap ((incL l k)[k]?.getD 0 + 1))
theorem incL_len (l : List Int) : ∀ k, (incL l k).length = l.length
  | 0 => rfl
  | k + 1 => by simp [incL, incL_len l k]
abbrev slB (b m : Nat) : Value := .slice (some ⟨b, 0, some m⟩) m 1
def arrC (n m : Nat) : Nat → List Value
  | 0 => [.slice none 0 0, .slice none 0 0, .slice none 0 0]
  | 1 => [slB (n + 2) m, .slice none 0 0, .slice none 0 0]
  | 2 => [slB (n + 2) m, slB (n + 3) m, .slice none 0 0]
  | _ => [slB (n + 2) m, slB (n + 3) m, slB (n + 4) m]
theorem arrC_len (n m k : Nat) : (arrC n m k).length = 3 := by
  rcases k with _ | _ | _ | k <;> rfl
theorem arrC_set {n m k : Nat} (h : k < 3) : (arrC n m k).set k (slB (n + 2 + k) m) = arrC n m (k + 1) := by
  rcases k with _ | _ | _ | k
  · rfl
  · rfl
  · rfl
  · omega
/-- What all three come to. -/
def runE (X : Nat) (l : List Int) (A h : List Nat) (r : List Nat) (j : Nat) : Eff := { v := .tuple #[.agg #[slB j A.length, slB (j + 1) h.length, .bool true], .int .i64 0], r := X :: r, w := [(X, ⟨false, 64, intsI l⟩)], j := j, a := [⟨false, 3, ints A⟩, ⟨false, 3, ints h⟩] }
theorem runE_ap (X : Nat) (l : List Int) (A h : List Nat) (r : List Nat) (j : Nat) (g : Heap) : (runE X l A h r j).ap g = upd (upd (upd g X (some ⟨false, 64, intsI l⟩)) j (some ⟨false, 3, ints A⟩)) (j + 1) (some ⟨false, 3, ints h⟩) := rfl
theorem mkV (a b : Nat) (m m' : Nat) : stepBuild Try.prog 45 [(0, slB a m), (1, slB b m'), (2, .bool true)] = some { v := .agg #[slB a m, slB b m', .bool true] } := by
  simp [stepBuild, binfV, fillL, Value.cells, isTup, putAll]
theorem allocA (j : Nat) : stepAlloc Try.prog 65 j = some { v := .pointer (some ⟨j, 0, some 3⟩), j := j, a := [⟨false, 65, [.slice none 0 0, .slice none 0 0, .slice none 0 0]⟩] } := by simp [stepAlloc, tinfA]
theorem allocV (j : Nat) : stepAlloc Try.prog 45 j = some { v := .pointer (some ⟨j, 0, some 3⟩), j := j, a := [⟨false, 45, [.slice none 0 0, .slice none 0 0, .bool false]⟩] } := by simp [stepAlloc, tinfV]
theorem storeV (n : Nat) (a b c x y z : Value) (g : Heap) (h : g n = some ⟨false, 45, [x, y, z]⟩) : stepStore Try.prog 45 (.pointer (some ⟨n, 0, some 3⟩)) (.agg #[a, b, c]) g = some { v := undef, r := [n], w := [(n, ⟨false, 45, [a, b, c]⟩)] } := by
  simp [stepStore, rd, h, isTup, tsizeV, Value.cells, putAll]
theorem loadV (n : Nat) (a b c : Value) (g : Heap) (h : g n = some ⟨false, 45, [a, b, c]⟩) : stepLoad Try.prog 45 (.pointer (some ⟨n, 0, some 3⟩)) g = some { v := .agg #[a, b, c], r := [n] } := by
  simp [stepLoad, rd, h, aggV, tsizeV]

set_option maxRecDepth 40000 in
set_option maxHeartbeats 2000000 in
theorem run_spec (X : Nat) (l : List Int) (v : Value) (s A : List Nat) (g : Heap) (jj : Nat) (hl : s.length ≤ 100000) (hl3 : l.length = 3) (hS : SA s A) (hXv : ∀ i ∈ srcBlk v, i ≠ X)
    (hs0 : ∀ (g : Heap) (j : Nat), Src g v 1 s.length (bs s) → FnSpec Try.prog 11 [v] g (ieE A (srcBlk v) j))
    (hs1 : ∀ (g : Heap) (j : Nat), Src g v 1 s.length (bs s) → FnSpec Try.prog 62 [v] g (ieE A (srcBlk v) j))
    (hs2 : ∀ (g : Heap) (j : Nat), Src g v 1 s.length (bs s) → FnSpec Try.prog 63 [v] g (ieE A (srcBlk v) j))
    (hX : g X = some ⟨false, 64, intsI l⟩) (hv : Src g v 1 s.length (bs s)) :
    FnSpec Try.prog 24 [.pointer (some ⟨X, 0, some 3⟩), v] g (runE X (incL l 3) A (lcpL s A) (srcBlk v) jj) := by
  refine spec_of_bodyC 4 5 45 follows Try.func24 rfl (by kernel_rfl) (by simp [Try.f24]) (by kernel_rfl) rfl ?_
  intro g2 s2 n hg hfr hs hn hwf hsv
  have hv2 : Src g2 v 1 s.length (bs s) := hv.congr fun i hi => hg i (by simp [Eff.fp, runE, hi])
  have hX2 : g2 X = some ⟨false, 64, intsI l⟩ := by rw [hg X (by simp [Eff.fp, runE])]; exact hX
  have hXd : X < n := hs X (hwf X _ hX2).1
  have hvd := dom_of hs hwf hv2
  clear hg hfr hn hv hX
  obtain ⟨m, hm⟩ : ∃ m, A.length = m := ⟨_, rfl⟩
  have hsm : s.length = m := by rw [← hm]; exact hS.len.symm
  have hlcl : (lcpL s A).length = m := by rw [lcpL_len, hm]
  have hAu : A = ordL s s.length := hS.uniq (ordL_SA s)
  have hsaB : saB s (zs A) = true := by rw [saB_iff, ← hAu]; simp
  have hlcB : lcpB s (zs A) = some (zs (lcpL s A)) := by rw [lcpB_of hsaB, nats_zs]
  have hok : lcpOK s (zs A) (zs (lcpL s A)) = true := by unfold lcpOK; rw [hsaB, nats_zs]; simp
  have hzA : (zs A).length = m := by simp [zs, hm]
  have hzL : (zs (lcpL s A)).length = m := by simp [zs, hlcl]
  refine s_run (by simp only [runL, awant_none, astep, evl, put, ap_none, ap_new, List.length_nil, List.length_cons, Nat.add_zero, Nat.zero_add, undef, allocV] <;> rfl) (w_heap fun G0 hG0 => ?_)
  have v0 : G0 n = some ⟨false, 45, [.slice none 0 0, .slice none 0 0, .bool false]⟩ := by rw [hG0, upd_self]
  have o0 : Kp n g2 G0 := by rw [hG0]; exact kp_upd (Kp.refl _ _) (Nat.le_refl _)
  clear hG0
  refine s_run (by simp only [runL, awant_none, astep, put, ap_new, List.length_nil, List.length_cons, Nat.zero_add, allocA] <;> rfl) (w_heap fun G1 hG1 => ?_)
  have a1 : G1 (n + 1) = some ⟨false, 65, arrC n m 0⟩ := by rw [hG1, upd_self]; rfl
  have v1 : G1 n = some ⟨false, 45, [.slice none 0 0, .slice none 0 0, .bool false]⟩ := by rw [hG1, upd_ne _ _ (by omega)]; exact v0
  have o1 : Kp n g2 G1 := by rw [hG1]; exact kp_upd o0 (by omega)
  clear hG1 v0 o0
  have x1 : G1 X = some ⟨false, 64, intsI (incL l 0)⟩ := by rw [o1 X hXd]; exact hX2
  refine w_assoc (s_run (by simp only [runL, awant_none, astep, evl, put, ap_none, List.length_nil, Nat.add_zero] <;> rfl) ?_)
  refine s_rngc 3 rfl (fun k t g n' => t 0 = .pointer (some ⟨X, 0, some 3⟩) ∧ t 1 = v ∧ t 4 = .pointer (some ⟨n, 0, some 3⟩) ∧ t 6 = .pointer (some ⟨n + 1, 0, some 3⟩) ∧ n' = n + 2 + k ∧ g n = some ⟨false, 45, [.slice none 0 0, .slice none 0 0, .bool false]⟩ ∧ g (n + 1) = some ⟨false, 65, arrC n m k⟩ ∧ g X = some ⟨false, 64, intsI (incL l k)⟩ ∧ (∀ i, i < k → g (n + 2 + i) = some ⟨false, 3, ints A⟩) ∧ ∀ q, q < n → q ≠ X → g q = g2 q) (by omega) (by simp [])
    (fun _ => ⟨by simp [upd_app], by simp [upd_app], by simp [upd_app], by simp [upd_app], rfl, v1, a1, x1, fun i hi => by omega, fun q hq _ => o1 q hq⟩) (by decide) ?_ ?_
  · clear v1 a1 x1 o1
    rintro k t g n' hk t15 ⟨t0, t1, t4, t6, rfl, vg, ag, xg, bg, og⟩
    have hvg : Src g v 1 s.length (bs s) := hv2.congr fun q hq => og q (hvd q hq) (hXv q hq)
    obtain ⟨K, hK, hKs⟩ : ∃ K, stepIdx Try.prog 89 (.agg #[.func (.func 11) #[] #[], .func (.func 62) #[] #[], .func (.func 63) #[] #[]]) (.int .i64 (k : Int)) = some { v := .func (.func K) #[] #[] } ∧ ∀ (g : Heap) (j : Nat), Src g v 1 s.length (bs s) → FnSpec Try.prog K [v] g (ieE A (srcBlk v) j) := by
      rcases k with _ | _ | _ | k
      · exact ⟨_, idxF0 _ _ _, hs0⟩
      · exact ⟨_, idxF1 _ _ _, hs1⟩
      · exact ⟨_, idxF2 _ _ _, hs2⟩
      · omega
    have hso := csort_spec K X k (incL l k) v s A g (n + 2 + k) hk (by rw [incL_len, hl3]) hK hKs xg hvg
    refine s_run (by simp only [runL, awant_none, astep, evl, put, ap_none, List.length_nil, Nat.add_zero, upd_app, ↓reduceIte, t15] <;> rfl) ?_
    refine s_take 3 (by simp only [runL, List.take_succ_cons, List.take_zero, awant_none, astep, evl, put, ap_none, List.length_nil, Nat.add_zero, upd_app, reduceCtorEq, ↓reduceIte, Nat.reduceEqDiff, t0, t1] <;> rfl) ?_
    refine ops_call 42 _ rfl (by simp only [upd_app, evl, List.map_cons, List.map_nil]; exact hso) (fun _ => rfl) ?_
    refine ops_heap fun G2 hG2 => ?_
    rw [soE_ap] at hG2
    have b2 : G2 (n + 2 + k) = some ⟨false, 3, ints A⟩ := by rw [hG2, upd_self]
    have x2 : G2 X = some ⟨false, 64, intsI (incL l (k + 1))⟩ := by rw [hG2, upd_ne _ _ (by omega), upd_self]; rfl
    have p2 : ∀ q, q < n + 2 + k → q ≠ X → G2 q = g q := fun q h1 h2 => by rw [hG2, upd_ne _ _ (by omega), upd_ne _ _ h2]
    clear hG2 hso
    refine ops_run (by simp only [runL, List.getElem?_toArray, List.getElem?_cons_succ, List.getElem?_cons_zero, awant_none, astep, evl, put, ap_none, List.length_nil, List.length_cons, Nat.add_zero, Nat.zero_add, upd_app, stepExtract, ↓reduceIte, Nat.reduceEqDiff, soE, hm] <;> rfl) ?_
    refine w_gen (fun t => t 0 = .pointer (some ⟨X, 0, some 3⟩) ∧ t 1 = v ∧ t 4 = .pointer (some ⟨n, 0, some 3⟩) ∧ t 6 = .pointer (some ⟨n + 1, 0, some 3⟩) ∧ t 7 = .int .i64 k ∧ t 8 = slB (n + 2 + k) m ∧ t 9 = .int .i64 0 ∧ t 15 = .int .i64 k) (by simp [upd_app, t0, t1, t4, t6, t15]) ?_
    clear t0 t1 t4 t6 t15
    rintro t ⟨t0, t1, t4, t6, t7, t8, t9, t15⟩
    show awp _ _ _ _ G2 (n + 2 + k + 1)
    have e0 : ((0 : Int) != 0) = false := rfl
    have a2 : G2 (n + 1) = some ⟨false, 65, arrC n m k⟩ := by rw [p2 _ (by omega) (by omega)]; exact ag
    have s1 := st_at (P := Try.prog) (T := 22) (i := k) (c := slB (n + 2 + k) m) (d := undef) (s := some 3) a2 (by rw [arrC_len]) (by rw [arrC_len]; exact hk) tsizeI rfl rfl
    rw [arrC_set hk] at s1
    refine w_assoc (s_run (by simp only [runL, awant_none, astep, evl, put, ap_none, List.length_nil, Nat.add_zero, upd_app, stepBin, abin, ↓reduceIte, t9, e0] <;> rfl) ?_)
    refine s_false (by simp [evl]) (s_skip ?_)
    refine region_run (id := 8) (by simp only [runL, awant_none, astep, evl, put, ap_none, ap_wr, List.length_nil, Nat.add_zero, upd_app, ↓reduceIte, Nat.reduceEqDiff, undef, t6, t7, t8, idxA (n + 1) k (some 3) hk, s1] <;> rfl) ?_
    simp only [rngPost]
    refine ⟨by simp [upd_app, t15], fun _ _ _ => ⟨by simp [upd_app, t0], by simp [upd_app, t1], by simp [upd_app, t4], by simp [upd_app, t6], by omega, ?_, by rw [upd_self], ?_, fun i hi => ?_, fun q hq hqX => ?_⟩⟩
    · rw [upd_ne _ _ (by omega), p2 _ (by omega) (by omega)]; exact vg
    · rw [upd_ne _ _ (by omega)]; exact x2
    · rw [upd_ne _ _ (by omega)]
      by_cases e : i = k
      · subst e; exact b2
      · rw [p2 _ (by omega) (by omega)]; exact bg i (by omega)
    · rw [upd_ne _ _ (by omega), p2 _ (by omega) hqX]; exact og q hq hqX
  clear v1 a1 x1 o1 hs0 hs1 hs2
  rintro t g n' ⟨t0, t1, t4, t6, rfl, vg, ag, xg, bg, og⟩
  have hvg : Src g v 1 s.length (bs s) := hv2.congr fun q hq => og q (hvd q hq) (hXv q hq)
  have b0 : g (n + 2) = some ⟨false, 3, ints A⟩ := bg 0 (by omega)
  have b1 : g (n + 3) = some ⟨false, 3, ints A⟩ := bg 1 (by omega)
  have b2 : g (n + 4) = some ⟨false, 3, ints A⟩ := bg 2 (by omega)
  clear bg
  have ldA : ∀ (G : Heap) (i : Nat) (c : Value), G (n + 1) = some ⟨false, 65, arrC n m 3⟩ → (arrC n m 3)[i]? = some c → stepLoad Try.prog 22 (.pointer (some ⟨n + 1, i, some 3⟩)) G = some { v := c, r := [n + 1] } := fun G i c h hc => ld_at h rfl hc aggTI
  have srA : ∀ (G : Heap) (b : Nat), G b = some ⟨false, 3, ints A⟩ → Src G (slB b m) 1 (zs A).length (intsI (zs A)) := fun G b h => by rw [hzA, ← ints_zs]; exact src_cells h (by simp [hm])
  have srL : ∀ (G : Heap) (b : Nat), G b = some ⟨false, 3, ints (lcpL s A)⟩ → Src G (slB b m) 1 (zs (lcpL s A)).length (intsI (zs (lcpL s A))) := fun G b h => by rw [hzL, ← ints_zs]; exact src_cells h (by simp [hlcl])
  have x0 := idxA (n + 1) 0 (some 3) (by omega)
  have xx1 := idxA (n + 1) 1 (some 3) (by omega)
  have xx2 := idxA (n + 1) 2 (some 3) (by omega)
  rw [show ((0 : Nat) : Int) = 0 from rfl] at x0
  rw [show ((1 : Nat) : Int) = 1 from rfl] at xx1
  rw [show ((2 : Nat) : Int) = 2 from rfl] at xx2
  have l0 := ldA g 0 _ ag rfl
  have hlc := lcp_spec v (slB (n + 2) m) s (zs A) g (n + 2 + 3) (by omega) (by omega) hvg (srA g _ b0)
  rw [hlcB] at hlc
  refine s_take 3 (by simp only [runL, List.take_succ_cons, List.take_zero, awant_none, astep, evl, put, ap_none, List.length_nil, Nat.add_zero, upd_app, ↓reduceIte, Nat.reduceEqDiff, t1, t6, x0, l0] <;> rfl) ?_
  refine ops_call 12 _ rfl (by simp only [upd_app, evl, List.map_cons, List.map_nil]; exact hlc) (fun _ => rfl) ?_
  refine ops_heap fun G2 hG2 => ?_
  have c2 : G2 (n + 5) = some ⟨false, 3, ints (lcpL s A)⟩ := by rw [hG2, ints_zs]; simp [okE, ap_new]
  have p2 : ∀ q, q < n + 5 → G2 q = g q := fun q hq => by rw [hG2]; simp only [okE, ap_new]; rw [upd_ne _ _ (by omega)]
  clear hG2 hlc
  refine ops_run (by simp only [runL, List.getElem?_toArray, List.getElem?_cons_succ, List.getElem?_cons_zero, awant_none, astep, evl, put, ap_none, List.length_nil, List.length_cons, Nat.add_zero, Nat.zero_add, upd_app, stepExtract, ↓reduceIte, Nat.reduceEqDiff, okE, hzL] <;> rfl) ?_
  refine w_gen (fun t => t 1 = v ∧ t 4 = .pointer (some ⟨n, 0, some 3⟩) ∧ t 6 = .pointer (some ⟨n + 1, 0, some 3⟩) ∧ t 10 = slB (n + 5) m) (by simp [upd_app, t1, t4, t6]) ?_
  clear t0 t1 t4 t6
  rintro t ⟨t1, t4, t6, t10⟩
  show awp _ _ _ _ G2 (n + 6)
  have a2 : G2 (n + 1) = some ⟨false, 65, arrC n m 3⟩ := by rw [p2 _ (by omega)]; exact ag
  have hvg2 : Src G2 v 1 s.length (bs s) := hvg.congr fun q hq => p2 q (by have := hvd q hq; omega)
  have l0 := ldA G2 0 _ a2 rfl
  have hph := philcp_spec v (slB (n + 2) m) s A G2 (n + 6) hS (by omega) hvg2 (by rw [hm]; exact src_cells (by rw [p2 _ (by omega)]; exact b0) (by simp [hm]))
  refine s_take 3 (by simp only [runL, List.take_succ_cons, List.take_zero, awant_none, astep, evl, put, ap_none, List.length_nil, Nat.add_zero, upd_app, ↓reduceIte, Nat.reduceEqDiff, t1, t6, x0, l0] <;> rfl) ?_
  refine ops_call 13 _ rfl (by simp only [upd_app, evl, List.map_cons, List.map_nil]; exact hph) (fun _ => rfl) ?_
  refine ops_heap fun G3 hG3 => ?_
  have d3 : G3 (n + 6) = some ⟨false, 3, ints (lcpL s A)⟩ := by rw [hG3, ints_zs]; simp [okE, ap_new]
  have p3' : ∀ q, q < n + 6 → G3 q = G2 q := fun q hq => by rw [hG3]; simp only [okE, ap_new]; rw [upd_ne _ _ (by omega)]
  clear hG3 hph
  refine ops_run (by simp only [runL, List.getElem?_toArray, List.getElem?_cons_succ, List.getElem?_cons_zero, awant_none, astep, evl, put, ap_none, List.length_nil, List.length_cons, Nat.add_zero, Nat.zero_add, upd_app, stepExtract, ↓reduceIte, Nat.reduceEqDiff, okE, hzL] <;> rfl) ?_
  refine w_gen (fun t => t 1 = v ∧ t 4 = .pointer (some ⟨n, 0, some 3⟩) ∧ t 6 = .pointer (some ⟨n + 1, 0, some 3⟩) ∧ t 10 = slB (n + 5) m ∧ t 12 = slB (n + 6) m) (by simp [upd_app, t1, t4, t6, t10]) ?_
  clear t1 t4 t6 t10
  rintro t ⟨t1, t4, t6, t10, t12⟩
  show awp _ _ _ _ G3 (n + 7)
  have p3 : ∀ q, q < n + 5 → G3 q = g q := fun q hq => by rw [p3' q (by omega), p2 q hq]
  have c3 : G3 (n + 5) = some ⟨false, 3, ints (lcpL s A)⟩ := by rw [p3' _ (by omega)]; exact c2
  clear p3' p2 c2 a2 hvg2
  have a3 : G3 (n + 1) = some ⟨false, 65, arrC n m 3⟩ := by rw [p3 _ (by omega)]; exact ag
  have v3 : G3 n = some ⟨false, 45, [.slice none 0 0, .slice none 0 0, .bool false]⟩ := by rw [p3 _ (by omega)]; exact vg
  have hvg3 : Src G3 v 1 s.length (bs s) := hvg.congr fun q hq => p3 q (by have := hvd q hq; omega)
  have B0 : G3 (n + 2) = some ⟨false, 3, ints A⟩ := by rw [p3 _ (by omega)]; exact b0
  have B1 : G3 (n + 3) = some ⟨false, 3, ints A⟩ := by rw [p3 _ (by omega)]; exact b1
  have B2 : G3 (n + 4) = some ⟨false, 3, ints A⟩ := by rw [p3 _ (by omega)]; exact b2
  have m0 := ldA G3 0 _ a3 rfl
  have m1 := ldA G3 1 _ a3 rfl
  have m2 := ldA G3 2 _ a3 rfl
  have q1 := equal_spec (slB (n + 2) m) (slB (n + 3) m) (zs A) (zs A) G3 (by omega) (by omega) (srA G3 _ B0) (srA G3 _ B1)
  have q2 := equal_spec (slB (n + 2) m) (slB (n + 4) m) (zs A) (zs A) G3 (by omega) (by omega) (srA G3 _ B0) (srA G3 _ B2)
  have q3 := equal_spec (slB (n + 5) m) (slB (n + 6) m) (zs (lcpL s A)) (zs (lcpL s A)) G3 (by omega) (by omega) (srL G3 _ c3) (srL G3 _ d3)
  rw [decide_eq_true rfl] at q1 q2 q3
  refine s_take 4 (by simp only [runL, List.take_succ_cons, List.take_zero, awant_none, astep, evl, put, ap_none, List.length_nil, Nat.add_zero, upd_app, ↓reduceIte, Nat.reduceEqDiff, t6, x0, m0, xx1, m1] <;> rfl) ?_
  refine ops_call 30 _ rfl (by simp only [upd_app, evl, List.map_cons, List.map_nil]; exact q1) (fun h => (h rfl).elim) ?_
  refine ops_take 5 (by simp only [runL, awant_some, List.getElem?_toArray, List.getElem?_cons_succ, List.getElem?_cons_zero, Option.bind_some, b_tt, List.take_succ_cons, List.take_zero, awant_none, astep, evl, put, ap_none, List.length_nil, Nat.add_zero, upd_app, ↓reduceIte, Nat.reduceEqDiff, t6, x0, m0, xx2, m2] <;> rfl) ?_
  refine g_call 30 _ (by simp only [awant_some, List.getElem?_toArray, List.getElem?_cons_succ, List.getElem?_cons_zero, Option.bind_some, b_tt, upd_app, ↓reduceIte, Nat.reduceEqDiff] <;> rfl) rfl (by simp only [upd_app, evl, List.map_cons, List.map_nil]; exact q2) (fun h => (h rfl).elim) ?_
  refine ops_take 4 (by simp only [runL, awant_some, List.getElem?_toArray, List.getElem?_cons_succ, List.getElem?_cons_zero, Option.bind_some, b_tt, List.take_succ_cons, List.take_zero, awant_none, astep, evl, put, ap_none, List.length_nil, Nat.add_zero, upd_app, stepPick, ↓reduceIte, Nat.reduceEqDiff, t10, t12] <;> rfl) ?_
  refine g_call 30 _ (by simp only [awant_some, List.getElem?_toArray, List.getElem?_cons_succ, List.getElem?_cons_zero, Option.bind_some, b_tt, upd_app, ↓reduceIte, Nat.reduceEqDiff] <;> rfl) rfl (by simp only [upd_app, evl, List.map_cons, List.map_nil]; exact q3) (fun h => (h rfl).elim) ?_
  refine ops_run (by simp only [runL, awant_none, astep, evl, put, ap_none, List.length_nil, Nat.add_zero, upd_app, stepPick, ↓reduceIte, Nat.reduceEqDiff] <;> rfl) ?_
  refine w_gen (fun t => t 1 = v ∧ t 4 = .pointer (some ⟨n, 0, some 3⟩) ∧ t 6 = .pointer (some ⟨n + 1, 0, some 3⟩) ∧ t 10 = slB (n + 5) m ∧ t 14 = .bool true) (by simp [upd_app, t1, t4, t6, t10]) ?_
  clear t1 t4 t6 t10 t12 q1 q2 q3
  rintro t ⟨t1, t4, t6, t10, t14⟩
  show awp _ _ _ _ G3 (n + 7)
  have hcl := clcp_spec v (slB (n + 2) m) (slB (n + 5) m) s (zs A) (zs (lcpL s A)) G3 (by omega) (by omega) (by omega) hvg3 (srA G3 _ B0) (srL G3 _ c3)
  rw [hok] at hcl
  have sv := storeV n (slB (n + 2) m) (slB (n + 5) m) (.bool true) _ _ _ G3 v3
  refine s_drawn #[0, 1, 0, 0, 8, 24, 24, 88, 24, 504, 1016, 2047, 4095, 8191] (by decide +kernel) ?_
  refine d_readsB 9 (by simp) (by simp only [runR, awant_some, List.getElem?_toArray, List.getElem?_cons_succ, List.getElem?_cons_zero, Option.bind_some, b_tt, List.take_succ_cons, List.take_zero, awant_none, astep, evl, put, upd_app, ↓reduceIte, Nat.reduceEqDiff, List.isEmpty_nil, Bool.and_self, t1, t6, t10, t14, x0, m0] <;> rfl) fun acc1 h1 => ?_
  refine d_call 16 _ rfl rfl rfl (by simp only [awant_some, List.getElem?_toArray, List.getElem?_cons_succ, List.getElem?_cons_zero, Option.bind_some, b_tt, upd_app, ↓reduceIte, Nat.reduceEqDiff] <;> rfl) (by simp only [upd_app, evl, List.map_cons, List.map_nil]; exact hcl) (fun h => (h rfl).elim) (fun p hp => .inr ⟨by rw [(h1 p hp).2]; simp, by simp [Eff.wr]⟩) ?_
  refine d_readsB 2 (fun p hp => ?_) (by simp only [runR, List.take_succ_cons, List.take_zero, awant_none, astep, evl, put, ap_none, List.length_nil, Nat.add_zero, upd_app, stepPick, ↓reduceIte, Nat.reduceEqDiff, List.map_cons, List.map_nil, undef, List.isEmpty_nil, Bool.and_self, mkV] <;> rfl) fun acc2 h2 => ?_
  · rcases List.mem_cons.1 hp with rfl | hp
    · exact ⟨Nat.lt_succ_self _, by simp [Eff.wr]⟩
    · have := h1 p hp
      exact ⟨by omega, this.2⟩
  refine d_step _ (by simp only [astep, evl, upd_app, ↓reduceIte, Nat.reduceEqDiff, undef, t4, sv] <;> rfl) rfl (fun p hp => .inl ?_) ?_
  · exact full_bit (k := 12) (h2 p hp).1
  refine d_pure 1 (by simp only [runP, List.take_succ_cons, List.take_zero, awant_none, astep, evl, put, ap_wr, List.length_nil, Nat.add_zero, ↓reduceIte, List.isEmpty_nil, Bool.and_self] <;> rfl) ?_
  refine w_ret ⟨.inr rfl, { v := .agg #[slB (n + 2) m, slB (n + 5) m, .bool true], r := [n] }, ?_, rfl, by simp [isTup], [n + 2, n + 5], ?_⟩
  · simp only [upd_app, Nat.reduceEqDiff, ↓reduceIte, t4]
    exact loadV n _ _ _ _ (by simp)
  · refine fin_n2w (b0 := ⟨false, 3, ints A⟩) (b1 := ⟨false, 3, ints (lcpL s A)⟩) (b := ⟨false, 64, intsI (incL l 3)⟩) ?_ ?_ (by omega) (by omega) (by omega) ?_ ?_ (plain_is _) (plain_is _) (by rw [hX2]; rfl) ?_ plain_intsI (fun i b hi hb => ?_)
    · simp [renT, renA, ren1, hm, hlcl]
    · intro c hc
      simp at hc
      rcases hc with rfl | rfl
      · intro x hx
        simp at hx
        rcases hx with rfl | rfl | rfl
        · exact .inr (.inr ⟨Nat.le_refl _, Nat.lt_add_of_pos_right (by decide)⟩)
        · exact .inr (.inr ⟨Nat.le_succ _, Nat.lt_succ_self _⟩)
        · trivial
      · trivial
    · show upd G3 n _ (n + 2) = _
      rw [upd_ne _ _ (by omega)]; exact B0
    · show upd G3 n _ (n + 5) = _
      rw [upd_ne _ _ (by omega)]; exact c3
    · show upd G3 n _ X = _
      rw [upd_ne _ _ (by omega), p3 X (by omega)]; exact xg
    · show upd G3 n _ i = _
      have := hs i (hwf i b hb).1
      rw [upd_ne _ _ (by omega), p3 i (by omega), og i this hi]; exact hb
end Go.Proofs.Ytdpkhijbikbhnaa
