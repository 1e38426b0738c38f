import Derived.Test.YtdpkhijbikbhnaaT33
namespace Go.Proofs.Ytdpkhijbikbhnaa
open Go Abs Plain
set_option linter.unusedSimpArgs false
set_option linter.unusedVariables false

/-- The sample's ranks, a nought between the two kinds. -/
def belL (m : Nat) (r : List Nat) : List Nat := (plM m 1).map (byt r) ++ [0] ++ (plM m 2).map (byt r)
theorem belL_len (m : Nat) (r : List Nat) : (belL m r).length = plN m 1 + 1 + plN m 2 := by simp [belL, plM_len]; omega
/-- The place of the sample behind a place of those ranks. -/
def bk1 (m i : Nat) : List Nat := if i < plN m 1 then [byt (plM m 1) i] else if plN m 1 < i then [byt (smpL m) (i - 1)] else []
def bkM (m : Nat) (l : List Nat) : List Nat := l.flatMap (bk1 m)
theorem bkM_take {m : Nat} {l : List Nat} {i : Nat} (h : i < l.length) : bkM m (l.take (i + 1)) = bkM m (l.take i) ++ bk1 m (byt l i) := by
  rw [take_byt h, bkM, List.flatMap_append]; simp [bkM]
theorem bkM_len_le (m : Nat) : ∀ l : List Nat, (bkM m l).length ≤ l.length
  | [] => by simp [bkM]
  | x :: l => by
    have := bkM_len_le m l
    have h1 : (bk1 m x).length ≤ 1 := by unfold bk1; split; · simp
                                         · split <;> simp
    have h2 : bkM m (x :: l) = bk1 m x ++ bkM m l := by simp [bkM]
    rw [h2, List.length_append]; simp; omega
theorem bkM_sub {m : Nat} {l : List Nat} (hl : ∀ x ∈ l, x < plN m 1 + 1 + plN m 2) : ∀ y ∈ bkM m l, y ∈ smpL m := fun y hy => by
  obtain ⟨x, hx, hy⟩ := List.mem_flatMap.1 hy
  have hx := hl x hx
  unfold bk1 at hy
  split at hy
  · rename_i h
    obtain rfl := List.mem_singleton.1 hy
    rw [byt_eq (by rw [plM_len]; exact h)]
    exact List.mem_append_left _ (List.getElem_mem _)
  · split at hy
    · obtain rfl := List.mem_singleton.1 hy
      rw [byt_eq (by rw [smpL_len]; omega)]
      exact List.getElem_mem _
    · simp at hy
/-- The ranks of an order. -/
def seRun (r o : List Nat) : Nat → List Nat
  | 0 => r
  | i + 1 => (seRun r o i).set (byt o i) (i + 1)
theorem seRun_len (r o : List Nat) : ∀ i, (seRun r o i).length = r.length
  | 0 => rfl
  | i + 1 => by simp [seRun, seRun_len r o i]

theorem Own.toB {e : TypeId} {g : Heap} {v : Value} {l : List Value} {n n' : Nat} (h : Own e g v l n n') (h0 : l.length ≠ 0) : ∃ k, n ≤ k ∧ k < n' ∧ OwnB e g v l k := by
  obtain ⟨i, h, hi⟩ := h
  rcases h with ⟨_, h1, h2, h3⟩ | ⟨k, h1, h2, h3, h4⟩
  · exact absurd h2 h0
  · obtain ⟨q1, q2, _⟩ := hi k h1
    exact ⟨k, q1, q2, h2, h3⟩

set_option maxRecDepth 40000 in
set_option maxHeartbeats 2000000 in
theorem ranked_tail {v : Value} {cs : List Value} {r0 sr : List Nat} {m S R n0 n n' j : Nat} {g2 G : Heap} {s2 : Nat → Prop} {t : Nat → Value} (h2 : 2 ≤ m) (hl : m ≤ 100000) (hr0 : r0.length = m + 3) (hn0 : n0 ≤ 100000)
    (hsl : sr.length ≤ 2 ^ 37) (hsr : ∀ x ∈ sr, x < plN m 1 + 1 + plN m 2) (hne : (bkM m sr).length ≠ 0)
    (ih : ∀ (v' : Value) (g : Heap) (j : Nat), Src g v' 1 (belL m r0).length (ints (belL m r0)) → FnSpec Try.prog 19 [v', .int .i64 ((n0 + 1 : Nat) : Int)] g (newE 3 (ints sr) (srcBlk v') j))
    (hv2 : Src g2 v 1 m cs) (hvd : ∀ i ∈ srcBlk v, i < n) (hs : ∀ i, s2 i → i < n) (hwf : ∀ i b, g2 i = some b → s2 i ∧ ∀ c ∈ b.cells, SV1 s2 c)
    (t0 : t 0 = v) (t5 : t 5 = .slice (some ⟨R, 0, some (m + 3)⟩) (m + 3) 1) (t6 : t 6 = .slice (some ⟨S, 0, some (plN m 1 + plN m 2)⟩) (plN m 1 + plN m 2) 1) (t8 : t 8 = .int .i64 (n0 : Nat))
    (hS : G S = some ⟨false, 3, ints (smpL m)⟩) (hR : G R = some ⟨false, 3, ints r0⟩) (hkp : Kp n g2 G) (hSn : n ≤ S ∧ S < n') (hRn : n ≤ R ∧ R < n') (hSR : S ≠ R) :
    awp Try.prog (Try.f35.body.getD .skip |> cr |> cr |> cr |> cr |> cr |> cr |> cr |> cr) (fun e t' g' _ => (e = .normal ∨ e = .ret) ∧ (([4, 5] : List Tmp).length ≠ 1 → ∀ r ∈ ([4, 5] : List Tmp), isTup (t' r) = false) ∧ ∃ ids, Abs.Fin (twE (bkM m sr) (seRun r0 (bkM m sr) (bkM m sr).length) (srcBlk v) j) ids s2 g2 n g' (resVal [4, 5] t')) t G n' := by
  show awp Try.prog (.seq _ _) _ t G n'
  have hlen := (hkp.src hv2 hvd).len Try.underlying22
  have hp1 : plN m 1 ≠ 0 := by unfold plN; omega
  have hp1l : plN m 1 ≤ 100000 := by unfold plN; omega
  have hp2l : plN m 2 ≤ 100000 := by unfold plN; omega
  have hl1 : (ints (plM m 1)).length = plN m 1 := by simp [plM_len]
  have hpm1 := plM_len m 1
  have hpm2 := plM_len m 2
  have hbl := belL_len m r0
  have hsml := smpL_len m
  refine s_take 2 (by simp only [runL, List.take_succ_cons, List.take_zero, awant_none, astep, evl, put, ap_none, List.length_nil, Nat.add_zero, upd_app, stepCall, ↓reduceIte, t0, hlen] <;> rfl) ?_
  refine ops_call 34 _ rfl (by simp only [upd_app, evl, List.map_cons, List.map_nil]; exact places_spec m 1 G n' hl (by omega)) (fun _ => newE_j _ _ _ _) ?_
  rw [newE_own (by rw [hl1]; exact hp1), hl1]
  refine ops_heap fun G1 hG1 => ?_
  have b1 : G1 n' = some ⟨false, 3, ints (plM m 1)⟩ := by rw [hG1]; simp [ap_new]
  have k1 : Kp n' G G1 := by rw [hG1]; simp only [ap_new]; exact kp_upd (Kp.refl _ _) (Nat.le_refl _)
  clear hG1
  refine ops_run (by simp only [runL, awant_none, astep, evl, put, ap_none, List.length_nil, List.length_cons, Nat.add_zero, Nat.zero_add, upd_app, ↓reduceIte] <;> rfl) ?_
  refine w_gen (fun t => t 0 = v ∧ t 5 = .slice (some ⟨R, 0, some (m + 3)⟩) (m + 3) 1 ∧ t 6 = .slice (some ⟨S, 0, some (plN m 1 + plN m 2)⟩) (plN m 1 + plN m 2) 1 ∧ t 8 = .int .i64 (n0 : Nat) ∧ t 11 = .slice (some ⟨n', 0, some (plN m 1)⟩) (plN m 1) 1) (by simp [upd_app, t0, t5, t6, t8]) ?_
  clear t0 t5 t6 t8
  rintro t ⟨t0, t5, t6, t8, t11⟩
  show awp _ _ _ _ G1 (n' + 1)
  have S1 : G1 S = some ⟨false, 3, ints (smpL m)⟩ := by rw [k1 S (by omega)]; exact hS
  have R1 : G1 R = some ⟨false, 3, ints r0⟩ := by rw [k1 R (by omega)]; exact hR
  have q1 : Kp n g2 G1 := fun q hq => by rw [k1 q (by omega), hkp q hq]
  clear hS hR hkp k1 hlen
  refine s_run (by simp only [runL, awant_none, astep, evl, put, ap_none, List.length_nil, Nat.add_zero] <;> rfl) ?_
  refine w_assoc (s_run (by simp only [runL, awant_none, astep, evl, put, ap_none, List.length_nil, Nat.add_zero, upd_app, stepCall, ↓reduceIte, Nat.reduceEqDiff, t11, lenI] <;> rfl) ?_)
  refine s_rng (plN m 1) (fun i t g N => t 0 = v ∧ t 5 = .slice (some ⟨R, 0, some (m + 3)⟩) (m + 3) 1 ∧ t 6 = .slice (some ⟨S, 0, some (plN m 1 + plN m 2)⟩) (plN m 1 + plN m 2) 1 ∧ t 8 = .int .i64 (n0 : Nat) ∧ t 11 = .slice (some ⟨n', 0, some (plN m 1)⟩) (plN m 1) 1 ∧ t 79 = .slice (some ⟨n', 0, some (plN m 1)⟩) (plN m 1) 1 ∧ Own 3 g (t 12) (ints (((plM m 1).map (byt r0)).take i)) (n' + 1) N ∧ Kp (n' + 1) G1 g ∧ n' + 1 ≤ N) (by omega) (by simp []) (by simp [upd_app])
    (fun _ => ⟨by simp [upd_app, t0], by simp [upd_app, t5], by simp [upd_app, t6], by simp [upd_app, t8], by simp [upd_app, t11], by simp [upd_app], by simp [upd_app]; exact Own.nil _ _ _ _, Kp.refl _ _, Nat.le_refl _⟩) (by decide) ?_ ?_
  · clear t0 t5 t6 t8 t11
    rintro i t g N hi t81 t80 ⟨t0, t5, t6, t8, t11, t79, hO, hk, hnn⟩
    have bg : g n' = some ⟨false, 3, ints (plM m 1)⟩ := by rw [hk _ (by omega)]; exact b1
    have rg : g R = some ⟨false, 3, ints r0⟩ := by rw [hk _ (by omega)]; exact R1
    have ix := idxI n' (plN m 1) i (plN m 1) hi
    have lx' := ldN (m := plN m 1) (i := i) bg hpm1 (by rw [hpm1]; exact hi)
    have hx := plM_lt (m := m) (r := 1) (by omega) (byt (plM m 1) i) (by rw [byt_eq (by rw [hpm1]; exact hi)]; exact List.getElem_mem _)
    have htk : ((plM m 1).map (byt r0)).take (i + 1) = ((plM m 1).map (byt r0)).take i ++ [byt r0 (byt (plM m 1) i)] := by
      rw [take_byt (by rw [List.length_map, hpm1]; exact hi), byt_eq (by rw [List.length_map, hpm1]; exact hi), byt_eq (l := plM m 1) (by rw [hpm1]; exact hi)]; simp
    obtain ⟨x, hxx⟩ : ∃ x, byt (plM m 1) i = x := ⟨_, rfl⟩
    rw [hxx] at lx' hx htk
    have iy := idxI R (m + 3) x (m + 3) (by omega)
    have ly := ldN (m := m + 3) (i := x) rg hr0 (by omega)
    obtain ⟨f, hf, hO', hk'⟩ := hO.push (P := Try.prog) (T := 22) (c := .int .i64 (byt r0 x : Nat)) Try.underlying22 tinf3 (by simp [hpm1]; omega) (by omega) hnn
    refine s_run (by simp only [runL, awant_none, astep, evl, put, ap_none, List.length_nil, Nat.add_zero, upd_app, ↓reduceIte, t79, t81, ix, lx'] <;> rfl) ?_
    refine region_run (id := 23) (by simp only [runL, awant_none, astep, evl, put, ap_none, ap_new, List.length_nil, List.length_cons, Nat.add_zero, Nat.zero_add, upd_app, stepCall, ↓reduceIte, Nat.reduceEqDiff, List.map_cons, List.map_nil, undef, t5, iy, ly, litI_1, hf] <;> rfl) ?_
    simp only [rngPost]
    refine ⟨by simp [upd_app, t81], by simp [upd_app, t80], fun _ _ _ => ⟨by simp [upd_app, t0], by simp [upd_app, t5], by simp [upd_app, t6], by simp [upd_app, t8], by simp [upd_app, t11], by simp [upd_app, t79], ?_, fun q hq => by rw [hk' q (by omega)]; exact hk q hq, by omega⟩⟩
    rw [htk, ← ints_app]
    simpa [upd_app] using hO'
  clear t0 t5 t6 t8 t11
  rintro t g N ⟨t0, t5, t6, t8, t11, t79, hO, hk, hnn⟩
  rw [List.take_of_length_le (by rw [List.length_map, hpm1]; exact Nat.le_refl _)] at hO
  obtain ⟨f, hf, hO', hk'⟩ := hO.push (P := Try.prog) (T := 22) (c := .int .i64 0) Try.underlying22 tinf3 (by simp [hpm1]; omega) (by omega) hnn
  refine s_run (by simp only [runL, awant_none, astep, evl, put, ap_none, ap_new, List.length_nil, List.length_cons, Nat.add_zero, Nat.zero_add, upd_app, stepCall, ↓reduceIte, Nat.reduceEqDiff, List.map_cons, List.map_nil, undef, litI_1, hf] <;> rfl) (w_heap fun G2 hG2 => ?_)
  rw [← hG2] at hO' hk'
  have k2 : Kp (n' + 1) G1 G2 := fun q hq => by rw [hk' q (by omega)]; exact hk q hq
  have hO2 : Own 3 G2 f.v (ints ((plM m 1).map (byt r0) ++ [0])) (n' + 1) (N + 1 + f.a.length) := by rw [← ints_app]; exact hO'
  obtain ⟨K, hK1, hK2, hB2⟩ := hO2.toB (by simp)
  obtain ⟨M, hM⟩ : ∃ M, N + 1 + f.a.length = M := ⟨_, rfl⟩
  rw [hM] at hK2
  have hMn : n' + 1 ≤ M := by omega
  refine w_gen (fun t => t 0 = v ∧ t 5 = .slice (some ⟨R, 0, some (m + 3)⟩) (m + 3) 1 ∧ t 6 = .slice (some ⟨S, 0, some (plN m 1 + plN m 2)⟩) (plN m 1 + plN m 2) 1 ∧ t 8 = .int .i64 (n0 : Nat) ∧ t 11 = .slice (some ⟨n', 0, some (plN m 1)⟩) (plN m 1) 1 ∧ t 12 = f.v) (by simp [upd_app, t0, t5, t6, t8, t11]) ?_
  clear t0 t5 t6 t8 t11 t79 hG2 hk' hO' hf hO hk hnn hO2
  rintro t ⟨t0, t5, t6, t8, t11, t12⟩
  obtain ⟨z, hz⟩ : ∃ z, f.v = z := ⟨_, rfl⟩
  rw [hz] at hB2 t12
  refine w_num fun M' hM' => ?_
  replace hM' : M' = N + 1 + f.a.length := hM'
  obtain rfl : M' = M := hM'.trans hM
  clear hM hM' hz f
  have q2 : Kp n g2 G2 := fun q hq => by rw [k2 q (by omega), q1 q hq]
  have hlen2 := (q2.src hv2 hvd).len Try.underlying22
  refine w_assoc (s_take 2 (by simp only [runL, List.take_succ_cons, List.take_zero, awant_none, astep, evl, put, ap_none, List.length_nil, Nat.add_zero, upd_app, stepCall, ↓reduceIte, t0, hlen2] <;> rfl) ?_)
  refine ops_call 34 _ rfl (by simp only [upd_app, evl, List.map_cons, List.map_nil]; exact places_spec m 2 G2 M' hl (by omega)) (fun _ => newE_j _ _ _ _) ?_
  refine ops_heap fun G3 hG3 => ?_
  have hs3 : Src G3 (newE 3 (ints (plM m 2)) [] M').v 1 (plM m 2).length (ints (plM m 2)) := by rw [hG3]; simpa using newE_src 3 (ints (plM m 2)) [] M' G2
  have hd3 := newE_blk 3 (ints (plM m 2)) [] M'
  have k3 : Kp M' G2 G3 := by rw [hG3]; exact newE_kp (Kp.refl _ _) (Nat.le_refl _)
  obtain ⟨w, hw⟩ : ∃ w, (newE 3 (ints (plM m 2)) [] M').v = w := ⟨_, rfl⟩
  obtain ⟨L, hL⟩ : ∃ L, M' + (newE 3 (ints (plM m 2)) [] M').a.length = L := ⟨_, rfl⟩
  rw [hw] at hs3 hd3
  rw [hw, hL]
  have hd3' : ∀ i ∈ srcBlk w, M' ≤ i ∧ i < L := fun i hi => by have := hd3 i hi; omega
  clear hG3 hw hd3
  have hlw := hs3.len Try.underlying22
  rw [hpm2] at hlw
  refine ops_run (by simp only [runL, awant_none, astep, evl, put, ap_none, List.length_nil, Nat.add_zero, upd_app, stepCall, ↓reduceIte, hlw] <;> rfl) ?_
  have hB3 : OwnB 3 G3 z (ints ((plM m 1).map (byt r0) ++ [0] ++ ((plM m 2).map (byt r0)).take 0)) K := by simpa using hB2.keep (k3 K hK2)
  clear hB2
  have kk3 : ∀ q, q < n' + 1 → G3 q = G1 q := fun q hq => by rw [k3 q (by omega), k2 q hq]
  refine s_rng (plN m 2) (fun i t g N => t 0 = v ∧ t 5 = .slice (some ⟨R, 0, some (m + 3)⟩) (m + 3) 1 ∧ t 6 = .slice (some ⟨S, 0, some (plN m 1 + plN m 2)⟩) (plN m 1 + plN m 2) 1 ∧ t 8 = .int .i64 (n0 : Nat) ∧ t 11 = .slice (some ⟨n', 0, some (plN m 1)⟩) (plN m 1) 1 ∧ t 98 = w ∧ OwnB 3 g (t 12) (ints ((plM m 1).map (byt r0) ++ [0] ++ ((plM m 2).map (byt r0)).take i)) K ∧ (∀ q, q < L → q ≠ K → g q = G3 q) ∧ L ≤ N) (by omega) (by simp []) (by simp [upd_app])
    (fun _ => ⟨by simp [upd_app, t0], by simp [upd_app, t5], by simp [upd_app, t6], by simp [upd_app, t8], by simp [upd_app, t11], by simp [upd_app], by simpa [upd_app, put, t12] using hB3, fun _ _ _ => rfl, Nat.le_refl _⟩) (by decide) ?_ ?_
  · clear t0 t5 t6 t8 t11 t12
    rintro i t g N hi t100 t99 ⟨t0, t5, t6, t8, t11, t98, hB, hk, hnn⟩
    have rg : g R = some ⟨false, 3, ints r0⟩ := by rw [hk _ (by omega) (by omega), kk3 _ (by omega)]; exact R1
    obtain ⟨p, i1, l1, _⟩ := srcN (hs3.congr fun q hq => hk q (hd3' q hq).2 (by have := hd3' q hq; omega)) (show i < (plM m 2).length by omega)
    have hx := plM_lt (m := m) (r := 2) (by omega) (byt (plM m 2) i) (by rw [byt_eq (by rw [hpm2]; exact hi)]; exact List.getElem_mem _)
    have htk : ((plM m 2).map (byt r0)).take (i + 1) = ((plM m 2).map (byt r0)).take i ++ [byt r0 (byt (plM m 2) i)] := by
      rw [take_byt (by rw [List.length_map, hpm2]; exact hi), byt_eq (by rw [List.length_map, hpm2]; exact hi), byt_eq (l := plM m 2) (by rw [hpm2]; exact hi)]; simp
    obtain ⟨x, hxx⟩ : ∃ x, byt (plM m 2) i = x := ⟨_, rfl⟩
    rw [hxx] at l1 hx htk
    have iy := idxI R (m + 3) x (m + 3) (by omega)
    have ly := ldN (m := m + 3) (i := x) rg hr0 (by omega)
    obtain ⟨f, hf, hfa, hB', hk'⟩ := hB.push (P := Try.prog) (T := 22) (j := N) (c := .int .i64 (byt r0 x : Nat)) (by omega) Try.underlying22 tinf3 (by simp [hpm1, hpm2]; omega) (by omega)
    refine s_run (by simp only [runL, awant_none, astep, evl, put, ap_none, List.length_nil, Nat.add_zero, upd_app, ↓reduceIte, t98, t100, i1, l1] <;> rfl) ?_
    refine region_run (id := 29) (by simp only [runL, awant_none, astep, evl, put, ap_none, ap_new, List.length_nil, List.length_cons, Nat.add_zero, Nat.zero_add, upd_app, stepCall, ↓reduceIte, Nat.reduceEqDiff, List.map_cons, List.map_nil, undef, t5, iy, ly, litI_1, hf] <;> rfl) ?_
    simp only [rngPost]
    refine ⟨by simp [upd_app, t100], by simp [upd_app, t99], fun _ _ _ => ⟨by simp [upd_app, t0], by simp [upd_app, t5], by simp [upd_app, t6], by simp [upd_app, t8], by simp [upd_app, t11], by simp [upd_app, t98], ?_, fun q hq hqK => by rw [hk' q (by omega) (by omega)]; exact hk q hq hqK, by omega⟩⟩
    rw [htk, ← List.append_assoc, ← ints_app (a := _ ++ _)]
    simpa [upd_app] using hB'
  clear t0 t5 t6 t8 t11 t12
  rintro t g N ⟨t0, t5, t6, t8, t11, t98, hB, hk, hnn⟩
  rw [List.take_of_length_le (by rw [List.length_map, hpm2]; exact Nat.le_refl _)] at hB
  have hbe : (plM m 1).map (byt r0) ++ [0] ++ (plM m 2).map (byt r0) = belL m r0 := rfl
  rw [hbe] at hB
  have hsb : Src g (t 12) 1 (belL m r0).length (ints (belL m r0)) := by simpa using hB.src
  have S4 : g S = some ⟨false, 3, ints (smpL m)⟩ := by rw [hk S (by omega) (by omega), kk3 S (by omega)]; exact S1
  have R4 : g R = some ⟨false, 3, ints r0⟩ := by rw [hk R (by omega) (by omega), kk3 R (by omega)]; exact R1
  have B4 : g n' = some ⟨false, 3, ints (plM m 1)⟩ := by rw [hk n' (by omega) (by omega), kk3 n' (by omega)]; exact b1
  have q4 : Kp n g2 g := fun q hq => by rw [hk q (by omega) (by omega), kk3 q (by omega), q1 q hq]
  have hNn : n' < N := by omega
  obtain ⟨y12, hy12⟩ : ∃ y, t 12 = y := ⟨_, rfl⟩
  rw [hy12] at hsb
  have hsd : ∀ i ∈ srcBlk y12, i < N := by
    rw [← hy12, hB.1]
    intro i hi; have := srcBlk_own i hi; omega
  clear hB hk S1 R1 b1 q1 k2 k3 hs3 hd3' hB3 kk3 hK1 hK2
  have w1 : IntKind.i64.wrap ((n0 : Int) + 1) = ((n0 + 1 : Nat) : Int) := wrap_succ (by omega)
  refine s_run (by simp only [runL, awant_none, astep, evl, put, ap_none, List.length_nil, Nat.add_zero] <;> rfl) ?_
  refine w_assoc (s_take 3 (by simp only [runL, List.take_succ_cons, List.take_zero, awant_none, astep, evl, put, ap_none, List.length_nil, Nat.add_zero, upd_app, stepBin, abin, ↓reduceIte, Nat.reduceEqDiff, t8, hy12, w1] <;> rfl) ?_)
  refine ops_call 19 _ rfl (by simp only [upd_app, evl, List.map_cons, List.map_nil]; exact ih y12 g N hsb) (fun _ => newE_j _ _ _ _) ?_
  refine ops_heap fun G5 hG5 => ?_
  have hs5 : Src G5 (newE 3 (ints sr) (srcBlk y12) N).v 1 sr.length (ints sr) := by rw [hG5]; simpa using newE_src 3 (ints sr) (srcBlk y12) N g
  have hd5 := newE_blk 3 (ints sr) (srcBlk y12) N
  have k5 : Kp N g G5 := by rw [hG5]; exact newE_kp (Kp.refl _ _) (Nat.le_refl _)
  obtain ⟨w5, hw5⟩ : ∃ w, (newE 3 (ints sr) (srcBlk y12) N).v = w := ⟨_, rfl⟩
  obtain ⟨D, hD⟩ : ∃ D, N + (newE 3 (ints sr) (srcBlk y12) N).a.length = D := ⟨_, rfl⟩
  rw [hw5] at hs5 hd5
  rw [hw5, hD]
  have hd5' : ∀ i ∈ srcBlk w5, i < D := fun i hi => by have := hd5 i hi; omega
  have hDN : N ≤ D := by omega
  clear hG5 hw5 hd5 hD
  have hl5 := hs5.len Try.underlying22
  have S5 : G5 S = some ⟨false, 3, ints (smpL m)⟩ := by rw [k5 S (by omega)]; exact S4
  have R5 : G5 R = some ⟨false, 3, ints r0⟩ := by rw [k5 R (by omega)]; exact R4
  have B5 : G5 n' = some ⟨false, 3, ints (plM m 1)⟩ := by rw [k5 n' (by omega)]; exact B4
  have q5 : Kp n g2 G5 := fun q hq => by rw [k5 q (by omega), q4 q hq]
  clear S4 R4 B4 q4 k5 hsb hsd
  refine ops_run (by simp only [runL, awant_none, astep, evl, put, ap_none, List.length_nil, Nat.add_zero, upd_app, stepCall, ↓reduceIte, hl5] <;> rfl) ?_
  refine s_rng sr.length (fun i t g N => t 5 = .slice (some ⟨R, 0, some (m + 3)⟩) (m + 3) 1 ∧ t 6 = .slice (some ⟨S, 0, some (plN m 1 + plN m 2)⟩) (plN m 1 + plN m 2) 1 ∧ t 11 = .slice (some ⟨n', 0, some (plN m 1)⟩) (plN m 1) 1 ∧ t 115 = w5 ∧ Own 3 g (t 4) (ints (bkM m (sr.take i))) D N ∧ Kp D G5 g ∧ D ≤ N) (by omega) (by simp []) (by simp [upd_app])
    (fun _ => ⟨by simp [upd_app, t5], by simp [upd_app, t6], by simp [upd_app, t11], by simp [upd_app], by simp [upd_app, bkM]; exact Own.nil _ _ _ _, Kp.refl _ _, Nat.le_refl _⟩) (by decide) ?_ ?_
  · clear t0 t5 t6 t8 t11 t98 hy12
    rintro i t g N hi t117 t116 ⟨t5, t6, t11, t115, hO, hk, hnn⟩
    obtain ⟨p, i1, l1, _⟩ := srcN (hk.src hs5 hd5') hi
    have hx := hsr (byt sr i) (by rw [byt_eq hi]; exact List.getElem_mem hi)
    have htk := bkM_take (m := m) hi
    have hbl2 := bkM_len_le m (sr.take i)
    rw [List.length_take] at hbl2
    obtain ⟨x, hxx⟩ : ∃ x, byt sr i = x := ⟨_, rfl⟩
    rw [hxx] at l1 hx htk
    have hb1' : (ints (bkM m (sr.take i))).length + 1 ≤ 1099511627776 := by simp; omega
    refine s_run (by simp only [runL, awant_none, astep, evl, put, ap_none, List.length_nil, Nat.add_zero, upd_app, ↓reduceIte, t115, t117, i1, l1] <;> rfl) ?_
    refine w_block ?_
    by_cases c1 : x < plN m 1
    · have d1 : decide (((x : Nat) : Int) < ((plN m 1 : Nat) : Int)) = true := decide_eq_true (by omega)
      have hb : bk1 m x = [byt (plM m 1) x] := by unfold bk1; rw [if_pos c1]
      have bg : g n' = some ⟨false, 3, ints (plM m 1)⟩ := by rw [hk _ (by omega)]; exact B5
      have ix := idxI n' (plN m 1) x (plN m 1) c1
      have lx' := ldN (m := plN m 1) (i := x) bg hpm1 (by rw [hpm1]; exact c1)
      obtain ⟨f, hf, hO', hk'⟩ := hO.push (P := Try.prog) (T := 22) (c := .int .i64 (byt (plM m 1) x : Nat)) Try.underlying22 tinf3 hb1' (by omega) hnn
      refine s_run (by simp only [runL, awant_none, astep, evl, put, ap_none, List.length_nil, Nat.add_zero, upd_app, stepBin, abin, stepCall, ↓reduceIte, Nat.reduceEqDiff, t11, lenI, d1] <;> rfl) ?_
      refine w_true (by simp [evl]) ?_
      refine region_run (id := 36) (by simp only [runL, awant_none, astep, evl, put, ap_none, ap_new, List.length_nil, List.length_cons, Nat.add_zero, Nat.zero_add, upd_app, stepCall, ↓reduceIte, Nat.reduceEqDiff, List.map_cons, List.map_nil, undef, t11, ix, lx', litI_1, hf] <;> rfl) ?_
      simp only [rngPost, ainBlock]
      refine ⟨by simp [upd_app, t117], by simp [upd_app, t116], fun _ _ _ => ⟨by simp [upd_app, t5], by simp [upd_app, t6], by simp [upd_app, t11], by simp [upd_app, t115], ?_, fun q hq => by rw [hk' q (by omega)]; exact hk q hq, by omega⟩⟩
      rw [htk, hb, ← ints_app]
      simpa [upd_app] using hO'
    · have d1 : decide (((x : Nat) : Int) < ((plN m 1 : Nat) : Int)) = false := decide_eq_false (by omega)
      refine s_run (by simp only [runL, awant_none, astep, evl, put, ap_none, List.length_nil, Nat.add_zero, upd_app, stepBin, abin, stepCall, ↓reduceIte, Nat.reduceEqDiff, t11, lenI, d1] <;> rfl) ?_
      refine w_false (by simp [evl]) ?_
      by_cases c2 : plN m 1 < x
      · have d2 : decide (((x : Nat) : Int) > ((plN m 1 : Nat) : Int)) = true := decide_eq_true (by omega)
        have hb : bk1 m x = [byt (smpL m) (x - 1)] := by unfold bk1; rw [if_neg c1, if_pos c2]
        have sg : g S = some ⟨false, 3, ints (smpL m)⟩ := by rw [hk _ (by omega)]; exact S5
        have w2 : IntKind.i64.wrap (((x : Nat) : Int) - 1) = ((x - 1 : Nat) : Int) := wrap_sub1 (by omega) (by omega)
        have ix := idxI S (plN m 1 + plN m 2) (x - 1) (plN m 1 + plN m 2) (by omega)
        have lx' := ldN (m := plN m 1 + plN m 2) (i := x - 1) sg hsml (by rw [hsml]; omega)
        obtain ⟨f, hf, hO', hk'⟩ := hO.push (P := Try.prog) (T := 22) (c := .int .i64 (byt (smpL m) (x - 1) : Nat)) Try.underlying22 tinf3 hb1' (by omega) hnn
        refine s_run (by simp only [runL, awant_none, astep, evl, put, ap_none, List.length_nil, Nat.add_zero, upd_app, stepBin, abin, stepCall, ↓reduceIte, Nat.reduceEqDiff, t11, lenI, d2] <;> rfl) ?_
        refine w_true (by simp [evl]) ?_
        refine region_run (id := 38) (by simp only [runL, awant_none, astep, evl, put, ap_none, ap_new, List.length_nil, List.length_cons, Nat.add_zero, Nat.zero_add, upd_app, stepBin, abin, stepCall, ↓reduceIte, Nat.reduceEqDiff, List.map_cons, List.map_nil, undef, t6, w2, ix, lx', litI_1, hf] <;> rfl) ?_
        simp only [rngPost, ainBlock]
        refine ⟨by simp [upd_app, t117], by simp [upd_app, t116], fun _ _ _ => ⟨by simp [upd_app, t5], by simp [upd_app, t6], by simp [upd_app, t11], by simp [upd_app, t115], ?_, fun q hq => by rw [hk' q (by omega)]; exact hk q hq, by omega⟩⟩
        rw [htk, hb, ← ints_app]
        simpa [upd_app] using hO'
      · have d2 : decide (((x : Nat) : Int) > ((plN m 1 : Nat) : Int)) = false := decide_eq_false (by omega)
        have hb : bk1 m x = [] := by unfold bk1; rw [if_neg c1, if_neg c2]
        refine s_run (by simp only [runL, awant_none, astep, evl, put, ap_none, List.length_nil, Nat.add_zero, upd_app, stepBin, abin, stepCall, ↓reduceIte, Nat.reduceEqDiff, t11, lenI, d2] <;> rfl) ?_
        refine w_false (by simp [evl]) (w_skip ?_)
        simp only [rngPost, ainBlock]
        refine ⟨by simp [upd_app, t117], by simp [upd_app, t116], fun _ _ _ => ⟨by simp [upd_app, t5], by simp [upd_app, t6], by simp [upd_app, t11], by simp [upd_app, t115], ?_, hk, hnn⟩⟩
        rw [htk, hb, List.append_nil]
        simpa [upd_app] using hO
  clear t0 t5 t6 t8 t11 t98 hy12
  rintro t g N ⟨t5, t6, t11, t115, hO, hk, hnn⟩
  rw [List.take_length] at hO
  have ho2 : ∀ x ∈ bkM m sr, x < m := fun x hx => smpL_lt x (bkM_sub hsr x hx)
  have hol := bkM_len_le m sr
  obtain ⟨o2, hoo⟩ : ∃ o2, bkM m sr = o2 := ⟨_, rfl⟩
  rw [hoo] at hO hne ho2 hol ⊢
  obtain ⟨Q, hQ1, hQ2, hQB⟩ := hO.toB (by simpa using hne)
  obtain ⟨hQv, hQg⟩ := hQB
  have hol2 : (ints o2).length = o2.length := by simp
  rw [hol2] at hQv
  have R6 : g R = some ⟨false, 3, ints (seRun r0 o2 0)⟩ := by rw [hk R (by omega)]; exact R5
  have q6 : Kp n g2 g := fun q hq => by rw [hk q (by omega), q5 q hq]
  refine w_assoc (s_run (by simp only [runL, awant_none, astep, evl, put, ap_none, List.length_nil, Nat.add_zero, upd_app, stepCall, ↓reduceIte, hQv, lenI] <;> rfl) ?_)
  refine s_rng o2.length (fun i t g _ => t 4 = .slice (some ⟨Q, 0, some o2.length⟩) o2.length 1 ∧ t 5 = .slice (some ⟨R, 0, some (m + 3)⟩) (m + 3) 1 ∧ t 147 = .slice (some ⟨Q, 0, some o2.length⟩) o2.length 1 ∧ g Q = some ⟨false, 3, ints o2⟩ ∧ g R = some ⟨false, 3, ints (seRun r0 o2 i)⟩ ∧ ∀ q, q < n → q ≠ R → g q = g2 q) (by omega) (by simp []) (by simp [upd_app])
    (fun _ => ⟨by simp [upd_app, hQv], by simp [upd_app, t5], by simp [upd_app], hQg, R6, fun q hq _ => q6 q hq⟩) (by decide) ?_ ?_
  · clear t5 t6 t11 t115 hQv hQg R6 q6
    rintro i t g N hi t149 t148 ⟨t4, t5, t147, hQ, hR, hq⟩
    have ix := idxI Q o2.length i o2.length hi
    have lx' := ldN (m := o2.length) (i := i) hQ rfl hi
    have hx := ho2 (byt o2 i) (by rw [byt_eq hi]; exact List.getElem_mem hi)
    have hsucc : seRun r0 o2 (i + 1) = (seRun r0 o2 i).set (byt o2 i) (i + 1) := rfl
    obtain ⟨x, hxx⟩ : ∃ x, byt o2 i = x := ⟨_, rfl⟩
    rw [hxx] at lx' hx hsucc
    have hrl : (seRun r0 o2 i).length = m + 3 := by rw [seRun_len, hr0]
    have iy := idxI R (m + 3) x (m + 3) (by omega)
    have w2 : IntKind.i64.wrap ((i : Int) + 1) = ((i + 1 : Nat) : Int) := wrap_succ (by omega)
    have s1 := stN (m := m + 3) (i := x) (x := i + 1) hR hrl (by rw [hrl]; omega)
    rw [← hsucc] at s1
    refine s_run (by simp only [runL, awant_none, astep, evl, put, ap_none, List.length_nil, Nat.add_zero, upd_app, ↓reduceIte, Nat.reduceEqDiff, t147, t149, ix, lx'] <;> rfl) ?_
    refine region_run (id := 43) (by simp only [runL, awant_none, astep, evl, put, ap_none, ap_wr, List.length_nil, Nat.add_zero, upd_app, stepBin, abin, ↓reduceIte, Nat.reduceEqDiff, undef, t5, w2, iy, s1] <;> rfl) ?_
    simp only [rngPost]
    exact ⟨by simp [upd_app, t149], by simp [upd_app, t148], fun _ _ _ => ⟨by simp [upd_app, t4], by simp [upd_app, t5], by simp [upd_app, t147], by rw [upd_ne _ _ (by omega)]; exact hQ, by rw [upd_self], fun q h1 h2 => by rw [upd_ne _ _ h2]; exact hq q h1 h2⟩⟩
  · rintro t g N ⟨t4, t5, t147, hQ, hR, hq⟩
    refine s_run (by simp only [runL, awant_none, astep, evl, put, ap_none, List.length_nil, Nat.add_zero, upd_app, ↓reduceIte, Nat.reduceEqDiff, t4, t5] <;> rfl) ?_
    exact w_ret (twE_fin (k0 := Q) (k1 := R) (la := o2.length) (lb := m + 3) rfl (by simp [upd_app]) rfl (by simp []) (by rw [seRun_len, hr0]) (by omega) (by omega) (by omega) hQ hR hs hwf (fun q h1 => hq q h1 (by omega)))
end Go.Proofs.Ytdpkhijbikbhnaa
