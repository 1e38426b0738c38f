import Derived.Test.YtdpkhijbikbhnaaT29
import Derived.Test.YtdpkhijbikbhnaaA0
namespace Go.Proofs.Ytdpkhijbikbhnaa
open Go Abs Plain
set_option linter.unusedSimpArgs false
set_option linter.unusedVariables false

/-- What comes so many places on. -/
def secL (l : List Nat) (h : Nat) : List Nat := (List.range l.length).map fun i => onN l i h
theorem secL_len (l : List Nat) (h : Nat) : (secL l h).length = l.length := by simp [secL]
theorem secL_at {l : List Nat} {h i : Nat} (hi : i < l.length) : byt (secL l h) i = onN l i h := by rw [byt_eq (by rw [secL_len]; exact hi)]; simp [secL]
theorem range_at {m i : Nat} (h : i < m) : byt (List.range m) i = i := by rw [byt_eq (by simpa using h)]; simp
theorem secL_lt {l : List Nat} {h : Nat} (hl : ∀ x ∈ l, x < l.length) : ∀ x ∈ secL l h, x < l.length + 1 := by
  intro x hx
  obtain ⟨i, hi, rfl⟩ := List.mem_map.1 hx
  unfold onN
  split
  · omega
  · rename_i hh
    have := hl (byt l (i + h)) (by rw [byt_eq (by omega)]; exact List.getElem_mem _)
    omega
/-- All places by both numbers. -/
def jo1 (l : List Nat) (h : Nat) : List Nat := passL (List.range l.length) (secL l h) (l.length + 1)
def joL (l : List Nat) (h : Nat) : List Nat := passL (jo1 l h) l l.length
theorem jo1_len (l : List Nat) (h : Nat) : (jo1 l h).length = l.length := by simp [jo1, passL_len]
theorem joL_len (l : List Nat) (h : Nat) : (joL l h).length = l.length := by simp [joL, passL_len, jo1_len]
theorem jo1_perm {l : List Nat} {h : Nat} (hl : ∀ x ∈ l, x < l.length) : (jo1 l h).Perm (List.range l.length) := passL_perm fun x hx => by
  have hx : x < l.length := by simpa using hx
  exact secL_lt hl _ (by rw [byt_eq (by rw [secL_len]; exact hx)]; exact List.getElem_mem _)
theorem jo1_lt {l : List Nat} {h : Nat} (hl : ∀ x ∈ l, x < l.length) : ∀ x ∈ jo1 l h, x < l.length := fun x hx => by simpa using (jo1_perm hl).mem_iff.1 hx
theorem joL_perm {l : List Nat} {h : Nat} (hl : ∀ x ∈ l, x < l.length) : (joL l h).Perm (List.range l.length) := (passL_perm fun x hx => by
  have hx := jo1_lt hl x hx
  exact hl _ (by rw [byt_eq hx]; exact List.getElem_mem _)).trans (jo1_perm hl)
theorem joL_lt {l : List Nat} {h : Nat} (hl : ∀ x ∈ l, x < l.length) : ∀ x ∈ joL l h, x < l.length := fun x hx => by simpa using (joL_perm hl).mem_iff.1 hx
/-- Two neighbours have the same numbers. -/
def jnB (l : List Nat) (h : Nat) (x y : Nat) : Bool := decide (byt l x = byt l y) && decide (byt (secL l h) x = byt (secL l h) y)
def jnRun (l : List Nat) (h : Nat) : Nat → List Nat
  | 0 => List.replicate l.length 0
  | i + 1 => if 0 < i ∧ jnB l h (byt (joL l h) (i - 1)) (byt (joL l h) i) = true then
      ((jnRun l h i).set (byt (joL l h) i) i).set (byt (joL l h) i) (byt ((jnRun l h i).set (byt (joL l h) i) i) (byt (joL l h) (i - 1)))
    else (jnRun l h i).set (byt (joL l h) i) i
/-- Ranks by so many numbers more. -/
def jnL (l : List Nat) (h : Nat) : List Nat := jnRun l h l.length
theorem jnRun_len (l : List Nat) (h : Nat) : ∀ i, (jnRun l h i).length = l.length
  | 0 => by simp [jnRun]
  | i + 1 => by rw [jnRun]; split <;> simp [jnRun_len l h i]
theorem jnL_len (l : List Nat) (h : Nat) : (jnL l h).length = l.length := jnRun_len l h _

/-- An answer of two new rows. -/
def twE (a b : List Nat) (r : List Nat) (j : Nat) : Eff := { v := .tuple #[.slice (some ⟨j, 0, some a.length⟩) a.length 1, .slice (some ⟨j + 1, 0, some b.length⟩) b.length 1], r := r, j := j, a := [⟨false, 3, ints a⟩, ⟨false, 3, ints b⟩] }
theorem twE_fp (a b : List Nat) (r : List Nat) (j : Nat) : (twE a b r j).fp = r := by simp [Eff.fp, twE]
theorem twE_ap (a b : List Nat) (r : List Nat) (j : Nat) (g : Heap) : (twE a b r j).ap g = upd (upd g j (some ⟨false, 3, ints a⟩)) (j + 1) (some ⟨false, 3, ints b⟩) := rfl
theorem twE_fin {s2 : Nat → Prop} {g2 g' : Heap} {n k0 k1 : Nat} {rs : List Tmp} {a b : Tmp} {l m : List Nat} {r : List Nat} {j la lb : Nat} {t : Nat → Value} (hrs : rs = [a, b]) (h4 : t a = .slice (some ⟨k0, 0, some la⟩) la 1) (hla : la = l.length) (h5 : t b = .slice (some ⟨k1, 0, some lb⟩) lb 1) (hlb : lb = m.length)
    (hn0 : n ≤ k0) (hn1 : n ≤ k1) (hne : k0 ≠ k1) (hg0 : g' k0 = some ⟨false, 3, ints l⟩) (hg1 : g' k1 = some ⟨false, 3, ints m⟩) (hs : ∀ i, s2 i → i < n) (hwf : ∀ i b, g2 i = some b → s2 i ∧ ∀ c ∈ b.cells, SV1 s2 c) (hk : Kp n g2 g') :
    (Exit.ret = .normal ∨ Exit.ret = .ret) ∧ (rs.length ≠ 1 → ∀ r ∈ rs, isTup (t r) = false) ∧ ∃ ids, Abs.Fin (twE l m r j) ids s2 g2 n g' (resVal rs t) := by
  subst hrs hla hlb
  refine ⟨.inr rfl, fun _ r hr => ?_, [k0, k1], ?_⟩
  · simp at hr
    rcases hr with rfl | rfl
    · rw [h4]; rfl
    · rw [h5]; rfl
  · refine fin_new2 (b0 := ⟨false, 3, ints l⟩) (b1 := ⟨false, 3, ints m⟩) ?_ ?_ hn0 hn1 hne ?_ ?_ ?_ ?_ (fun i b hb => hk.at (hs i (hwf i b hb).1) hb)
    · simp [resVal, h4, h5, renT, renA, ren1]
    · intro c hc
      simp at hc
      rcases hc with rfl | rfl
      · exact .inr (.inr ⟨Nat.le_refl _, Nat.lt_add_of_pos_right (by decide)⟩)
      · exact .inr (.inr ⟨Nat.le_succ _, Nat.lt_succ_self _⟩)
    · rw [hg0, renB_plain (b := ⟨false, 3, ints l⟩) (plain_is l)]
    · rw [hg1, renB_plain (b := ⟨false, 3, ints m⟩) (plain_is m)]
    · exact fun c hc => SV1_plain (plain_is l c hc)
    · exact fun c hc => SV1_plain (plain_is m c hc)

set_option maxRecDepth 40000 in
set_option maxHeartbeats 1000000 in
theorem joined_spec (v : Value) (l : List Nat) (h : Nat) (g : Heap) (jj : Nat) (hl : l.length ≤ 100000) (hh : h ≤ 2 ^ 37) (hb : ∀ x ∈ l, x < l.length) (hv : Src g v 1 l.length (ints l)) :
    FnSpec Try.prog 41 [v, .int .i64 h] g (twE (jnL l h) (joL l h) (srcBlk v) jj) := by
  refine spec_of_body [4, 5] follows Try.func41 rfl (by kernel_rfl) (by simp [Try.f41]) (by kernel_rfl) rfl ?_
  intro g2 s2 n hg hfr hs hn hwf hsv
  rw [twE_fp] at hg
  have hv2 : Src g2 v 1 l.length (ints l) := hv.congr fun i hi => hg i hi
  have hvd := dom_of hs hwf hv2
  have hlen := hv2.len Try.underlying22
  clear hg hfr hn hv
  refine s_run (by simp only [runL, awant_none, astep, evl, put, ap_none, List.length_nil, Nat.add_zero, undef] <;> rfl) ?_
  refine s_run (by simp only [runL, Option.getD_some, List.getElem?_cons_zero, awant_none, astep, evl, put, ap_none, ap_new, List.length_nil, List.length_cons, Nat.add_zero, Nat.zero_add, upd_app, stepCall, reduceCtorEq, ↓reduceIte, hlen, mkInts l.length n (by omega)] <;> rfl) (w_heap fun G1 hG1 => ?_)
  have b1 : G1 n = some ⟨false, 3, ints (preR (List.range l.length) 0)⟩ := by rw [hG1, preR_zero]; simp []
  have k1 : Kp n g2 G1 := by rw [hG1]; exact kp_upd (Kp.refl _ _) (Nat.le_refl _)
  clear hG1
  refine s_run (by simp only [runL, Option.getD_some, List.getElem?_cons_zero, awant_none, astep, evl, put, ap_none, ap_new, List.length_nil, List.length_cons, Nat.add_zero, Nat.zero_add, upd_app, stepCall, reduceCtorEq, ↓reduceIte, hlen, mkInts l.length (n + 1) (by omega)] <;> rfl) (w_heap fun G2 hG2 => ?_)
  have b2 : G2 (n + 1) = some ⟨false, 3, ints (preR (secL l h) 0)⟩ := by rw [hG2, preR_zero, secL_len]; simp []
  have c2 : G2 n = some ⟨false, 3, ints (preR (List.range l.length) 0)⟩ := by rw [hG2, upd_ne _ _ (by omega)]; exact b1
  have k2 : Kp n g2 G2 := by rw [hG2]; exact kp_upd k1 (by omega)
  clear hG2 b1 k1
  refine w_assoc (s_run (by simp only [runL, Option.getD_some, List.getElem?_cons_zero, awant_none, astep, evl, put, ap_none, List.length_nil, Nat.add_zero, upd_app, stepCall, reduceCtorEq, ↓reduceIte, hlen] <;> rfl) ?_)
  refine s_rng l.length (fun i t g n' => t 0 = v ∧ t 1 = .int .i64 h ∧ t 6 = .slice (some ⟨n, 0, some l.length⟩) l.length 1 ∧ t 7 = .slice (some ⟨n + 1, 0, some l.length⟩) l.length 1 ∧ g n = some ⟨false, 3, ints (preR (List.range l.length) i)⟩ ∧ g (n + 1) = some ⟨false, 3, ints (preR (secL l h) i)⟩ ∧ Kp n g2 g ∧ n' = n + 2) (by omega) (by simp []) (by simp [upd_app])
    (fun _ => ⟨by simp [upd_app], by simp [upd_app], by simp [upd_app], by simp [upd_app], c2, b2, k2, rfl⟩) (by decide) ?_ ?_
  · clear b2 c2 k2
    rintro i t g n' hi t20 t19 ⟨t0, t1, t6, t7, ba, bc, hkp, hnn⟩
    have hon := on_spec v l i h g (by omega) (by omega) (by omega) (fun x hx => by have := hb x hx; omega) (hkp.src hv2 hvd)
    have ha := preR_set (l := List.range l.length) (k := i) (by simpa using hi)
    have hc := preR_set (l := secL l h) (k := i) (by rw [secL_len]; exact hi)
    rw [range_at hi] at ha
    rw [secL_at hi] at hc
    have la : (preR (List.range l.length) i).length = l.length := by rw [preR_len (by simp; omega)]; simp
    have lc : (preR (secL l h) i).length = l.length := by rw [preR_len (by rw [secL_len]; omega), secL_len]
    have ia := idxI n l.length i l.length hi
    have ic := idxI (n + 1) l.length i l.length hi
    have s1 := stN (m := l.length) (i := i) (x := i) ba la (by rw [la]; exact hi)
    rw [ha] at s1
    have bc' : upd g n (some ⟨false, 3, ints (preR (List.range l.length) (i + 1))⟩) (n + 1) = some ⟨false, 3, ints (preR (secL l h) i)⟩ := by rw [upd_ne _ _ (by omega)]; exact bc
    have s2' := stN (m := l.length) (i := i) (x := onN l i h) bc' lc (by rw [lc]; exact hi)
    rw [hc] at s2'
    refine s_run (by simp only [runL, awant_none, astep, evl, put, ap_none, List.length_nil, Nat.add_zero, upd_app, ↓reduceIte, t20] <;> rfl) ?_
    refine region_take (id := 6) 8 (by simp only [runL, List.take_succ_cons, List.take_zero, awant_none, astep, evl, put, ap_none, List.length_nil, Nat.add_zero, upd_app, reduceCtorEq, ↓reduceIte, Nat.reduceEqDiff, t0, t1, t6, t7] <;> rfl) ?_
    refine ops_call 61 _ rfl (by simp only [upd_app, evl, List.map_cons, List.map_nil]; exact hon) (fun h => (h rfl).elim) ?_
    refine ops_run (by simp only [runL, awant_none, astep, evl, put, ap_none, ap_wr, List.length_nil, Nat.add_zero, upd_app, ↓reduceIte, Nat.reduceEqDiff, undef, ia, s1, ic, s2'] <;> rfl) ?_
    simp only [rngPost]
    exact ⟨by simp [upd_app, t20], by simp [upd_app, t19], fun _ _ _ => ⟨by simp [upd_app, t0], by simp [upd_app, t1], by simp [upd_app, t6], by simp [upd_app, t7], by rw [upd_ne _ _ (by omega), upd_self], by rw [upd_self], kp_upd (kp_upd hkp (Nat.le_refl _)) (by omega), hnn⟩⟩
  rintro t G n' ⟨t0, t1, t6, t7, ba, bc, hkp, rfl⟩
  clear b2 c2 k2
  have hra := preR_all (List.range l.length)
  have hrc := preR_all (secL l h)
  rw [List.length_range] at hra
  rw [secL_len] at hrc
  rw [hra] at ba
  rw [hrc] at bc
  have w1 : IntKind.i64.wrap ((l.length : Int) + 1) = ((l.length + 1 : Nat) : Int) := wrap_succ (by omega)
  have hsa : Src G (.slice (some ⟨n, 0, some l.length⟩) l.length 1) 1 (List.range l.length).length (ints (List.range l.length)) := by rw [List.length_range]; exact src_cells ba (by simp)
  have hsc : Src G (.slice (some ⟨n + 1, 0, some l.length⟩) l.length 1) 1 (secL l h).length (ints (secL l h)) := by rw [secL_len]; exact src_cells bc (by simp [secL_len])
  have hp1 := pass_spec _ _ (List.range l.length) (secL l h) (l.length + 1) G (n + 2) (by rw [secL_len]; omega) (by simp; omega) (by omega) (secL_lt hb) (fun x hx => by rw [secL_len]; simpa using hx) hsa hsc
  have hj1 : passL (List.range l.length) (secL l h) (l.length + 1) = jo1 l h := rfl
  have hz1 : (zs (jo1 l h)).length = l.length := by simp [zs, jo1_len]
  rw [hj1] at hp1
  refine s_take 5 (by simp only [runL, List.take_succ_cons, List.take_zero, awant_none, astep, evl, put, ap_none, List.length_nil, Nat.add_zero, upd_app, stepBin, abin, stepCall, reduceCtorEq, ↓reduceIte, Nat.reduceEqDiff, t0, t6, t7, hlen, w1] <;> rfl) ?_
  refine ops_call 36 _ rfl (by simp only [upd_app, evl, List.map_cons, List.map_nil]; exact hp1) (fun _ => rfl) ?_
  refine ops_heap fun G1 hG1 => ?_
  have b1 : G1 (n + 2) = some ⟨false, 3, ints (jo1 l h)⟩ := by rw [hG1, ints_zs]; simp [okE, ap_new]
  have k1 : Kp (n + 2) G G1 := by rw [hG1]; simp only [okE, ap_new]; exact kp_upd (Kp.refl _ _) (Nat.le_refl _)
  clear hG1 hp1 hsa ba
  refine ops_run (by simp only [runL, List.getElem?_toArray, List.getElem?_cons_succ, List.getElem?_cons_zero, awant_none, astep, evl, put, ap_none, List.length_nil, List.length_cons, Nat.add_zero, Nat.zero_add, upd_app, stepExtract, ↓reduceIte, Nat.reduceEqDiff, okE, hz1] <;> rfl) ?_
  refine w_gen (fun t => t 0 = v ∧ t 6 = .slice (some ⟨n + 2, 0, some l.length⟩) l.length 1 ∧ t 7 = .slice (some ⟨n + 1, 0, some l.length⟩) l.length 1) (by simp [upd_app, t0, t7]) ?_
  clear t0 t1 t6 t7
  rintro t ⟨t0, t6, t7⟩
  show awp _ _ _ _ G1 (n + 3)
  have c1 : G1 (n + 1) = some ⟨false, 3, ints (secL l h)⟩ := by rw [k1 _ (by omega)]; exact bc
  have q1 : Kp n g2 G1 := fun q hq => by rw [k1 q (by omega), hkp q hq]
  clear bc hsc k1 hkp
  have hsa : Src G1 (.slice (some ⟨n + 2, 0, some l.length⟩) l.length 1) 1 (jo1 l h).length (ints (jo1 l h)) := by rw [jo1_len]; exact src_cells b1 (by simp [jo1_len])
  have hp2 := pass_spec _ _ (jo1 l h) l l.length G1 (n + 3) (by omega) (by rw [jo1_len]; omega) (by omega) hb (jo1_lt hb) hsa (q1.src hv2 hvd)
  have hj2 : passL (jo1 l h) l l.length = joL l h := rfl
  have hz2 : (zs (joL l h)).length = l.length := by simp [zs, joL_len]
  rw [hj2] at hp2
  refine s_take 4 (by simp only [runL, List.take_succ_cons, List.take_zero, awant_none, astep, evl, put, ap_none, List.length_nil, Nat.add_zero, upd_app, stepCall, reduceCtorEq, ↓reduceIte, t0, t6, hlen] <;> rfl) ?_
  refine ops_call 36 _ rfl (by simp only [upd_app, evl, List.map_cons, List.map_nil]; exact hp2) (fun _ => rfl) ?_
  refine ops_heap fun G2 hG2 => ?_
  have b2 : G2 (n + 3) = some ⟨false, 3, ints (joL l h)⟩ := by rw [hG2, ints_zs]; simp [okE, ap_new]
  have k2 : Kp (n + 3) G1 G2 := by rw [hG2]; simp only [okE, ap_new]; exact kp_upd (Kp.refl _ _) (Nat.le_refl _)
  clear hG2 hp2 hsa b1
  refine ops_run (by simp only [runL, List.getElem?_toArray, List.getElem?_cons_succ, List.getElem?_cons_zero, awant_none, astep, evl, put, ap_none, List.length_nil, List.length_cons, Nat.add_zero, Nat.zero_add, upd_app, stepExtract, ↓reduceIte, Nat.reduceEqDiff, okE, hz2] <;> rfl) ?_
  refine w_gen (fun t => t 0 = v ∧ t 6 = .slice (some ⟨n + 3, 0, some l.length⟩) l.length 1 ∧ t 7 = .slice (some ⟨n + 1, 0, some l.length⟩) l.length 1) (by simp [upd_app, t0, t7]) ?_
  clear t0 t6 t7
  rintro t ⟨t0, t6, t7⟩
  show awp _ _ _ _ G2 (n + 4)
  have c2 : G2 (n + 1) = some ⟨false, 3, ints (secL l h)⟩ := by rw [k2 _ (by omega)]; exact c1
  have q2 : Kp n g2 G2 := fun q hq => by rw [k2 q (by omega), q1 q hq]
  clear c1 q1 k2
  refine s_run (by simp only [runL, awant_none, astep, evl, put, ap_none, ap_new, List.length_nil, List.length_cons, Nat.add_zero, Nat.zero_add, upd_app, stepCall, ↓reduceIte, t0, hlen, mkInts l.length (n + 4) (by omega)] <;> rfl) (w_heap fun G3 hG3 => ?_)
  have b3 : G3 (n + 4) = some ⟨false, 3, ints (jnRun l h 0)⟩ := by rw [hG3]; simp [jnRun]
  have o3 : G3 (n + 3) = some ⟨false, 3, ints (joL l h)⟩ := by rw [hG3, upd_ne _ _ (by omega)]; exact b2
  have s3 : G3 (n + 1) = some ⟨false, 3, ints (secL l h)⟩ := by rw [hG3, upd_ne _ _ (by omega)]; exact c2
  have q3 : Kp n g2 G3 := by rw [hG3]; exact kp_upd q2 (by omega)
  clear hG3 b2 c2 q2
  refine w_assoc (s_run (by simp only [runL, awant_none, astep, evl, put, ap_none, List.length_nil, Nat.add_zero, upd_app, stepCall, ↓reduceIte, Nat.reduceEqDiff, t6, lenI] <;> rfl) ?_)
  refine s_rng l.length (fun i t g _ => t 0 = v ∧ t 6 = .slice (some ⟨n + 3, 0, some l.length⟩) l.length 1 ∧ t 7 = .slice (some ⟨n + 1, 0, some l.length⟩) l.length 1 ∧ t 9 = .slice (some ⟨n + 4, 0, some l.length⟩) l.length 1 ∧ t 55 = .slice (some ⟨n + 3, 0, some l.length⟩) l.length 1 ∧ g (n + 4) = some ⟨false, 3, ints (jnRun l h i)⟩ ∧ ∀ q, q < n + 4 → g q = G3 q) (by omega) (by simp []) (by simp [upd_app])
    (fun _ => ⟨by simp [upd_app, t0], by simp [upd_app, t6], by simp [upd_app, t7], by simp [upd_app], by simp [upd_app], b3, fun _ _ => rfl⟩) (by decide) ?_ ?_
  · clear t0 t6 t7 b3
    rintro i t g n' hi t57 t56 ⟨t0, t6, t7, t9, t55, bo, ho⟩
    have hlo := joL_len l h
    have og : g (n + 3) = some ⟨false, 3, ints (joL l h)⟩ := by rw [ho _ (by omega)]; exact o3
    have io := idxI (n + 3) l.length i l.length hi
    have lo := ldN (m := l.length) (i := i) og hlo (by rw [hlo]; exact hi)
    have hx := joL_lt (l := l) (h := h) hb (byt (joL l h) i) (by rw [byt_eq (by rw [hlo]; exact hi)]; exact List.getElem_mem _)
    have hsucc : jnRun l h (i + 1) = if 0 < i ∧ jnB l h (byt (joL l h) (i - 1)) (byt (joL l h) i) = true then
      ((jnRun l h i).set (byt (joL l h) i) i).set (byt (joL l h) i) (byt ((jnRun l h i).set (byt (joL l h) i) i) (byt (joL l h) (i - 1)))
      else (jnRun l h i).set (byt (joL l h) i) i := rfl
    have hrl := jnRun_len l h i
    obtain ⟨R, hR⟩ : ∃ R, jnRun l h i = R := ⟨_, rfl⟩
    obtain ⟨x, hxx⟩ : ∃ x, byt (joL l h) i = x := ⟨_, rfl⟩
    rw [hR] at bo hsucc hrl
    rw [hxx] at hsucc hx lo
    have ix := idxI (n + 4) l.length x l.length hx
    have s1 := stN (m := l.length) (i := x) (x := i) bo hrl (by rw [hrl]; exact hx)
    refine s_run (by simp only [runL, awant_none, astep, evl, put, ap_none, List.length_nil, Nat.add_zero, upd_app, ↓reduceIte, Nat.reduceEqDiff, t55, t57, io, lo] <;> rfl) ?_
    refine s_run (by simp only [runL, awant_none, astep, evl, put, ap_none, ap_wr, List.length_nil, Nat.add_zero, upd_app, ↓reduceIte, Nat.reduceEqDiff, undef, t9, ix, s1] <;> rfl) (w_heap fun g1 hg1 => ?_)
    have bo1 : g1 (n + 4) = some ⟨false, 3, ints (R.set x i)⟩ := by rw [hg1, upd_self]
    have ho1 : ∀ q, q < n + 4 → g1 q = G3 q := fun q hq => by rw [hg1, upd_ne _ _ (by omega)]; exact ho q hq
    clear hg1 s1 bo ho og
    refine w_gen (fun t => t 0 = v ∧ t 6 = .slice (some ⟨n + 3, 0, some l.length⟩) l.length 1 ∧ t 7 = .slice (some ⟨n + 1, 0, some l.length⟩) l.length 1 ∧ t 9 = .slice (some ⟨n + 4, 0, some l.length⟩) l.length 1 ∧ t 55 = .slice (some ⟨n + 3, 0, some l.length⟩) l.length 1 ∧ t 10 = .int .i64 i ∧ t 11 = .int .i64 x ∧ t 57 = .int .i64 i ∧ t 56 = .int .i64 l.length) (by simp [upd_app, t0, t6, t7, t9, t55, t57, t56]) ?_
    clear t0 t6 t7 t9 t55 t57 t56
    rintro t ⟨t0, t6, t7, t9, t55, t10, t11, t57, t56⟩
    have stay : jnRun l h (i + 1) = R.set x i → ∀ t' : Nat → Value, t' 57 = .int .i64 i → t' 56 = .int .i64 l.length → t' 0 = t 0 → t' 6 = t 6 → t' 7 = t 7 → t' 9 = t 9 → t' 55 = t 55 → (t' 57 = .int .i64 i ∧ t' 56 = .int .i64 l.length ∧ ∀ v1 v2 v3 : Value, (upd (upd (upd t' 109 v1) 57 v2) 58 v3) 0 = v ∧ (upd (upd (upd t' 109 v1) 57 v2) 58 v3) 6 = .slice (some ⟨n + 3, 0, some l.length⟩) l.length 1 ∧ (upd (upd (upd t' 109 v1) 57 v2) 58 v3) 7 = .slice (some ⟨n + 1, 0, some l.length⟩) l.length 1 ∧ (upd (upd (upd t' 109 v1) 57 v2) 58 v3) 9 = .slice (some ⟨n + 4, 0, some l.length⟩) l.length 1 ∧ (upd (upd (upd t' 109 v1) 57 v2) 58 v3) 55 = .slice (some ⟨n + 3, 0, some l.length⟩) l.length 1 ∧ g1 (n + 4) = some ⟨false, 3, ints (jnRun l h (i + 1))⟩ ∧ ∀ q, q < n + 4 → g1 q = G3 q) := by
      intro hf t' h10 h9 h4 h3 h5 h6 h7
      rw [hf]
      exact ⟨h10, h9, fun _ _ _ => ⟨by simp [upd_app, h4, t0], by simp [upd_app, h3, t6], by simp [upd_app, h5, t7], by simp [upd_app, h6, t9], by simp [upd_app, h7, t55], bo1, ho1⟩⟩
    by_cases c0 : i = 0
    · have d0 : decide ((i : Int) > 0) = false := decide_eq_false (by omega)
      refine s_draw #[0, 1, 3, 7, 7, 7, 39, 119, 247, 511, 1023, 7, 7, 6151, 14343, 32767, 65535, 131071, 262143, 262143, 262143, 1310719, 3932159, 8126463, 16777215, 33554431, 262143, 262143, 201588735, 470024191, 1073741823, 2147483647] (by decide +kernel) (by simp only [runR, awant_some, List.getElem?_toArray, List.getElem?_cons_succ, List.getElem?_cons_zero, Option.bind_some, b_ft, awant_none, astep, evl, put, upd_app, stepBin, abin, stepPick, ↓reduceIte, Nat.reduceEqDiff, Bool.false_eq_true, undef, List.isEmpty_nil, Bool.and_self, t10, d0] <;> rfl) ?_
      refine w_false (by simp [evl]) (w_skip ?_)
      simp only [rngPost]
      exact stay (by rw [hsucc, if_neg (by omega)]) _ (by simp [upd_app, t57]) (by simp [upd_app, t56]) (by simp [upd_app]) (by simp [upd_app]) (by simp [upd_app]) (by simp [upd_app]) (by simp [upd_app])
    have d0 : decide ((i : Int) > 0) = true := decide_eq_true (by omega)
    have w2 : IntKind.i64.wrap ((i : Int) - 1) = ((i - 1 : Nat) : Int) := wrap_sub1 (by omega) (by omega)
    have og : g1 (n + 3) = some ⟨false, 3, ints (joL l h)⟩ := by rw [ho1 _ (by omega)]; exact o3
    have sg : g1 (n + 1) = some ⟨false, 3, ints (secL l h)⟩ := by rw [ho1 _ (by omega)]; exact s3
    have hvg := (show Kp n g2 g1 from fun q hq => by rw [ho1 q (by omega), q3 q hq]).src hv2 hvd
    have io2 := idxI (n + 3) l.length (i - 1) l.length (by omega)
    have lo2 := ldN (m := l.length) (i := i - 1) og hlo (by rw [hlo]; omega)
    have hy := joL_lt (l := l) (h := h) hb (byt (joL l h) (i - 1)) (by rw [byt_eq (by rw [hlo]; omega)]; exact List.getElem_mem _)
    obtain ⟨y, hyy⟩ : ∃ y, byt (joL l h) (i - 1) = y := ⟨_, rfl⟩
    rw [hyy] at hsucc hy lo2
    obtain ⟨p1, ip1, lp1, _⟩ := srcN hvg hy
    obtain ⟨p2, ip2, lp2, _⟩ := srcN hvg hx
    have is1 := idxI (n + 1) l.length y l.length hy
    have is2 := idxI (n + 1) l.length x l.length hx
    have ls1 := ldN (m := l.length) (i := y) sg (secL_len l h) (by rw [secL_len]; exact hy)
    have ls2 := ldN (m := l.length) (i := x) sg (secL_len l h) (by rw [secL_len]; exact hx)
    by_cases c1 : byt l y = byt l x
    · have e1 : (((byt l y : Nat) : Int) == ((byt l x : Nat) : Int)) = true := ieq_t (by omega)
      by_cases c2 : byt (secL l h) y = byt (secL l h) x
      · have e2 : (((byt (secL l h) y : Nat) : Int) == ((byt (secL l h) x : Nat) : Int)) = true := ieq_t (by omega)
        have hB : jnB l h y x = true := by simp [jnB, c1, c2]
        rw [if_pos ⟨by omega, hB⟩] at hsucc
        have iy := idxI (n + 4) l.length y l.length hy
        have hrl2 : (R.set x i).length = l.length := by simp [hrl]
        have ly := ldN (m := l.length) (i := y) bo1 hrl2 (by rw [hrl2]; exact hy)
        have s4 := stN (m := l.length) (i := x) (x := byt (R.set x i) y) bo1 hrl2 (by rw [hrl2]; exact hx)
        rw [← hsucc] at s4
        refine s_draw #[0, 1, 3, 7, 7, 7, 39, 119, 247, 511, 1023, 7, 7, 6151, 14343, 32767, 65535, 131071, 262143, 262143, 262143, 1310719, 3932159, 8126463, 16777215, 33554431, 262143, 262143, 201588735, 470024191, 1073741823, 2147483647] (by decide +kernel) (by simp only [runR, awant_some, List.getElem?_toArray, List.getElem?_cons_succ, List.getElem?_cons_zero, Option.bind_some, b_tt, awant_none, astep, evl, put, upd_app, stepBin, abin, stepPick, reduceCtorEq, ↓reduceIte, Nat.reduceEqDiff, List.isEmpty_nil, Bool.and_self, t0, t6, t7, t10, t11, d0, w2, io2, lo2, ip1, lp1, ip2, lp2, e1, is1, ls1, is2, ls2, e2] <;> rfl) ?_
        refine w_true (by simp [evl]) ?_
        refine w_gen (fun t => t 0 = v ∧ t 6 = .slice (some ⟨n + 3, 0, some l.length⟩) l.length 1 ∧ t 7 = .slice (some ⟨n + 1, 0, some l.length⟩) l.length 1 ∧ t 9 = .slice (some ⟨n + 4, 0, some l.length⟩) l.length 1 ∧ t 55 = .slice (some ⟨n + 3, 0, some l.length⟩) l.length 1 ∧ t 10 = .int .i64 i ∧ t 11 = .int .i64 x ∧ t 57 = .int .i64 i ∧ t 56 = .int .i64 l.length) (by simp [upd_app, t0, t6, t7, t9, t55, t57, t56, t10, t11]) ?_
        clear t0 t6 t7 t9 t55 t57 t56 t10 t11 stay
        rintro t ⟨t0, t6, t7, t9, t55, t10, t11, t57, t56⟩
        refine region_run (id := 16) (by simp only [runL, awant_none, astep, evl, put, ap_none, ap_wr, List.length_nil, Nat.add_zero, upd_app, stepBin, abin, ↓reduceIte, Nat.reduceEqDiff, undef, t6, t9, t10, t11, w2, io2, lo2, iy, ly, ix, s4] <;> rfl) ?_
        simp only [rngPost]
        exact ⟨by simp [upd_app, t57], by simp [upd_app, t56], fun _ _ _ => ⟨by simp [upd_app, t0], by simp [upd_app, t6], by simp [upd_app, t7], by simp [upd_app, t9], by simp [upd_app, t55], by rw [upd_self], fun q hq => by rw [upd_ne _ _ (by omega)]; exact ho1 q hq⟩⟩
      · have e2 : (((byt (secL l h) y : Nat) : Int) == ((byt (secL l h) x : Nat) : Int)) = false := ieq_f (by omega)
        have hB : jnB l h y x = false := by simp [jnB, c1, c2]
        refine s_draw #[0, 1, 3, 7, 7, 7, 39, 119, 247, 511, 1023, 7, 7, 6151, 14343, 32767, 65535, 131071, 262143, 262143, 262143, 1310719, 3932159, 8126463, 16777215, 33554431, 262143, 262143, 201588735, 470024191, 1073741823, 2147483647] (by decide +kernel) (by simp only [runR, awant_some, List.getElem?_toArray, List.getElem?_cons_succ, List.getElem?_cons_zero, Option.bind_some, b_tt, awant_none, astep, evl, put, upd_app, stepBin, abin, stepPick, reduceCtorEq, ↓reduceIte, Nat.reduceEqDiff, List.isEmpty_nil, Bool.and_self, t0, t6, t7, t10, t11, d0, w2, io2, lo2, ip1, lp1, ip2, lp2, e1, is1, ls1, is2, ls2, e2] <;> rfl) ?_
        refine w_false (by simp [evl]) (w_skip ?_)
        simp only [rngPost]
        exact stay (by rw [hsucc, if_neg (by rw [hB]; simp)]) _ (by simp [upd_app, t57]) (by simp [upd_app, t56]) (by simp [upd_app]) (by simp [upd_app]) (by simp [upd_app]) (by simp [upd_app]) (by simp [upd_app])
    · have e1 : (((byt l y : Nat) : Int) == ((byt l x : Nat) : Int)) = false := ieq_f (by omega)
      have hB : jnB l h y x = false := by simp [jnB, c1]
      refine s_draw #[0, 1, 3, 7, 7, 7, 39, 119, 247, 511, 1023, 7, 7, 6151, 14343, 32767, 65535, 131071, 262143, 262143, 262143, 1310719, 3932159, 8126463, 16777215, 33554431, 262143, 262143, 201588735, 470024191, 1073741823, 2147483647] (by decide +kernel) (by simp only [runR, awant_some, List.getElem?_toArray, List.getElem?_cons_succ, List.getElem?_cons_zero, Option.bind_some, b_tt, b_ft, awant_none, astep, evl, put, upd_app, stepBin, abin, stepPick, reduceCtorEq, ↓reduceIte, Nat.reduceEqDiff, Bool.false_eq_true, undef, List.isEmpty_nil, Bool.and_self, t0, t6, t10, t11, d0, w2, io2, lo2, ip1, lp1, ip2, lp2, e1] <;> rfl) ?_
      refine w_false (by simp [evl]) (w_skip ?_)
      simp only [rngPost]
      exact stay (by rw [hsucc, if_neg (by rw [hB]; simp)]) _ (by simp [upd_app, t57]) (by simp [upd_app, t56]) (by simp [upd_app]) (by simp [upd_app]) (by simp [upd_app]) (by simp [upd_app]) (by simp [upd_app])
  · rintro t g n' ⟨t0, t6, t7, t9, t55, bo, ho⟩
    refine s_run (by simp only [runL, awant_none, astep, evl, put, ap_none, List.length_nil, Nat.add_zero, upd_app, ↓reduceIte, Nat.reduceEqDiff, t6, t9] <;> rfl) ?_
    exact w_ret (twE_fin (k0 := n + 4) (k1 := n + 3) rfl (by simp [upd_app]) (jnL_len l h).symm (by simp []) (joL_len l h).symm (by omega) (by omega) (by omega) bo (by rw [ho _ (by omega)]; exact o3) hs hwf (fun q hq => by rw [ho q (by omega), q3 q hq]))
end Go.Proofs.Ytdpkhijbikbhnaa
