import Derived.Test.YtdpkhijbikbhnaaT28
namespace Go.Proofs.Ytdpkhijbikbhnaa
open Go Abs Plain
set_option linter.unusedSimpArgs false
set_option linter.unusedVariables false

/-- The number so many places on, and one; nought behind the end. -/
def onN (l : List Nat) (i h : Nat) : Nat := if l.length ≤ i + h then 0 else byt l (i + h) + 1

set_option maxRecDepth 10000 in
theorem on_spec (v : Value) (l : List Nat) (i h : Nat) (g : Heap) (hl : l.length ≤ 2 ^ 38) (hi : i ≤ 2 ^ 38) (hh : h ≤ 2 ^ 38) (hb : ∀ x ∈ l, x ≤ 2 ^ 38) (hv : Src g v 1 l.length (ints l)) :
    FnSpec Try.prog 61 [v, .int .i64 i, .int .i64 h] g { v := .int .i64 (onN l i h : Nat), r := srcBlk v } := by
  refine spec_of_body [6] follows Try.func61 rfl (by kernel_rfl) (by simp [Try.f61]) (by kernel_rfl) rfl ?_
  intro g2 s2 n hg hfr hs hn hwf hsv
  have hv2 : Src g2 v 1 l.length (ints l) := hv.congr fun i hi => hg i (by simp [Eff.fp, hi])
  have hvd : ∀ i ∈ srcBlk v, i < n := dom_of hs hwf hv2
  have hlen := hv2.len Try.underlying22
  clear hg hfr hn hv
  have w0 : IntKind.i64.wrap ((i : Int) + (h : Int)) = ((i + h : Nat) : Int) := wrap_add (by omega)
  refine s_run (by simp only [runL, awant_none, astep, evl, put, ap_none, List.length_nil, Nat.add_zero, undef] <;> rfl) ?_
  by_cases c : l.length ≤ i + h
  · have d : decide (((i + h : Nat) : Int) ≥ (l.length : Int)) = true := decide_eq_true (by omega)
    have hr : onN l i h = 0 := by unfold onN; rw [if_pos c]
    refine w_assoc (s_run (by simp only [runL, Option.getD_some, List.getElem?_cons_succ, List.getElem?_cons_zero, awant_none, astep, evl, put, ap_none, List.length_nil, Nat.add_zero, upd_app, stepBin, abin, stepCall, reduceCtorEq, ↓reduceIte, Nat.reduceEqDiff, hlen, w0, d] <;> rfl) ?_)
    refine s_true (by simp [evl]) (w_assoc (s_run (by simp only [runL, awant_none, astep, evl, put, ap_none, List.length_nil, Nat.add_zero] <;> rfl) ?_))
    exact s_ret ⟨.inr rfl, by simp, [], fin_none (by simp [resVal, hr]) trivial (fun _ _ h => h)⟩
  · have d : decide (((i + h : Nat) : Int) ≥ (l.length : Int)) = false := decide_eq_false (by omega)
    have hr : onN l i h = byt l (i + h) + 1 := by unfold onN; rw [if_neg c]
    obtain ⟨p, i1, l1, _⟩ := srcN hv2 (show i + h < l.length by omega)
    have hx := hb (byt l (i + h)) (by rw [byt_eq (by omega)]; exact List.getElem_mem _)
    have w1 : IntKind.i64.wrap (((byt l (i + h) : Nat) : Int) + 1) = ((byt l (i + h) + 1 : Nat) : Int) := wrap_succ (by omega)
    refine w_assoc (s_run (by simp only [runL, Option.getD_some, List.getElem?_cons_succ, List.getElem?_cons_zero, awant_none, astep, evl, put, ap_none, List.length_nil, Nat.add_zero, upd_app, stepBin, abin, stepCall, reduceCtorEq, ↓reduceIte, Nat.reduceEqDiff, hlen, w0, d] <;> rfl) ?_)
    refine s_false (by simp [evl]) (s_skip ?_)
    refine s_run (by simp only [runL, Option.getD_some, List.getElem?_cons_succ, List.getElem?_cons_zero, awant_none, astep, evl, put, ap_none, List.length_nil, Nat.add_zero, upd_app, stepBin, abin, reduceCtorEq, ↓reduceIte, Nat.reduceEqDiff, w0, i1, l1, w1] <;> rfl) ?_
    exact w_ret ⟨.inr rfl, by simp, [], fin_none (by simp [resVal, hr]) trivial (fun _ _ h => h)⟩

/-- Of each place how many have a less number. -/
def drL (s : List Nat) : List Nat := s.map fun x => s.countP fun y => decide (y < x)
theorem drL_len (s : List Nat) : (drL s).length = s.length := by simp [drL]
theorem drL_at {s : List Nat} {i : Nat} (h : i < s.length) : byt (drL s) i = s.countP fun y => decide (y < byt s i) := by
  rw [byt_eq (by rw [drL_len]; exact h), byt_eq h]; simp [drL]
theorem srt_cnt (s : List Nat) (x : Nat) : (srt (zs s)).countP (fun y => decide (y < (x : Int))) = s.countP fun y => decide (y < x) := by
  unfold srt
  rw [(List.mergeSort_perm _ _).countP_eq, List.countP_map]
  apply List.countP_congr
  intro y _
  simp
theorem srt_up (s : List Int) : (srt s).Pairwise (· ≤ ·) := by
  have := List.pairwise_mergeSort (le := fun x y : Int => decide (x ≤ y)) (by intro a b c; simp; omega) (by intro a b; simp; omega) s
  unfold srt
  exact this.imp (by intro a b h; simpa using h)
/-- The first k of a row's new numbers, then noughts. -/
theorem drL_le (s : List Nat) : ∀ x ∈ drL s, x ≤ s.length := by
  intro x hx
  obtain ⟨y, _, rfl⟩ := List.mem_map.1 hx
  exact List.countP_le_length

set_option maxRecDepth 20000 in
theorem dranks_spec (v : Value) (s : List Nat) (g : Heap) (jj : Nat) (hl : s.length ≤ 2 ^ 37) (hv : Src g v 1 s.length (ints s)) :
    FnSpec Try.prog 40 [v] g { v := .slice (some ⟨jj, 0, some s.length⟩) s.length 1, r := srcBlk v, j := jj, a := [⟨false, 3, ints (drL s)⟩] } := by
  refine spec_of_body [2] follows Try.func40 rfl (by kernel_rfl) (by simp [Try.f40]) (by kernel_rfl) rfl ?_
  intro g2 s2 n hg hfr hs hn hwf hsv
  have hv2 : Src g2 v 1 s.length (ints s) := hv.congr fun i hi => hg i (by simp [Eff.fp, hi])
  have hvd : ∀ i ∈ srcBlk v, i < n := dom_of hs hwf hv2
  have hlen := hv2.len Try.underlying22
  clear hg hfr hn hv
  refine s_run (by simp only [runL, awant_none, astep, evl, put, ap_none, List.length_nil, Nat.add_zero, undef] <;> rfl) ?_
  have hval := values_spec v _ _ g2 n hv2
  refine s_take 1 (by simp only [runL, Option.getD_some, List.getElem?_cons_zero, List.take_succ_cons, List.take_zero, awant_none, astep, evl, put, ap_none, List.length_nil, Nat.add_zero, upd_app, reduceCtorEq, ↓reduceIte] <;> rfl) ?_
  refine ops_call 49 _ rfl (by simp only [upd_app, evl, List.map_cons, List.map_nil]; exact hval) (fun _ => rfl) ?_
  refine ops_heap fun G2 hG2 => ?_
  have k2 : Kp n g2 G2 := by rw [hG2]; simp only [ap_new]; exact kp_upd (Kp.refl _ _) (Nat.le_refl _)
  have hbox : BoxA n v (zs s) G2 := by
    refine ⟨by rw [hG2]; simp [ap_new], ?_⟩
    have := k2.src hv2 hvd
    rw [ints_zs] at this; simpa [zs] using this
  have hso := sorted_spec n v (zs s) G2 (n + 1) (by simp [zs]; omega) hbox
  refine ops_call 48 _ rfl (by simp only [upd_app, evl, put, List.map_cons, List.map_nil]; exact hso) (fun _ => newE_j _ _ _ _) ?_
  refine ops_heap fun G3 hG3 => ?_
  have k3 : Kp (n + 1) G2 G3 := by rw [hG3]; exact newE_kp (Kp.refl _ _) (Nat.le_refl _)
  have hsr3 : Src G3 (newE 3 (intsI (srt (zs s))) (n :: srcBlk v) (n + 1)).v 1 (intsI (srt (zs s))).length (intsI (srt (zs s))) := by rw [hG3]; exact newE_src 3 (intsI (srt (zs s))) (n :: srcBlk v) (n + 1) G2
  have hdm3 := newE_blk 3 (intsI (srt (zs s))) (n :: srcBlk v) (n + 1)
  obtain ⟨z3, hz3⟩ : ∃ z, (newE 3 (intsI (srt (zs s))) (n :: srcBlk v) (n + 1)).v = z := ⟨_, rfl⟩
  rw [hz3] at hsr3 hdm3
  refine ops_run (by simp only [runL, awant_none, astep, evl, put, ap_none, List.length_nil, List.length_cons, Nat.add_zero, Nat.zero_add, upd_app, ↓reduceIte, hz3] <;> rfl) ?_
  have q3 : Kp n g2 G3 := fun q hq => by rw [k3 q (by omega), k2 q hq]
  clear hval k2 hbox hso k3 hG2 hG3
  refine w_gen (fun t => t 0 = v ∧ t 3 = z3) (by simp [upd_app]) ?_
  rintro t ⟨t0, t3⟩
  refine w_num fun N hN => ?_
  replace hN : N = n + 1 + (newE 3 (intsI (srt (zs s))) (n :: srcBlk v) (n + 1)).a.length := hN
  have hNn : n + 1 ≤ N := by omega
  have hz3d : ∀ i ∈ srcBlk z3, i < N := fun i hi => by have := hdm3 i hi; omega
  clear hN hdm3 hz3
  show awp _ _ _ _ G3 N
  have hlen3 : (intsI (srt (zs s))).length = (srt (zs s)).length := by simp
  rw [hlen3] at hsr3
  have hzl : (srt (zs s)).length = s.length := by simp [srt_len, zs]
  refine s_run (by simp only [runL, awant_none, astep, evl, put, ap_none, ap_new, List.length_nil, List.length_cons, Nat.add_zero, Nat.zero_add, upd_app, stepCall, ↓reduceIte, t0, hlen, mkInts s.length N (by omega)] <;> rfl) (w_heap fun G1 hG1 => ?_)
  have b1 : G1 N = some ⟨false, 3, ints (mixR (drL s) (List.replicate s.length 0) 0)⟩ := by rw [hG1]; simp [mixR]
  have k1 : Kp N G3 G1 := by rw [hG1]; exact kp_upd (Kp.refl _ _) (Nat.le_refl _)
  clear hG1
  refine w_assoc (s_run (by simp only [runL, awant_none, astep, evl, put, ap_none, List.length_nil, Nat.add_zero, upd_app, stepCall, reduceCtorEq, ↓reduceIte, t0, hlen] <;> rfl) ?_)
  refine s_rng s.length (fun i t g n' => t 3 = z3 ∧ t 4 = .slice (some ⟨N, 0, some s.length⟩) s.length 1 ∧ t 13 = v ∧ g N = some ⟨false, 3, ints (mixR (drL s) (List.replicate s.length 0) i)⟩ ∧ Kp N G3 g) (by omega) (by simp []) (by simp [upd_app])
    (fun _ => ⟨by simp [upd_app, t3], by simp [upd_app], by simp [upd_app], b1, k1⟩) (by decide) ?_ ?_
  · clear b1 k1 t0 t3
    rintro i t g n' hi t15 t14 ⟨t3, t4, t13, b, hkp⟩
    obtain ⟨p, i1, l1, _⟩ := srcN (hkp.src (q3.src hv2 hvd) (fun i hi => by have := hvd i hi; omega)) hi
    have hbs := bsearch_spec z3 (srt (zs s)) ((byt s i : Nat) : Int) g (by omega) (hkp.src hsr3 hz3d) (srt_up _)
    rw [srt_cnt] at hbs
    have hml : (mixR (drL s) (List.replicate s.length 0) i).length = s.length := by rw [mixR_len (by simp [drL_len]), drL_len]
    have hset := mixR_set (a := drL s) (b := List.replicate s.length 0) (k := i) (by simp [drL_len]) (by simpa using hi)
    rw [drL_at hi] at hset
    have iy := idxI N s.length i s.length hi
    obtain ⟨c, hc⟩ : ∃ c, (s.countP fun y => decide (y < byt s i)) = c := ⟨_, rfl⟩
    rw [hc] at hset hbs
    have s1 := stN (m := s.length) (i := i) (x := c) b hml (by rw [hml]; exact hi)
    rw [hset] at s1
    refine s_run (by simp only [runL, awant_none, astep, evl, put, ap_none, List.length_nil, Nat.add_zero, upd_app, ↓reduceIte, Nat.reduceEqDiff, t13, t15, i1, l1] <;> rfl) ?_
    refine region_take (id := 6) 4 (by simp only [runL, List.take_succ_cons, List.take_zero, awant_none, astep, evl, put, ap_none, List.length_nil, Nat.add_zero, upd_app, ↓reduceIte, Nat.reduceEqDiff, t3, t4] <;> rfl) ?_
    refine ops_call 60 _ rfl (by simp only [upd_app, evl, List.map_cons, List.map_nil]; exact hbs) (fun h => (h rfl).elim) ?_
    refine ops_run (by simp only [runL, List.getElem?_toArray, List.getElem?_cons_succ, List.getElem?_cons_zero, awant_none, astep, evl, put, ap_none, ap_wr, List.length_nil, Nat.add_zero, upd_app, stepExtract, ↓reduceIte, Nat.reduceEqDiff, undef, iy, s1] <;> rfl) ?_
    simp only [rngPost]
    exact ⟨by simp [upd_app, t15], by simp [upd_app, t14], fun _ _ _ => ⟨by simp [upd_app, t3], by simp [upd_app, t4], by simp [upd_app, t13], by simp [], kp_upd hkp (Nat.le_refl _)⟩⟩
  · rintro t g n' ⟨t3, t4, t13, b, hkp⟩
    have e := mixR_all (a := drL s) (b := List.replicate s.length 0) (by simp [drL_len])
    rw [List.length_replicate] at e
    rw [e] at b
    refine s_run (by simp only [runL, awant_none, astep, evl, put, ap_none, List.length_nil, Nat.add_zero, upd_app, ↓reduceIte, t4] <;> rfl) ?_
    exact w_ret (sl_fin (k := N) rfl (by simp []) (by simp [drL_len]) (by omega) b (plain_is _) hs hwf (fun q hq => by rw [hkp q (by omega), q3 q hq]))
end Go.Proofs.Ytdpkhijbikbhnaa
