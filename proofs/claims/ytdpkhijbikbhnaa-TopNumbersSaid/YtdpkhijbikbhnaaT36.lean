import Derived.Test.YtdpkhijbikbhnaaT35
namespace Go.Proofs.Ytdpkhijbikbhnaa
open Go Abs Plain
set_option linter.unusedSimpArgs false
set_option linter.unusedVariables false

/-- The ranks of the places behind. -/
def behL (s r : List Nat) : List Nat := (List.range s.length).map fun i => byt r (i + 1)
theorem behL_len (s r : List Nat) : (behL s r).length = s.length := by simp [behL]
theorem behL_at {s r : List Nat} {i : Nat} (h : i < s.length) : byt (behL s r) i = byt r (i + 1) := by rw [byt_eq (by rw [behL_len]; exact h)]; simp [behL]
/-- The others, sorted. -/
def otL (s : List Nat) (k : Nat) (r : List Nat) : List Nat := passL (passL (plM s.length 0) (behL s r) (s.length + 1)) (keysL s 0) (k + 1)
theorem otL_len (s : List Nat) (k : Nat) (r : List Nat) : (otL s k r).length = plN s.length 0 := by simp [otL, passL_len, plM_len]
theorem behL_lt {s r : List Nat} (h : ∀ x ∈ r, x ≤ s.length) : ∀ x ∈ behL s r, x < s.length + 1 := fun x hx => by
  obtain ⟨i, _, rfl⟩ := List.mem_map.1 hx
  exact byt_mem_lt (m := s.length + 1) (fun y hy => by have := h y hy; omega) (by omega)
theorem ot1_perm {s r : List Nat} (h : ∀ x ∈ r, x ≤ s.length) : (passL (plM s.length 0) (behL s r) (s.length + 1)).Perm (plM s.length 0) := passL_perm fun x hx => by
  have := plM_lt (m := s.length) (r := 0) (by omega) x hx
  exact behL_lt h _ (by rw [byt_eq (by rw [behL_len]; exact this)]; exact List.getElem_mem _)
theorem otL_perm {s r : List Nat} {k : Nat} (hk : ∀ x ∈ s, x < k) (h : ∀ x ∈ r, x ≤ s.length) : (otL s k r).Perm (plM s.length 0) := (passL_perm fun x hx => keysL_key hk (plM_lt (r := 0) (by omega) x ((ot1_perm h).mem_iff.1 hx))).trans (ot1_perm h)
/-- Those of the sample that are less than j are taken. -/
def mgIn (s r : List Nat) (j : Nat) : List Nat → List Nat → List Nat × List Nat
  | l, [] => (l, [])
  | l, x :: o => if lessB s r x j = true then mgIn s r j (l ++ [x]) o else (l, x :: o)
def mgRun (s r o ot : List Nat) : Nat → List Nat × List Nat
  | 0 => ([], o)
  | i + 1 => ((mgIn s r (byt ot i) (mgRun s r o ot i).1 (mgRun s r o ot i).2).1 ++ [byt ot i], (mgIn s r (byt ot i) (mgRun s r o ot i).1 (mgRun s r o ot i).2).2)
def mgL (s r o ot : List Nat) : List Nat := (mgRun s r o ot ot.length).1 ++ (mgRun s r o ot ot.length).2
theorem mgIn_len (s r : List Nat) (j : Nat) : ∀ (o l : List Nat), (mgIn s r j l o).1.length + (mgIn s r j l o).2.length = l.length + o.length
  | [], l => rfl
  | x :: o, l => by
    rw [mgIn]
    split
    · rw [mgIn_len s r j o (l ++ [x])]; simp; omega
    · rfl
theorem mgIn_sub (s r : List Nat) (j : Nat) : ∀ (o l : List Nat), ∀ x ∈ (mgIn s r j l o).2, x ∈ o
  | [], l, x, hx => hx
  | y :: o, l, x, hx => by
    rw [mgIn] at hx
    split at hx
    · exact List.mem_cons_of_mem _ (mgIn_sub s r j o _ x hx)
    · exact hx
theorem mgRun_len (s r o ot : List Nat) : ∀ i, (mgRun s r o ot i).1.length + (mgRun s r o ot i).2.length = o.length + i
  | 0 => by simp [mgRun]
  | i + 1 => by
    have := mgRun_len s r o ot i
    have h2 := mgIn_len s r (byt ot i) (mgRun s r o ot i).2 (mgRun s r o ot i).1
    simp only [mgRun, List.length_append, List.length_singleton]
    omega
theorem mgRun_sub (s r o ot : List Nat) : ∀ i, ∀ x ∈ (mgRun s r o ot i).2, x ∈ o
  | 0, x, hx => hx
  | i + 1, x, hx => mgRun_sub s r o ot i x (mgIn_sub _ _ _ _ _ x hx)
/-- Endings in order, by thirds; at most f times deep. -/
def skewF : Nat → List Nat → Nat → List Nat
  | 0, _, _ => []
  | f + 1, s, k => if s.length < 2 then plM s.length 0 else mgL s (rkd (skewF f) s k).2 (rkd (skewF f) s k).1 (otL s k (rkd (skewF f) s k).2)
/-- It goes through. -/
def SkewOk : Nat → List Nat → Nat → Prop
  | 0, _, _ => False
  | f + 1, s, k => s.length ≤ 100000 ∧ k ≤ 1000000 ∧ (∀ x ∈ s, x < k) ∧ (2 ≤ s.length → (rnRun s (sk3 s k) (sk3 s k).length).2 ≠ (sk3 s k).length →
      SkewOk f (belL s.length (rnRun s (sk3 s k) (sk3 s k).length).1) ((rnRun s (sk3 s k) (sk3 s k).length).2 + 1) ∧
      (∀ x ∈ skewF f (belL s.length (rnRun s (sk3 s k) (sk3 s k).length).1) ((rnRun s (sk3 s k) (sk3 s k).length).2 + 1), x < plN s.length 1 + 1 + plN s.length 2) ∧
      (skewF f (belL s.length (rnRun s (sk3 s k) (sk3 s k).length).1) ((rnRun s (sk3 s k) (sk3 s k).length).2 + 1)).length ≤ 2 ^ 37 ∧
      (bkM s.length (skewF f (belL s.length (rnRun s (sk3 s k) (sk3 s k).length).1) ((rnRun s (sk3 s k) (sk3 s k).length).2 + 1))).length ≠ 0 ∧
      (bkM s.length (skewF f (belL s.length (rnRun s (sk3 s k) (sk3 s k).length).1) ((rnRun s (sk3 s k) (sk3 s k).length).2 + 1))).length ≤ s.length)
theorem seRun_le {r o : List Nat} {m : Nat} (h : ∀ x ∈ r, x ≤ m) (ho : o.length ≤ m) : ∀ i, i ≤ o.length → ∀ x ∈ seRun r o i, x ≤ m
  | 0, _, x, hx => h x hx
  | i + 1, hi, x, hx => by
    rw [seRun] at hx
    rcases List.mem_or_eq_of_mem_set hx with hx | hx
    · exact seRun_le h ho i (by omega) x hx
    · omega
/-- What a sample's order and ranks are. -/
structure RkOk (s : List Nat) (o r : List Nat) : Prop where
  sub : ∀ x ∈ o, x ∈ smpL s.length
  ol : o.length ≤ s.length
  rl : r.length = s.length + 3
  rle : ∀ x ∈ r, x ≤ s.length
theorem rkd_ok {f : Nat} {s : List Nat} {k : Nat} (h : SkewOk (f + 1) s k) (h2 : 2 ≤ s.length) : RkOk s (rkd (skewF f) s k).1 (rkd (skewF f) s k).2 := by
  obtain ⟨hl, hk, hsk, hrec⟩ := h
  have hol : (sk3 s k).length = plN s.length 1 + plN s.length 2 := sk3R_len s k 3
  have hop : (sk3 s k).Perm (smpL s.length) := sk3R_perm hsk 3
  have hp : plN s.length 1 + plN s.length 2 ≤ s.length := by unfold plN; omega
  have hrl := rnRun_len s (sk3 s k) (sk3 s k).length
  have hrn := rnRun_n s (sk3 s k) (sk3 s k).length
  have hrle := rnRun_le s (sk3 s k) (sk3 s k).length
  have hrle' : ∀ x ∈ (rnRun s (sk3 s k) (sk3 s k).length).1, x ≤ s.length := fun x hx => by have := hrle x hx; omega
  unfold rkd
  by_cases c : (rnRun s (sk3 s k) (sk3 s k).length).2 = (sk3 s k).length
  · simp only [c, if_true]
    exact ⟨fun x hx => hop.mem_iff.1 hx, by omega, by rw [hrl], hrle'⟩
  · obtain ⟨h3, h4, h5, h6, h7⟩ := hrec h2 c
    simp only [c, if_false]
    exact ⟨fun x hx => bkM_sub h4 x hx, h7, by rw [seRun_len, hrl], seRun_le hrle' h7 _ (Nat.le_refl _)⟩
theorem smpL_mod {m : Nat} : ∀ x ∈ smpL m, x % 3 ≠ 0 := fun x hx => by
  rcases List.mem_append.1 hx with h | h
  · obtain ⟨q, _, rfl⟩ := List.mem_map.1 h
    show (3 * q + 1) % 3 ≠ 0
    omega
  · obtain ⟨q, _, rfl⟩ := List.mem_map.1 h
    show (3 * q + 2) % 3 ≠ 0
    omega
theorem plM0_mod {m : Nat} : ∀ x ∈ plM m 0, x % 3 = 0 := fun x hx => by
  obtain ⟨q, _, rfl⟩ := List.mem_map.1 hx
  show (3 * q + 0) % 3 = 0
  omega
theorem slNil : stepSlice Try.prog 22 (.slice none 0 0) none (some (.int .i64 ((0 : Nat) : Int))) = some { v := .slice none 0 0 } := by
  simp [stepSlice, Try.underlying22, boundOf, tsize3]

set_option maxRecDepth 40000 in
set_option maxHeartbeats 2000000 in
theorem sksort_spec : ∀ (f : Nat) (v : Value) (s : List Nat) (k : Nat) (g : Heap) (j : Nat), SkewOk f s k → Src g v 1 s.length (ints s) → FnSpec Try.prog 19 [v, .int .i64 k] g (newE 3 (ints (skewF f s k)) (srcBlk v) j) := by
  intro f
  induction f with
  | zero => intro v s k g j h _; exact h.elim
  | succ f ih =>
  intro v s k g jj hok hv
  have hrk := rkd_ok hok
  obtain ⟨hl, hk, hsk, hrec⟩ := hok
  refine spec_of_body [4] follows Try.func19 rfl (by kernel_rfl) (by simp [Try.f19]) (by kernel_rfl) rfl ?_
  intro g2 s2 n hg hfr hs hn hwf hsv
  rw [newE_fp] at hg
  have hv2 : Src g2 v 1 s.length (ints s) := hv.congr fun i hi => hg i hi
  have hvd := dom_of hs hwf hv2
  have hlen := hv2.len Try.underlying22
  clear hg hfr hn hv
  have hx38 : ∀ x ∈ s, x ≤ 2 ^ 38 := fun x hx => by have := hsk x hx; omega
  refine s_run (by simp only [runL, awant_none, astep, evl, put, ap_none, List.length_nil, Nat.add_zero, undef] <;> rfl) ?_
  by_cases c2 : s.length < 2
  · have d : decide ((s.length : Int) < 2) = true := decide_eq_true (by omega)
    have hF : skewF (f + 1) s k = plM s.length 0 := by rw [skewF, if_pos c2]
    rw [hF]
    refine w_assoc (s_run (by simp only [runL, Option.getD_some, List.getElem?_cons_zero, awant_none, astep, evl, put, ap_none, List.length_nil, Nat.add_zero, upd_app, stepBin, abin, stepCall, reduceCtorEq, ↓reduceIte, hlen, d] <;> rfl) ?_)
    refine s_true (by simp [evl]) ?_
    refine w_assoc (s_take 2 (by simp only [runL, Option.getD_some, List.getElem?_cons_zero, List.take_succ_cons, List.take_zero, awant_none, astep, evl, put, ap_none, List.length_nil, Nat.add_zero, upd_app, stepCall, reduceCtorEq, ↓reduceIte, hlen] <;> rfl) ?_)
    refine ops_call 34 _ rfl (by simp only [upd_app, evl, List.map_cons, List.map_nil]; exact places_spec s.length 0 g2 n hl (by omega)) (fun _ => newE_j _ _ _ _) ?_
    by_cases c0 : s.length = 0
    · have h0 : plM s.length 0 = [] := by rw [c0]; rfl
      have e0 : newE 3 (ints (plM s.length 0)) [] n = { v := .slice none 0 0, r := [], j := n } := by rw [h0]; exact newE_nil rfl
      rw [e0]
      rw [c0] at hlen
      refine ops_run (by simp only [runL, Option.getD_some, List.getElem?_cons_zero, awant_none, astep, evl, put, ap_none, List.length_nil, Nat.add_zero, upd_app, stepCall, reduceCtorEq, ↓reduceIte, Nat.reduceEqDiff, Option.map_some, Option.map_none, hlen, slNil] <;> rfl) ?_
      refine s_ret ⟨.inr rfl, by simp, ?_⟩
      rw [h0]
      have := (Own.nil 3 g2 n n).fin (r := srcBlk v) (j := jj) (by simp) hs hwf (Kp.refl _ _)
      simpa [resVal, upd_app, put] using this
    · have c1 : s.length = 1 := by omega
      have h1 : plM s.length 0 = [0] := by rw [c1]; rfl
      have e0 : newE 3 (ints (plM s.length 0)) [] n = { v := .slice (some ⟨n, 0, some 1⟩) 1 1, r := [], j := n, a := [⟨false, 3, ints [0]⟩] } := by rw [h1]; exact newE_own (by simp)
      rw [e0]
      rw [c1] at hlen
      have hsl : stepSlice Try.prog 22 (.slice (some ⟨n, 0, some 1⟩) 1 1) none (some (.int .i64 ((1 : Nat) : Int))) = some { v := .slice (some ⟨n, 0, some 1⟩) 1 1 } := slHiOwn (Nat.le_refl _) (by omega)
      refine ops_heap fun G1 hG1 => ?_
      have b1 : G1 n = some ⟨false, 3, ints [0]⟩ := by rw [hG1]; simp [ap_new]
      have k1 : Kp n g2 G1 := by rw [hG1]; simp only [ap_new]; exact kp_upd (Kp.refl _ _) (Nat.le_refl _)
      clear hG1
      refine ops_run (by simp only [runL, Option.getD_some, List.getElem?_cons_zero, awant_none, astep, evl, put, ap_none, List.length_nil, List.length_cons, Nat.add_zero, Nat.zero_add, upd_app, stepCall, reduceCtorEq, ↓reduceIte, Nat.reduceEqDiff, List.map_cons, List.map_nil, Option.map_some, Option.map_none, hlen, hsl] <;> rfl) ?_
      refine s_ret ⟨.inr rfl, by simp, ?_⟩
      rw [h1]
      have hO : Own 3 G1 (.slice (some ⟨n, 0, some 1⟩) 1 1) (ints [0]) n (n + 1) := (show OwnB 3 G1 (.slice (some ⟨n, 0, some 1⟩) 1 1) (ints [0]) n from ⟨rfl, b1⟩).toOwn (by simp) (Nat.le_refl _) (Nat.lt_succ_self _)
      have := hO.fin (r := srcBlk v) (j := jj) (plain_is _) hs hwf k1
      simpa [resVal, upd_app, put] using this
  have h2 : 2 ≤ s.length := by omega
  have hF : skewF (f + 1) s k = mgL s (rkd (skewF f) s k).2 (rkd (skewF f) s k).1 (otL s k (rkd (skewF f) s k).2) := by rw [skewF, if_neg c2]
  have d : decide ((s.length : Int) < 2) = false := decide_eq_false (by omega)
  have hrkd := ranked_spec (skewF f) v s k g2 n h2 hl hk hsk hv2 (fun hc => by
    obtain ⟨h3, h4, h5, h6, h7⟩ := hrec h2 hc
    exact ⟨h5, h4, h6, fun v' g j hs => ih v' _ _ g j h3 hs⟩)
  have hrk := hrk h2
  obtain ⟨o, ho⟩ : ∃ o, (rkd (skewF f) s k).1 = o := ⟨_, rfl⟩
  obtain ⟨r, hr⟩ : ∃ r, (rkd (skewF f) s k).2 = r := ⟨_, rfl⟩
  rw [ho, hr] at hrk hrkd hF
  rw [hF]
  obtain ⟨hsub, hol, hrl, hrle⟩ := hrk
  clear ho hr hrec ih hF
  have hp0 : plN s.length 0 ≠ 0 := by unfold plN; omega
  have hp0l : plN s.length 0 ≤ 100000 := by unfold plN; omega
  have hl0 : (ints (plM s.length 0)).length = plN s.length 0 := by simp [plM_len]
  refine w_assoc (s_run (by simp only [runL, Option.getD_some, List.getElem?_cons_zero, awant_none, astep, evl, put, ap_none, List.length_nil, Nat.add_zero, upd_app, stepBin, abin, stepCall, reduceCtorEq, ↓reduceIte, hlen, d] <;> rfl) ?_)
  refine s_false (by simp [evl]) (s_skip ?_)
  refine s_take 2 (by simp only [runL, Option.getD_some, List.getElem?_cons_succ, List.getElem?_cons_zero, List.take_succ_cons, List.take_zero, awant_none, astep, evl, put, ap_none, List.length_nil, Nat.add_zero, upd_app, reduceCtorEq, ↓reduceIte, Nat.reduceEqDiff] <;> rfl) ?_
  refine ops_call 35 _ rfl (by simp only [upd_app, evl, List.map_cons, List.map_nil]; exact hrkd) (fun _ => rfl) ?_
  refine ops_heap fun G1 hG1 => ?_
  rw [twE_ap] at hG1
  have bo : G1 n = some ⟨false, 3, ints o⟩ := by rw [hG1, upd_ne _ _ (by omega), upd_self]
  have br : G1 (n + 1) = some ⟨false, 3, ints r⟩ := by rw [hG1, upd_self]
  have k1 : Kp n g2 G1 := by rw [hG1]; exact kp_upd (kp_upd (Kp.refl _ _) (Nat.le_refl _)) (by omega)
  clear hG1 hrkd
  refine ops_run (by simp only [runL, List.getElem?_toArray, List.getElem?_cons_succ, List.getElem?_cons_zero, awant_none, astep, evl, put, ap_none, List.length_nil, List.length_cons, Nat.add_zero, Nat.zero_add, upd_app, stepExtract, ↓reduceIte, Nat.reduceEqDiff, Nat.reduceAdd, twE, hrl] <;> rfl) ?_
  refine w_gen (fun t => t 0 = v ∧ t 1 = .int .i64 k ∧ t 5 = .slice (some ⟨n, 0, some o.length⟩) o.length 1 ∧ t 6 = .slice (some ⟨n + 1, 0, some (s.length + 3)⟩) (s.length + 3) 1) (by simp [upd_app]) ?_
  rintro t ⟨t0, t1, t5, t6⟩
  show awp _ _ _ _ G1 (n + 2)
  refine s_take 2 (by simp only [runL, List.take_succ_cons, List.take_zero, awant_none, astep, evl, put, ap_none, List.length_nil, Nat.add_zero, upd_app, stepCall, ↓reduceIte, t0, hlen] <;> rfl) ?_
  refine ops_call 34 _ rfl (by simp only [upd_app, evl, List.map_cons, List.map_nil]; exact places_spec s.length 0 G1 (n + 2) hl (by omega)) (fun _ => newE_j _ _ _ _) ?_
  have e0 : newE 3 (ints (plM s.length 0)) [] (n + 2) = { v := .slice (some ⟨n + 2, 0, some (plN s.length 0)⟩) (plN s.length 0) 1, r := [], j := n + 2, a := [⟨false, 3, ints (plM s.length 0)⟩] } := by rw [newE_own (by rw [hl0]; exact hp0), hl0]
  rw [e0]
  refine ops_heap fun G2 hG2 => ?_
  have b2 : G2 (n + 2) = some ⟨false, 3, ints (plM s.length 0)⟩ := by rw [hG2]; simp [ap_new]
  have k2 : Kp (n + 2) G1 G2 := by rw [hG2]; simp only [ap_new]; exact kp_upd (Kp.refl _ _) (Nat.le_refl _)
  clear hG2
  refine ops_run (by simp only [runL, awant_none, astep, evl, put, ap_none, List.length_nil, List.length_cons, Nat.add_zero, Nat.zero_add, upd_app, ↓reduceIte] <;> rfl) ?_
  refine w_gen (fun t => t 0 = v ∧ t 1 = .int .i64 k ∧ t 5 = .slice (some ⟨n, 0, some o.length⟩) o.length 1 ∧ t 6 = .slice (some ⟨n + 1, 0, some (s.length + 3)⟩) (s.length + 3) 1 ∧ t 7 = .slice (some ⟨n + 2, 0, some (plN s.length 0)⟩) (plN s.length 0) 1) (by simp [upd_app, t0, t1, t5, t6]) ?_
  clear t0 t1 t5 t6
  rintro t ⟨t0, t1, t5, t6, t7⟩
  show awp _ _ _ _ G2 (n + 3)
  refine s_run (by simp only [runL, awant_none, astep, evl, put, ap_none, ap_new, List.length_nil, List.length_cons, Nat.add_zero, Nat.zero_add, upd_app, stepCall, ↓reduceIte, t0, hlen, mkInts s.length (n + 3) (by omega)] <;> rfl) (w_heap fun G3 hG3 => ?_)
  have b3 : G3 (n + 3) = some ⟨false, 3, ints (preR (behL s r) 0)⟩ := by rw [hG3, preR_zero, behL_len]; simp []
  have k3 : Kp (n + 3) G2 G3 := by rw [hG3]; exact kp_upd (Kp.refl _ _) (Nat.le_refl _)
  clear hG3
  refine w_assoc (s_run (by simp only [runL, awant_none, astep, evl, put, ap_none, List.length_nil, Nat.add_zero, upd_app, stepCall, ↓reduceIte, lenI] <;> rfl) ?_)
  refine s_rng s.length (fun i t g n' => t 0 = v ∧ t 1 = .int .i64 k ∧ t 5 = .slice (some ⟨n, 0, some o.length⟩) o.length 1 ∧ t 6 = .slice (some ⟨n + 1, 0, some (s.length + 3)⟩) (s.length + 3) 1 ∧ t 7 = .slice (some ⟨n + 2, 0, some (plN s.length 0)⟩) (plN s.length 0) 1 ∧ t 8 = .slice (some ⟨n + 3, 0, some s.length⟩) s.length 1 ∧ g (n + 3) = some ⟨false, 3, ints (preR (behL s r) i)⟩ ∧ Kp (n + 3) G2 g ∧ n' = n + 4) (by omega) (by simp []) (by simp [upd_app])
    (fun _ => ⟨by simp [upd_app, t0], by simp [upd_app, t1], by simp [upd_app, t5], by simp [upd_app, t6], by simp [upd_app, t7], by simp [upd_app], b3, k3, rfl⟩) (by decide) ?_ ?_
  · clear t0 t1 t5 t6 t7 b3 k3
    rintro i t g n' hi t36 t35 ⟨t0, t1, t5, t6, t7, t8, b, hkp, hnn⟩
    have rg : g (n + 1) = some ⟨false, 3, ints r⟩ := by rw [hkp _ (by omega), k2 _ (by omega)]; exact br
    have w1 : IntKind.i64.wrap ((i : Int) + 1) = ((i + 1 : Nat) : Int) := wrap_succ (by omega)
    have ir := idxI (n + 1) (s.length + 3) (i + 1) (s.length + 3) (by omega)
    have lr := ldN (m := s.length + 3) (i := i + 1) rg hrl (by omega)
    have hp := preR_set (l := behL s r) (k := i) (by rw [behL_len]; exact hi)
    rw [behL_at hi] at hp
    have hpl : (preR (behL s r) i).length = s.length := by rw [preR_len (by rw [behL_len]; omega), behL_len]
    have iy := idxI (n + 3) s.length i s.length hi
    have s1 := stN (m := s.length) (i := i) (x := byt r (i + 1)) b hpl (by rw [hpl]; exact hi)
    rw [hp] at s1
    refine s_run (by simp only [runL, awant_none, astep, evl, put, ap_none, List.length_nil, Nat.add_zero, upd_app, ↓reduceIte, t36] <;> rfl) ?_
    refine region_run (id := 9) (by simp only [runL, awant_none, astep, evl, put, ap_none, ap_wr, List.length_nil, Nat.add_zero, upd_app, stepBin, abin, ↓reduceIte, Nat.reduceEqDiff, undef, t6, t8, w1, ir, lr, iy, s1] <;> rfl) ?_
    simp only [rngPost]
    exact ⟨by simp [upd_app, t36], by simp [upd_app, t35], fun _ _ _ => ⟨by simp [upd_app, t0], by simp [upd_app, t1], by simp [upd_app, t5], by simp [upd_app, t6], by simp [upd_app, t7], by simp [upd_app, t8], by rw [upd_self], kp_upd hkp (Nat.le_refl _), hnn⟩⟩
  clear t0 t1 t5 t6 t7 b3 k3
  rintro t g n' ⟨t0, t1, t5, t6, t7, t8, bb, hkp, rfl⟩
  have hpa := preR_all (behL s r)
  rw [behL_len] at hpa
  rw [hpa] at bb
  have q3 : Kp n g2 g := fun q hq => by rw [hkp q (by omega), k2 q (by omega), k1 q hq]
  have o3 : g n = some ⟨false, 3, ints o⟩ := by rw [hkp _ (by omega), k2 _ (by omega)]; exact bo
  have r3 : g (n + 1) = some ⟨false, 3, ints r⟩ := by rw [hkp _ (by omega), k2 _ (by omega)]; exact br
  have p3 : g (n + 2) = some ⟨false, 3, ints (plM s.length 0)⟩ := by rw [hkp _ (by omega)]; exact b2
  clear bo br b2 k1 k2 hkp
  have hlen3 := (q3.src hv2 hvd).len Try.underlying22
  have w1 : IntKind.i64.wrap ((s.length : Int) + 1) = ((s.length + 1 : Nat) : Int) := wrap_succ (by omega)
  have hsp : Src g (.slice (some ⟨n + 2, 0, some (plN s.length 0)⟩) (plN s.length 0) 1) 1 (plM s.length 0).length (ints (plM s.length 0)) := by rw [plM_len]; exact src_cells p3 (by simp [plM_len])
  have hsb : Src g (.slice (some ⟨n + 3, 0, some s.length⟩) s.length 1) 1 (behL s r).length (ints (behL s r)) := by rw [behL_len]; exact src_cells bb (by simp [behL_len])
  have hps := pass_spec _ _ (plM s.length 0) (behL s r) (s.length + 1) g (n + 4) (by rw [behL_len]; omega) (by rw [plM_len]; omega) (by omega) (behL_lt hrle) (fun x hx => by rw [behL_len]; exact plM_lt (by omega) x hx) hsp hsb
  have hop1 := ot1_perm (r := r) hrle
  have hoe : otL s k r = passL (passL (plM s.length 0) (behL s r) (s.length + 1)) (keysL s 0) (k + 1) := rfl
  have hopr := otL_perm (k := k) hsk hrle
  have hotl := otL_len s k r
  have ho1l : (passL (plM s.length 0) (behL s r) (s.length + 1)).length = plN s.length 0 := by rw [passL_len, plM_len]
  obtain ⟨o1, ho1⟩ : ∃ o1, passL (plM s.length 0) (behL s r) (s.length + 1) = o1 := ⟨_, rfl⟩
  rw [ho1] at hps hop1 hoe ho1l
  have hz1 : (zs o1).length = plN s.length 0 := by simp [zs, ho1l]
  refine s_take 5 (by simp only [runL, List.take_succ_cons, List.take_zero, awant_none, astep, evl, put, ap_none, List.length_nil, Nat.add_zero, upd_app, stepBin, abin, stepCall, reduceCtorEq, ↓reduceIte, Nat.reduceEqDiff, t0, t7, t8, hlen3, w1] <;> rfl) ?_
  refine ops_call 36 _ rfl (by simp only [upd_app, evl, List.map_cons, List.map_nil]; exact hps) (fun _ => rfl) ?_
  refine ops_heap fun G4 hG4 => ?_
  have b4 : G4 (n + 4) = some ⟨false, 3, ints o1⟩ := by rw [hG4, ints_zs]; simp [okE, ap_new]
  have k4 : Kp (n + 4) g G4 := by rw [hG4]; simp only [okE, ap_new]; exact kp_upd (Kp.refl _ _) (Nat.le_refl _)
  clear hG4 hps hsp hsb bb p3
  refine ops_run (by simp only [runL, List.getElem?_toArray, List.getElem?_cons_succ, List.getElem?_cons_zero, awant_none, astep, evl, put, ap_none, List.length_nil, List.length_cons, Nat.add_zero, Nat.zero_add, upd_app, stepExtract, ↓reduceIte, Nat.reduceEqDiff, okE, hz1] <;> rfl) ?_
  refine w_gen (fun t => t 0 = v ∧ t 1 = .int .i64 k ∧ t 5 = .slice (some ⟨n, 0, some o.length⟩) o.length 1 ∧ t 6 = .slice (some ⟨n + 1, 0, some (s.length + 3)⟩) (s.length + 3) 1 ∧ t 7 = .slice (some ⟨n + 4, 0, some (plN s.length 0)⟩) (plN s.length 0) 1) (by simp [upd_app, t0, t1, t5, t6]) ?_
  clear t0 t1 t5 t6 t7 t8
  rintro t ⟨t0, t1, t5, t6, t7⟩
  show awp _ _ _ _ G4 (n + 5)
  have q4 : Kp n g2 G4 := fun q hq => by rw [k4 q (by omega), q3 q hq]
  have o4 : G4 n = some ⟨false, 3, ints o⟩ := by rw [k4 _ (by omega)]; exact o3
  have r4 : G4 (n + 1) = some ⟨false, 3, ints r⟩ := by rw [k4 _ (by omega)]; exact r3
  clear q3 o3 r3 k4 hlen3
  refine s_take 2 (by simp only [runL, List.take_succ_cons, List.take_zero, awant_none, astep, evl, put, ap_none, List.length_nil, Nat.add_zero, upd_app, reduceCtorEq, ↓reduceIte, t0, t7] <;> rfl) ?_
  refine ops_call 37 _ rfl (by simp only [upd_app, evl, List.map_cons, List.map_nil]; exact keys_spec v s 0 G4 (n + 5) (by omega) (by omega) hx38 (q4.src hv2 hvd)) (fun _ => rfl) ?_
  dsimp only
  refine ops_heap fun G5 hG5 => ?_
  have b5 : G5 (n + 5) = some ⟨false, 3, ints (keysL s 0)⟩ := by rw [hG5]; simp [ap_new]
  have k5 : Kp (n + 5) G4 G5 := by rw [hG5]; simp only [ap_new]; exact kp_upd (Kp.refl _ _) (Nat.le_refl _)
  clear hG5
  have w2 : IntKind.i64.wrap ((k : Int) + 1) = ((k + 1 : Nat) : Int) := wrap_succ (by omega)
  refine ops_take 2 (by simp only [runL, List.take_succ_cons, List.take_zero, awant_none, astep, evl, put, ap_none, List.length_nil, List.length_cons, Nat.add_zero, Nat.zero_add, upd_app, stepBin, abin, ↓reduceIte, Nat.reduceEqDiff, t1, w2] <;> rfl) ?_
  have hs1 : Src G5 (.slice (some ⟨n + 4, 0, some (plN s.length 0)⟩) (plN s.length 0) 1) 1 o1.length (ints o1) := by rw [ho1l]; exact src_cells (by rw [k5 _ (by omega)]; exact b4) (by simp [ho1l])
  have hs2' : Src G5 (.slice (some ⟨n + 5, 0, some s.length⟩) s.length 1) 1 (keysL s 0).length (ints (keysL s 0)) := by rw [keysL_len]; exact src_cells b5 (by simp [keysL_len])
  have hps := pass_spec _ _ o1 (keysL s 0) (k + 1) G5 (n + 6) (by rw [keysL_len]; omega) (by omega) (by omega) (keysL_lt hsk) (fun x hx => by rw [keysL_len]; exact plM_lt (by omega) x (hop1.mem_iff.1 hx)) hs1 hs2'
  rw [← hoe] at hps
  have hz2 : (zs (otL s k r)).length = plN s.length 0 := by simp [zs, hotl]
  refine ops_call 36 _ rfl (by simp only [upd_app, evl, List.map_cons, List.map_nil]; exact hps) (fun _ => rfl) ?_
  refine ops_heap fun G6 hG6 => ?_
  have b6 : G6 (n + 6) = some ⟨false, 3, ints (otL s k r)⟩ := by rw [hG6, ints_zs]; simp [okE, ap_new]
  have k6 : Kp (n + 6) G5 G6 := by rw [hG6]; simp only [okE, ap_new]; exact kp_upd (Kp.refl _ _) (Nat.le_refl _)
  clear hG6 hps hs1 hs2' b5 b4
  refine ops_run (by simp only [runL, List.getElem?_toArray, List.getElem?_cons_succ, List.getElem?_cons_zero, awant_none, astep, evl, put, ap_none, List.length_nil, List.length_cons, Nat.add_zero, Nat.zero_add, upd_app, stepExtract, ↓reduceIte, Nat.reduceEqDiff, okE, hz2] <;> rfl) ?_
  refine w_gen (fun t => t 0 = v ∧ t 5 = .slice (some ⟨n, 0, some o.length⟩) o.length 1 ∧ t 6 = .slice (some ⟨n + 1, 0, some (s.length + 3)⟩) (s.length + 3) 1 ∧ t 7 = .slice (some ⟨n + 6, 0, some (plN s.length 0)⟩) (plN s.length 0) 1) (by simp [upd_app, t0, t5, t6]) ?_
  clear t0 t1 t5 t6 t7
  rintro t ⟨t0, t5, t6, t7⟩
  show awp _ _ _ _ G6 (n + 7)
  have q6 : Kp n g2 G6 := fun q hq => by rw [k6 q (by omega), k5 q (by omega), q4 q hq]
  have o6 : G6 n = some ⟨false, 3, ints o⟩ := by rw [k6 _ (by omega), k5 _ (by omega)]; exact o4
  have r6 : G6 (n + 1) = some ⟨false, 3, ints r⟩ := by rw [k6 _ (by omega), k5 _ (by omega)]; exact r4
  clear q4 o4 r4 k5 k6
  obtain ⟨ot, hot⟩ : ∃ ot, otL s k r = ot := ⟨_, rfl⟩
  rw [hot] at hopr hotl b6 ⊢
  clear hoe hz2 hop1 ho1 ho1l hz1 hot
  have hso : Src G6 (.slice (some ⟨n, 0, some o.length⟩) o.length 1) 1 o.length (ints o) := src_cells o6 (by simp)
  refine s_run (by simp only [runL, awant_none, astep, evl, put, ap_none, List.length_nil, Nat.add_zero] <;> rfl) ?_
  refine w_assoc (s_run (by simp only [runL, awant_none, astep, evl, put, ap_none, List.length_nil, Nat.add_zero, upd_app, stepCall, ↓reduceIte, Nat.reduceEqDiff, t7, lenI] <;> rfl) ?_)
  refine s_rng (plN s.length 0) (fun i t g n' => t 0 = v ∧ t 6 = .slice (some ⟨n + 1, 0, some (s.length + 3)⟩) (s.length + 3) 1 ∧ t 66 = .slice (some ⟨n + 6, 0, some (plN s.length 0)⟩) (plN s.length 0) 1 ∧ Own 3 g (t 10) (ints (mgRun s r o ot i).1) (n + 7) n' ∧ Src g (t 5) 1 (mgRun s r o ot i).2.length (ints (mgRun s r o ot i).2) ∧ (∀ q ∈ srcBlk (t 5), q = n) ∧ Kp (n + 7) G6 g ∧ n + 7 ≤ n') (by omega) (by simp []) (by simp [upd_app])
    (fun _ => ⟨by simp [upd_app, t0], by simp [upd_app, t6], by simp [upd_app], by simp [upd_app, mgRun]; exact Own.nil _ _ _ _, by simp only [upd_app, mgRun]; simp only [Nat.reduceEqDiff, ↓reduceIte, t5]; exact hso, by simp only [upd_app]; simp only [Nat.reduceEqDiff, ↓reduceIte, t5]; exact fun q hq => srcBlk_own q hq, Kp.refl _ _, Nat.le_refl _⟩) (by decide) ?_ ?_
  · clear t0 t5 t6 t7
    rintro i t g n' hi t68 t67 ⟨t0, t6, t66, hO, hS, hSb, hkp, hnn⟩
    have hml := mgRun_len s r o ot i
    have hms := mgRun_sub s r o ot i
    have hsucc : mgRun s r o ot (i + 1) = ((mgIn s r (byt ot i) (mgRun s r o ot i).1 (mgRun s r o ot i).2).1 ++ [byt ot i], (mgIn s r (byt ot i) (mgRun s r o ot i).1 (mgRun s r o ot i).2).2) := rfl
    have bg : g (n + 6) = some ⟨false, 3, ints ot⟩ := by rw [hkp _ (by omega)]; exact b6
    have ix := idxI (n + 6) (plN s.length 0) i (plN s.length 0) hi
    have lx' := ldN (m := plN s.length 0) (i := i) bg hotl (by omega)
    have hx := hopr.mem_iff.1 (show byt ot i ∈ ot by rw [byt_eq (by omega)]; exact List.getElem_mem _)
    have hx1 := plM_lt (m := s.length) (r := 0) (by omega) _ hx
    have hx3 := plM0_mod _ hx
    clear hx
    obtain ⟨x, hxx⟩ : ∃ x, byt ot i = x := ⟨_, rfl⟩
    rw [hxx] at hsucc lx' hx1 hx3
    obtain ⟨l0, hl0'⟩ : ∃ l, (mgRun s r o ot i).1 = l := ⟨_, rfl⟩
    obtain ⟨o0, ho0⟩ : ∃ l, (mgRun s r o ot i).2 = l := ⟨_, rfl⟩
    rw [hl0', ho0] at hsucc hml
    rw [hl0'] at hO
    rw [ho0] at hS hms
    have hbnd : l0.length + o0.length ≤ 200000 := by omega
    obtain ⟨T, hT⟩ : ∃ T, mgIn s r x l0 o0 = T := ⟨_, rfl⟩
    have hTl := mgIn_len s r x o0 l0
    rw [hT] at hsucc hTl
    refine s_run (by simp only [runL, awant_none, astep, evl, put, ap_none, List.length_nil, Nat.add_zero, upd_app, ↓reduceIte, t66, t68, ix, lx'] <;> rfl) ?_
    refine s_block (fun t g n' => t 0 = v ∧ t 6 = .slice (some ⟨n + 1, 0, some (s.length + 3)⟩) (s.length + 3) 1 ∧ t 66 = .slice (some ⟨n + 6, 0, some (plN s.length 0)⟩) (plN s.length 0) 1 ∧ t 12 = .int .i64 x ∧ t 68 = .int .i64 i ∧ t 67 = .int .i64 (plN s.length 0) ∧ Own 3 g (t 10) (ints T.1) (n + 7) n' ∧ Src g (t 5) 1 T.2.length (ints T.2) ∧ (∀ q ∈ srcBlk (t 5), q = n) ∧ Kp (n + 7) G6 g ∧ n + 7 ≤ n') ?_ ?_
    · refine w_loop (fun t g n' => ∃ l rest, mgIn s r x l rest = T ∧ l.length + rest.length ≤ 200000 ∧ (∀ y ∈ rest, y ∈ o) ∧ t 0 = v ∧ t 6 = .slice (some ⟨n + 1, 0, some (s.length + 3)⟩) (s.length + 3) 1 ∧ t 66 = .slice (some ⟨n + 6, 0, some (plN s.length 0)⟩) (plN s.length 0) 1 ∧ t 12 = .int .i64 x ∧ t 68 = .int .i64 i ∧ t 67 = .int .i64 (plN s.length 0) ∧ Own 3 g (t 10) (ints l) (n + 7) n' ∧ Src g (t 5) 1 rest.length (ints rest) ∧ (∀ q ∈ srcBlk (t 5), q = n) ∧ Kp (n + 7) G6 g ∧ n + 7 ≤ n')
        (fun t _ _ => match t 5 with | .slice _ m _ => m | _ => 0) ⟨l0, o0, hT, hbnd, hms, by simp [upd_app, t0], by simp [upd_app, t6], by simp [upd_app, t66], by simp [], by simp [upd_app, t68], by simp [upd_app, t67], by simpa [upd_app] using hO, by simpa [upd_app] using hS, by simpa [upd_app] using hSb, hkp, hnn⟩ ?_
      clear t0 t6 t66 hO hS hSb hkp hnn t68 t67 hms hbnd bg hT hl0' ho0 hml hTl hsucc
      rintro t g n' ⟨l, rest, hT, hbnd, hms, t0, t6, t66, t12, t68, t67, hO, hS, hSb, hkp, hnn⟩
      obtain ⟨a5, e5, h5⟩ := src_form hS
      obtain ⟨u, hu⟩ : ∃ u, t 5 = u := ⟨_, rfl⟩
      rw [hu] at hS hSb h5
      have hμ : (match t 5 with | .slice _ m _ => m | _ => 0) = rest.length := by rw [hu, h5]
      rw [hμ]
      have hul := hS.len Try.underlying22
      cases rest with
      | nil =>
        have d0 : decide (((([] : List Nat).length : Nat) : Int) > 0) = false := decide_eq_false (by simp)
        refine w_assoc (s_run (by simp only [runL, awant_some, List.getElem?_toArray, List.getElem?_cons_succ, List.getElem?_cons_zero, Option.bind_some, awant_none, astep, evl, put, ap_none, List.length_nil, Nat.add_zero, upd_app, stepBin, abin, stepPick, stepCall, reduceCtorEq, ↓reduceIte, Nat.reduceEqDiff, undef, hu, hul] <;> rfl) ?_)
        refine s_false (by simp [evl]) (s_exit ?_)
        have hT' : T = (l, []) := hT.symm
        rw [hT']
        exact ⟨by simp [upd_app, t0], by simp [upd_app, t6], by simp [upd_app, t66], by simp [upd_app, t12], by simp [upd_app, t68], by simp [upd_app, t67], by simpa [upd_app] using hO, by simpa [upd_app, hu] using hS, by simpa [upd_app, hu] using hSb, hkp, hnn⟩
      | cons y rest =>
        have d0 : decide (((rest.length + 1 : Nat) : Int) > 0) = true := decide_eq_true (by omega)
        have hym := hsub y (hms y (by simp))
        have hy1 := smpL_lt y hym
        have hy3 := smpL_mod y hym
        obtain ⟨p, i1, l1, hpb⟩ := srcN hS (show 0 < (y :: rest).length by simp)
        have hb0 : byt (y :: rest) 0 = y := rfl
        rw [hb0] at l1
        rw [show ((0 : Nat) : Int) = 0 from rfl] at i1
        have rg : g (n + 1) = some ⟨false, 3, ints r⟩ := by rw [hkp _ (by omega)]; exact r6
        have hrs : Src g (.slice (some ⟨n + 1, 0, some (s.length + 3)⟩) (s.length + 3) 1) 1 r.length (ints r) := by rw [hrl]; exact src_cells rg (by simp [hrl])
        have hle := less_spec v (.slice (some ⟨n + 1, 0, some (s.length + 3)⟩) (s.length + 3) 1) s r y x g (by omega) (by omega) (by omega) (by omega) hx38 hy3 hx3 ((show Kp n g2 g from fun q hq => by rw [hkp q (by omega), q6 q hq]).src hv2 hvd) hrs
        have hmg : mgIn s r x l (y :: rest) = if lessB s r y x = true then mgIn s r x (l ++ [y]) rest else (l, y :: rest) := rfl
        refine w_assoc (s_take 10 (by simp only [runL, awant_some, List.getElem?_toArray, List.getElem?_cons_succ, List.getElem?_cons_zero, Option.bind_some, b_tt, List.take_succ_cons, List.take_zero, awant_none, astep, evl, put, ap_none, List.length_nil, List.length_cons, Nat.add_zero, upd_app, stepBin, abin, stepCall, reduceCtorEq, ↓reduceIte, Nat.reduceEqDiff, t0, t6, hu, t12, hul, d0, i1, l1] <;> rfl) ?_)
        refine g_call 38 _ (by simp only [awant_some, List.getElem?_toArray, List.getElem?_cons_succ, List.getElem?_cons_zero, Option.bind_some, b_tt, upd_app, ↓reduceIte, Nat.reduceEqDiff] <;> rfl) rfl (by simp only [upd_app, evl, List.map_cons, List.map_nil]; exact hle) (by simp) ?_
        cases hb : lessB s r y x with
        | false =>
          rw [hb, if_neg (by simp)] at hmg
          rw [hT] at hmg
          refine ops_run (by simp only [runL, awant_none, astep, evl, put, ap_none, List.length_nil, Nat.add_zero, upd_app, stepPick, ↓reduceIte, Nat.reduceEqDiff] <;> rfl) ?_
          refine s_false (by simp [evl]) (s_exit ?_)
          rw [hmg]
          exact ⟨by simp [upd_app, t0], by simp [upd_app, t6], by simp [upd_app, t66], by simp [upd_app, t12], by simp [upd_app, t68], by simp [upd_app, t67], by simpa [upd_app, put] using hO, by simpa [upd_app, put, hu] using hS, by simpa [upd_app, put, hu] using hSb, hkp, hnn⟩
        | true =>
          rw [hb, if_pos rfl] at hmg
          rw [hT] at hmg
          obtain ⟨sl1, sl2, sl3⟩ := sliceLo hS (a := 1) (by simp)
          have hd1 : (y :: rest).drop 1 = rest := rfl
          rw [hd1] at sl2
          rw [show ((1 : Nat) : Int) = 1 from rfl] at sl1
          refine ops_run (by simp only [runL, awant_none, astep, evl, put, ap_none, List.length_nil, Nat.add_zero, upd_app, stepPick, ↓reduceIte, Nat.reduceEqDiff] <;> rfl) ?_
          refine s_true (by simp [evl]) (s_skip (w_block ?_))
          refine w_gen (fun t => t 0 = v ∧ t 6 = .slice (some ⟨n + 1, 0, some (s.length + 3)⟩) (s.length + 3) 1 ∧ t 66 = .slice (some ⟨n + 6, 0, some (plN s.length 0)⟩) (plN s.length 0) 1 ∧ t 12 = .int .i64 x ∧ t 68 = .int .i64 i ∧ t 67 = .int .i64 (plN s.length 0) ∧ Own 3 g (t 10) (ints l) (n + 7) n' ∧ t 5 = u) (by simp [upd_app, t0, t6, t66, t12, t68, t67, hu]; exact hO) ?_
          clear t0 t6 t66 t12 t68 t67 hu hμ hO
          rintro t ⟨t0, t6, t66, t12, t68, t67, hO, t5⟩
          have hpn : p.block = n := hSb _ hpb
          obtain ⟨f, hf, hO', hk'⟩ := hO.push (P := Try.prog) (T := 22) (c := .int .i64 (y : Nat)) Try.underlying22 tinf3 (by simp at hbnd ⊢; omega) (by omega) hnn
          obtain ⟨fr, fw⟩ := hO.append_fp (j := n' + 1) hf (by omega) (by omega)
          refine region_drawn #[0, 0, 2, 6, 14, 31, 0, 64, 63, 511] (by decide +kernel) ?_
          refine d_pure 3 (by simp only [runP, List.take_succ_cons, List.take_zero, awant_none, astep, evl, put, upd_app, ↓reduceIte, Nat.reduceEqDiff, List.isEmpty_nil, Bool.and_self, t5, i1] <;> rfl) ?_
          dsimp only
          refine d_low { v := .int .i64 (y : Nat), r := [p.block] } (by simp only [astep, evl, upd_app, ↓reduceIte, l1] <;> rfl) rfl (AccB.nil (n + 7) n' 3) (by intro z hz; simp at hz; omega) rfl rfl hnn fun acc h1 => ?_
          refine d_new _ (by simp only [astep, evl, put, upd_app, ↓reduceIte, List.map_cons, List.map_nil, undef, litI_1] <;> rfl) rfl h1 rfl rfl _ rfl rfl hnn fun acc h2 => ?_
          refine d_full f (by simp only [astep, evl, put, ap_new, upd_app, stepCall, ↓reduceIte, Nat.reduceEqDiff, hf] <;> rfl) rfl h2 rfl (fun z hz => by
            rcases fr z hz with h | h
            · omega
            · have := srcBlk_own z h; omega) (fun z hz => fw z hz) (Nat.le_refl _) fun acc h3 => ?_
          refine d_pure 4 (by simp only [runP, List.take_succ_cons, List.take_zero, awant_none, astep, evl, put, ap_new, List.length_cons, upd_app, ↓reduceIte, Nat.reduceEqDiff, Option.map_some, Option.map_none, List.isEmpty_nil, Bool.and_self, t5, sl1] <;> rfl) ?_
          refine ⟨⟨l ++ [y], rest, hmg.symm, by simp at hbnd ⊢; omega, fun z hz => hms z (by simp [hz]), by simp [upd_app, t0], by simp [upd_app, t6], by simp [upd_app, t66], by simp [upd_app, t12], by simp [upd_app, t68], by simp [upd_app, t67], ?_, ?_, ?_, fun q hq => by rw [← hkp q hq]; exact hk' q (by omega), by show n + 7 ≤ n' + 1 + f.a.length; omega⟩, ?_⟩
          · rw [← ints_app]; simpa [upd_app, put] using hO'
          · exact sl2.congr fun q hq => hk' q (by have := hSb q (sl3 q hq); omega)
          · exact fun q hq => hSb q (sl3 q hq)
          · obtain ⟨a6, e6, h6⟩ := src_form sl2
            show (match slV u 1 (y :: rest).length with | .slice _ m _ => m | _ => 0) < (y :: rest).length
            rw [h6]
            show rest.length < (y :: rest).length
            simp
    · rintro t g n' ⟨t0, t6, t66, t12, t68, t67, hO, hS, hSb, hkp, hnn⟩
      obtain ⟨f, hf, hO', hk'⟩ := hO.push (P := Try.prog) (T := 22) (c := .int .i64 (x : Nat)) Try.underlying22 tinf3 (by simp; omega) (by omega) hnn
      refine region_run (id := 19) (by simp only [runL, awant_none, astep, evl, put, ap_none, ap_new, List.length_nil, List.length_cons, Nat.add_zero, Nat.zero_add, upd_app, stepCall, ↓reduceIte, Nat.reduceEqDiff, List.map_cons, List.map_nil, undef, t12, litI_1, hf] <;> rfl) ?_
      simp only [rngPost]
      refine ⟨by simp [upd_app, t68], by simp [upd_app, t67], fun _ _ _ => ⟨by simp [upd_app, t0], by simp [upd_app, t6], by simp [upd_app, t66], ?_, ?_, ?_, fun q hq => by rw [hk' q (by omega)]; exact hkp q hq, by omega⟩⟩
      · rw [hsucc, ← ints_app]; simpa [upd_app] using hO'
      · rw [hsucc]
        have : Src (f.ap (upd g n' (some ⟨false, 3, [.int .i64 (x : Nat)]⟩))) (t 5) 1 T.2.length (ints T.2) := hS.congr fun q hq => hk' q (by have := hSb q hq; omega)
        simpa [upd_app] using this
      · simpa [upd_app] using hSb
  · clear t0 t5 t6 t7
    rintro t g n' ⟨t0, t6, t66, hO, hS, hSb, hkp, hnn⟩
    rw [← hotl] at hO hS
    have hml := mgRun_len s r o ot ot.length
    obtain ⟨f, hf, hO', hk'⟩ := hO.append (P := Try.prog) (T := 22) (news := ints (mgRun s r o ot ot.length).2) (by simpa using hS) Try.underlying22 tinf3 (by simp; omega) (by omega) hnn
    refine s_run (by simp only [runL, awant_none, astep, evl, put, ap_none, List.length_nil, Nat.add_zero, upd_app, stepCall, ↓reduceIte, Nat.reduceEqDiff, hf] <;> rfl) ?_
    refine w_ret ⟨.inr rfl, by simp, ?_⟩
    have hO2 : Own 3 (f.ap g) f.v (ints (mgL s r o ot)) n (n' + f.a.length) := by
      have : ints (mgL s r o ot) = ints (mgRun s r o ot ot.length).1 ++ ints (mgRun s r o ot ot.length).2 := by rw [ints_app]; rfl
      rw [this]; exact hO'.low (by omega)
    have := hO2.fin (r := srcBlk v) (j := jj) (plain_is _) hs hwf (fun q hq => by rw [hk' q (by omega), hkp q (by omega), q6 q hq])
    simpa [resVal, upd_app, put] using this
end Go.Proofs.Ytdpkhijbikbhnaa
