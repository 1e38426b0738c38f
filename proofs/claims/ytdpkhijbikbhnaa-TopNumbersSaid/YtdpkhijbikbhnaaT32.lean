import Derived.Test.YtdpkhijbikbhnaaT31
namespace Go.Proofs.Ytdpkhijbikbhnaa
open Go Abs Plain
set_option linter.unusedSimpArgs false
set_option linter.unusedVariables false

/-- A number, and one more; nought behind the end. -/
def keyN (s : List Nat) (i : Nat) : Nat := if s.length ≤ i then 0 else byt s i + 1
theorem keyN_le {s : List Nat} {k : Nat} (h : ∀ x ∈ s, x < k) (i : Nat) : keyN s i ≤ k := by
  unfold keyN; split
  · omega
  · rename_i hh
    have := h (byt s i) (by rw [byt_eq (by omega)]; exact List.getElem_mem _)
    omega

set_option maxRecDepth 10000 in
theorem key_spec (v : Value) (l : List Nat) (i : Nat) (g : Heap) (hl : l.length ≤ 2 ^ 38) (hb : ∀ x ∈ l, x ≤ 2 ^ 38) (hv : Src g v 1 l.length (ints l)) :
    FnSpec Try.prog 59 [v, .int .i64 i] g { v := .int .i64 (keyN l i : Nat), r := srcBlk v } := by
  refine spec_of_body [4] follows Try.func59 rfl (by kernel_rfl) (by simp [Try.f59]) (by kernel_rfl) rfl ?_
  intro g2 s2 n hg hfr hs hn hwf hsv
  have hv2 : Src g2 v 1 l.length (ints l) := hv.congr fun i hi => hg i (by simp [Eff.fp, hi])
  have hvd : ∀ i ∈ srcBlk v, i < n := dom_of hs hwf hv2
  have hlen := hv2.len Try.underlying22
  clear hg hfr hn hv
  refine s_run (by simp only [runL, awant_none, astep, evl, put, ap_none, List.length_nil, Nat.add_zero, undef] <;> rfl) ?_
  by_cases c : l.length ≤ i
  · have d : decide (((i : Nat) : Int) ≥ (l.length : Int)) = true := decide_eq_true (by omega)
    have hr : keyN l i = 0 := by unfold keyN; rw [if_pos c]
    refine w_assoc (s_run (by simp only [runL, Option.getD_some, List.getElem?_cons_succ, List.getElem?_cons_zero, awant_none, astep, evl, put, ap_none, List.length_nil, Nat.add_zero, upd_app, stepBin, abin, stepCall, reduceCtorEq, ↓reduceIte, Nat.reduceEqDiff, hlen, d] <;> rfl) ?_)
    refine s_true (by simp [evl]) (w_assoc (s_run (by simp only [runL, awant_none, astep, evl, put, ap_none, List.length_nil, Nat.add_zero] <;> rfl) ?_))
    exact s_ret ⟨.inr rfl, by simp, [], fin_none (by simp [resVal, hr]) trivial (fun _ _ h => h)⟩
  · have d : decide (((i : Nat) : Int) ≥ (l.length : Int)) = false := decide_eq_false (by omega)
    have hr : keyN l i = byt l i + 1 := by unfold keyN; rw [if_neg c]
    obtain ⟨p, i1, l1, _⟩ := srcN hv2 (show i < l.length by omega)
    have hx := hb (byt l i) (by rw [byt_eq (by omega)]; exact List.getElem_mem _)
    have w1 : IntKind.i64.wrap (((byt l i : Nat) : Int) + 1) = ((byt l i + 1 : Nat) : Int) := wrap_succ (by omega)
    refine w_assoc (s_run (by simp only [runL, Option.getD_some, List.getElem?_cons_succ, List.getElem?_cons_zero, awant_none, astep, evl, put, ap_none, List.length_nil, Nat.add_zero, upd_app, stepBin, abin, stepCall, reduceCtorEq, ↓reduceIte, Nat.reduceEqDiff, hlen, d] <;> rfl) ?_)
    refine s_false (by simp [evl]) (s_skip ?_)
    refine s_run (by simp only [runL, Option.getD_some, List.getElem?_cons_succ, List.getElem?_cons_zero, awant_none, astep, evl, put, ap_none, List.length_nil, Nat.add_zero, upd_app, stepBin, abin, reduceCtorEq, ↓reduceIte, Nat.reduceEqDiff, i1, l1, w1] <;> rfl) ?_
    exact w_ret ⟨.inr rfl, by simp, [], fin_none (by simp [resVal, hr]) trivial (fun _ _ h => h)⟩

/-- All places' keys so many places on. -/
def keysL (s : List Nat) (b : Nat) : List Nat := (List.range s.length).map fun i => keyN s (i + b)
theorem keysL_len (s : List Nat) (b : Nat) : (keysL s b).length = s.length := by simp [keysL]
theorem keysL_at {s : List Nat} {b i : Nat} (h : i < s.length) : byt (keysL s b) i = keyN s (i + b) := by rw [byt_eq (by rw [keysL_len]; exact h)]; simp [keysL]
theorem keysL_lt {s : List Nat} {k b : Nat} (h : ∀ x ∈ s, x < k) : ∀ x ∈ keysL s b, x < k + 1 := fun x hx => by
  obtain ⟨i, _, rfl⟩ := List.mem_map.1 hx
  have := keyN_le h (i + b)
  show keyN s (i + b) < k + 1
  omega

set_option maxRecDepth 20000 in
theorem keys_spec (v : Value) (s : List Nat) (b : Nat) (g : Heap) (jj : Nat) (hl : s.length ≤ 2 ^ 37) (hb : b ≤ 2 ^ 37) (hx : ∀ x ∈ s, x ≤ 2 ^ 38) (hv : Src g v 1 s.length (ints s)) :
    FnSpec Try.prog 37 [v, .int .i64 b] g { v := .slice (some ⟨jj, 0, some s.length⟩) s.length 1, r := srcBlk v, j := jj, a := [⟨false, 3, ints (keysL s b)⟩] } := by
  refine spec_of_body [4] follows Try.func37 rfl (by kernel_rfl) (by simp [Try.f37]) (by kernel_rfl) rfl ?_
  intro g2 s2 n hg hfr hs hn hwf hsv
  have hv2 : Src g2 v 1 s.length (ints s) := hv.congr fun i hi => hg i (by simp [Eff.fp, hi])
  have hvd : ∀ i ∈ srcBlk v, i < n := dom_of hs hwf hv2
  have hlen := hv2.len Try.underlying22
  clear hg hfr hn hv
  refine s_run (by simp only [runL, awant_none, astep, evl, put, ap_none, List.length_nil, Nat.add_zero, undef] <;> rfl) ?_
  refine s_run (by simp only [runL, Option.getD_some, List.getElem?_cons_zero, awant_none, astep, evl, put, ap_none, ap_new, List.length_nil, List.length_cons, Nat.add_zero, Nat.zero_add, upd_app, stepCall, reduceCtorEq, ↓reduceIte, hlen, mkInts s.length n (by omega)] <;> rfl) (w_heap fun G1 hG1 => ?_)
  have b1 : G1 n = some ⟨false, 3, ints (preR (keysL s b) 0)⟩ := by rw [hG1, preR_zero, keysL_len]; simp []
  have k1 : Kp n g2 G1 := by rw [hG1]; exact kp_upd (Kp.refl _ _) (Nat.le_refl _)
  clear hG1
  refine w_assoc (s_run (by simp only [runL, awant_none, astep, evl, put, ap_none, List.length_nil, Nat.add_zero, upd_app, stepCall, ↓reduceIte, lenI] <;> rfl) ?_)
  refine s_rng s.length (fun i t g n' => t 0 = v ∧ t 1 = .int .i64 b ∧ t 5 = .slice (some ⟨n, 0, some s.length⟩) s.length 1 ∧ g n = some ⟨false, 3, ints (preR (keysL s b) i)⟩ ∧ Kp n g2 g) (by omega) (by simp []) (by simp [upd_app])
    (fun _ => ⟨by simp [upd_app], by simp [upd_app], by simp [upd_app], b1, k1⟩) (by decide) ?_ ?_
  · clear b1 k1
    rintro i t g n' hi t12 t11 ⟨t0, t1, t5, ba, hkp⟩
    have hk := key_spec v s (i + b) g (by omega) hx (hkp.src hv2 hvd)
    have ha := preR_set (l := keysL s b) (k := i) (by rw [keysL_len]; exact hi)
    rw [keysL_at hi] at ha
    have la : (preR (keysL s b) i).length = s.length := by rw [preR_len (by rw [keysL_len]; omega), keysL_len]
    have ia := idxI n s.length i s.length hi
    have s1 := stN (m := s.length) (i := i) (x := keyN s (i + b)) ba la (by rw [la]; exact hi)
    rw [ha] at s1
    have w0 : IntKind.i64.wrap ((i : Int) + (b : Int)) = ((i + b : Nat) : Int) := wrap_add (by omega)
    refine s_run (by simp only [runL, awant_none, astep, evl, put, ap_none, List.length_nil, Nat.add_zero, upd_app, ↓reduceIte, t12] <;> rfl) ?_
    refine region_take (id := 5) 6 (by simp only [runL, List.take_succ_cons, List.take_zero, awant_none, astep, evl, put, ap_none, List.length_nil, Nat.add_zero, upd_app, stepBin, abin, reduceCtorEq, ↓reduceIte, Nat.reduceEqDiff, t0, t1, t5, w0] <;> rfl) ?_
    refine ops_call 59 _ rfl (by simp only [upd_app, evl, List.map_cons, List.map_nil]; exact hk) (fun h => (h rfl).elim) ?_
    refine ops_run (by simp only [runL, awant_none, astep, evl, put, ap_none, ap_wr, List.length_nil, Nat.add_zero, upd_app, ↓reduceIte, Nat.reduceEqDiff, undef, ia, s1] <;> rfl) ?_
    simp only [rngPost]
    exact ⟨by simp [upd_app, t12], by simp [upd_app, t11], fun _ _ _ => ⟨by simp [upd_app, t0], by simp [upd_app, t1], by simp [upd_app, t5], by rw [upd_self], kp_upd hkp (Nat.le_refl _)⟩⟩
  · rintro t g n' ⟨t0, t1, t5, ba, hkp⟩
    have hr := preR_all (keysL s b)
    rw [keysL_len] at hr
    rw [hr] at ba
    refine s_run (by simp only [runL, awant_none, astep, evl, put, ap_none, List.length_nil, Nat.add_zero, upd_app, ↓reduceIte, t5] <;> rfl) ?_
    exact w_ret (sl_fin (k := n) rfl (by simp []) (by simp [keysL_len]) (Nat.le_refl _) ba (plain_is _) hs hwf hkp)

/-- Two places have the same three keys. -/
def alB (s : List Nat) (i j : Nat) : Bool := decide (keyN s i = keyN s j ∧ keyN s (i + 1) = keyN s (j + 1) ∧ keyN s (i + 2) = keyN s (j + 2))
theorem alB_t {s : List Nat} {i j : Nat} (h : ∀ b, b < 3 → keyN s (i + b) = keyN s (j + b)) : alB s i j = true := decide_eq_true ⟨h 0 (by omega), h 1 (by omega), h 2 (by omega)⟩
theorem alB_f {s : List Nat} {i j k : Nat} (hk : k < 3) (h : keyN s (i + k) ≠ keyN s (j + k)) : alB s i j = false := decide_eq_false fun ⟨h0, h1, h2⟩ => by
  rcases k with _ | _ | _ | k
  · exact h h0
  · exact h h1
  · exact h h2
  · omega

set_option maxRecDepth 20000 in
theorem alike_spec (v : Value) (s : List Nat) (i j : Nat) (g : Heap) (hl : s.length ≤ 2 ^ 37) (hi : i ≤ 2 ^ 37) (hj : j ≤ 2 ^ 37) (hx : ∀ x ∈ s, x ≤ 2 ^ 38) (hv : Src g v 1 s.length (ints s)) :
    FnSpec Try.prog 58 [v, .int .i64 i, .int .i64 j] g { v := .bool (alB s i j), r := srcBlk v } := by
  refine spec_of_body [6] follows Try.func58 rfl (by kernel_rfl) (by simp [Try.f58]) (by kernel_rfl) rfl ?_
  intro g2 s2 n hg hfr hs hn hwf hsv
  have hv2 : Src g2 v 1 s.length (ints s) := hv.congr fun i hi => hg i (by simp [Eff.fp, hi])
  have hvd : ∀ i ∈ srcBlk v, i < n := dom_of hs hwf hv2
  clear hg hfr hn hv
  refine s_run (by simp only [runL, awant_none, astep, evl, put, ap_none, List.length_nil, Nat.add_zero, undef] <;> rfl) ?_
  refine w_assoc (s_run (by simp only [runL, awant_none, astep, evl, put, ap_none, List.length_nil, Nat.add_zero] <;> rfl) ?_)
  refine s_rngc 3 rfl (fun k t g n' => t 0 = v ∧ t 1 = .int .i64 i ∧ t 2 = .int .i64 j ∧ g2 = g ∧ ∀ b, b < k → keyN s (i + b) = keyN s (j + b)) (by omega) (by simp [])
    (fun _ => ⟨by simp [upd_app], by simp [upd_app], by simp [upd_app], rfl, fun b hb => by omega⟩) (by decide) ?_ ?_
  · rintro k t g n' hk t8 ⟨t0, t1, t2, rfl, hal⟩
    have hk1 := key_spec v s (i + k) g2 (by omega) hx hv2
    have hk2 := key_spec v s (j + k) g2 (by omega) hx hv2
    have w1 : IntKind.i64.wrap ((i : Int) + (k : Int)) = ((i + k : Nat) : Int) := wrap_add (by omega)
    have w2 : IntKind.i64.wrap ((j : Int) + (k : Int)) = ((j + k : Nat) : Int) := wrap_add (by omega)
    refine s_run (by simp only [runL, awant_none, astep, evl, put, ap_none, List.length_nil, Nat.add_zero, upd_app, ↓reduceIte, t8] <;> rfl) ?_
    refine s_take 4 (by simp only [runL, List.take_succ_cons, List.take_zero, awant_none, astep, evl, put, ap_none, List.length_nil, Nat.add_zero, upd_app, stepBin, abin, reduceCtorEq, ↓reduceIte, Nat.reduceEqDiff, t0, t1, w1] <;> rfl) ?_
    refine ops_call 59 _ rfl (by simp only [upd_app, evl, List.map_cons, List.map_nil]; exact hk1) (fun h => (h rfl).elim) ?_
    refine ops_take 4 (by simp only [runL, List.take_succ_cons, List.take_zero, awant_none, astep, evl, put, ap_none, List.length_nil, Nat.add_zero, upd_app, stepBin, abin, reduceCtorEq, ↓reduceIte, Nat.reduceEqDiff, t0, t2, w2] <;> rfl) ?_
    refine ops_call 59 _ rfl (by simp only [upd_app, evl, List.map_cons, List.map_nil]; exact hk2) (fun h => (h rfl).elim) ?_
    by_cases e : keyN s (i + k) = keyN s (j + k)
    · have e1 : (((keyN s (i + k) : Nat) : Int) != ((keyN s (j + k) : Nat) : Int)) = false := ine_f (by omega)
      refine ops_run (by simp only [runL, awant_none, astep, evl, put, ap_none, List.length_nil, Nat.add_zero, upd_app, stepBin, abin, ↓reduceIte, Nat.reduceEqDiff, e1] <;> rfl) ?_
      refine w_false (by simp [evl]) (w_skip ?_)
      simp only [rngPost]
      refine ⟨by simp [upd_app, t8], fun _ _ _ => ⟨by simp [upd_app, t0], by simp [upd_app, t1], by simp [upd_app, t2], trivial, fun b hb => ?_⟩⟩
      by_cases hbk : b = k
      · subst hbk; exact e
      · exact hal b (by omega)
    · have e1 : (((keyN s (i + k) : Nat) : Int) != ((keyN s (j + k) : Nat) : Int)) = true := ine_t (by omega)
      have hB : alB s i j = false := alB_f hk e
      refine ops_run (by simp only [runL, awant_none, astep, evl, put, ap_none, List.length_nil, Nat.add_zero, upd_app, stepBin, abin, ↓reduceIte, Nat.reduceEqDiff, e1] <;> rfl) ?_
      refine w_true (by simp [evl]) (s_run (by simp only [runL, awant_none, astep, evl, put, ap_none, List.length_nil, Nat.add_zero] <;> rfl) ?_)
      refine w_ret ?_
      exact ⟨.inr rfl, by simp, [], fin_none (by simp [resVal, hB]) trivial (fun _ _ h => h)⟩
  · rintro t g n' ⟨t0, t1, t2, rfl, hal⟩
    have hB : alB s i j = true := alB_t hal
    refine s_run (by simp only [runL, awant_none, astep, evl, put, ap_none, List.length_nil, Nat.add_zero] <;> rfl) ?_
    exact w_ret ⟨.inr rfl, by simp, [], fin_none (by simp [resVal, hB]) trivial (fun _ _ h => h)⟩

/-- All places below m that are r modulo three. -/
def plN (m r : Nat) : Nat := (m + 2 - r) / 3
def plM (m r : Nat) : List Nat := (List.range (plN m r)).map fun q => 3 * q + r
theorem plM_len (m r : Nat) : (plM m r).length = plN m r := by simp [plM]
theorem plM_take {m r q : Nat} (h : q < plN m r) : (plM m r).take (q + 1) = (plM m r).take q ++ [3 * q + r] := by
  rw [take_byt (by rw [plM_len]; exact h), byt_eq (by rw [plM_len]; exact h)]; simp [plM]
theorem plM_lt {m r : Nat} (hr : r ≤ 2) : ∀ x ∈ plM m r, x < m := fun x hx => by
  obtain ⟨q, hq, rfl⟩ := List.mem_map.1 hx
  have : q < plN m r := by simpa using hq
  unfold plN at this
  show 3 * q + r < m
  omega

set_option maxRecDepth 20000 in
theorem places_spec (m r : Nat) (g : Heap) (j : Nat) (hm : m ≤ 100000) (hr : r ≤ 2) :
    FnSpec Try.prog 34 [.int .i64 m, .int .i64 r] g (newE 3 (ints (plM m r)) [] j) := by
  refine spec_of_body [4] follows Try.func34 rfl (by kernel_rfl) (by simp [Try.f34]) (by kernel_rfl) rfl ?_
  intro g2 s2 n hg hfr hs hn hwf hsv
  clear hg hfr hn
  refine s_run (by simp only [runL, awant_none, astep, evl, put, ap_none, List.length_nil, Nat.add_zero, undef] <;> rfl) ?_
  refine s_run (by simp only [runL, awant_none, astep, evl, put, ap_none, List.length_nil, Nat.add_zero] <;> rfl) ?_
  refine w_assoc (s_run (by simp only [runL, Option.getD_some, List.getElem?_cons_succ, List.getElem?_cons_zero, awant_none, astep, evl, put, ap_none, List.length_nil, Nat.add_zero, upd_app, ↓reduceIte, Nat.reduceEqDiff] <;> rfl) ?_)
  refine s_block (fun t g n' => Own 3 g (t 5) (ints (plM m r)) n n' ∧ Kp n g2 g) ?_ ?_
  · refine w_loop (fun t g n' => ∃ q, q ≤ plN m r ∧ t 0 = .int .i64 m ∧ t 6 = .int .i64 ((3 * q + r : Nat) : Int) ∧ Own 3 g (t 5) (ints ((plM m r).take q)) n n' ∧ Kp n g2 g ∧ n ≤ n')
      (fun t _ _ => match t 6 with | .int _ k => m - k.toNat | _ => 0) ⟨0, by omega, by simp [upd_app], by simp [], by simp [upd_app]; exact Own.nil _ _ _ _, Kp.refl _ _, Nat.le_refl _⟩ ?_
    rintro t g n' ⟨q, hq, t0, t6, hO, hkp, hnn⟩
    have hlen := plM_len m r
    by_cases c : 3 * q + r < m
    · have hlt : q < plN m r := by unfold plN; omega
      have d : decide (((3 * q + r : Nat) : Int) < (m : Int)) = true := decide_eq_true (by omega)
      have w1 : IntKind.i64.wrap (((3 * q + r : Nat) : Int) + 3) = ((3 * (q + 1) + r : Nat) : Int) := by rw [wrap64_of (by omega) (by omega)]; omega
      obtain ⟨f, hf, hO', hk'⟩ := hO.push (P := Try.prog) (T := 22) (c := .int .i64 ((3 * q + r : Nat) : Int)) Try.underlying22 tinf3 (by simp; omega) (by omega) hnn
      have hμ : (match t 6 with | .int _ k => m - k.toNat | _ => 0) = m - (3 * q + r) := by rw [t6]; rfl
      rw [hμ]
      refine w_assoc (s_run (by simp only [runL, awant_none, astep, evl, put, ap_none, List.length_nil, Nat.add_zero, upd_app, stepBin, abin, reduceCtorEq, ↓reduceIte, Nat.reduceEqDiff, t0, t6, d] <;> rfl) ?_)
      refine s_true (by simp [evl]) (s_skip (w_seq (w_block ?_)))
      refine region_run (id := 5) (by simp only [runL, awant_none, astep, evl, put, ap_none, ap_new, List.length_nil, List.length_cons, Nat.add_zero, Nat.zero_add, upd_app, stepCall, ↓reduceIte, Nat.reduceEqDiff, List.map_cons, List.map_nil, undef, t6, litI_1, hf] <;> rfl) ?_
      refine region_run (id := 4) (by simp only [runL, awant_none, astep, evl, put, ap_none, List.length_nil, Nat.add_zero, upd_app, stepBin, abin, ↓reduceIte, Nat.reduceEqDiff, t6, w1] <;> rfl) ?_
      refine ⟨⟨q + 1, by omega, by simp [upd_app, t0], by simp [], ?_, fun x hx => by rw [hk' x (by omega)]; exact hkp x hx, by omega⟩, ?_⟩
      · rw [plM_take hlt, ← ints_app]
        simpa [upd_app] using hO'
      · simp only [upd_app]
        show m - ((3 * (q + 1) + r : Nat) : Int).toNat < _
        rw [Int.toNat_natCast]
        omega
    · have hge : q = plN m r := by unfold plN at hq ⊢; omega
      have d : decide (((3 * q + r : Nat) : Int) < (m : Int)) = false := decide_eq_false (by omega)
      refine w_assoc (s_run (by simp only [runL, awant_none, astep, evl, put, ap_none, List.length_nil, Nat.add_zero, upd_app, stepBin, abin, reduceCtorEq, ↓reduceIte, Nat.reduceEqDiff, t0, t6, d] <;> rfl) ?_)
      refine s_false (by simp [evl]) (s_exit ?_)
      rw [hge, ← hlen, List.take_length] at hO
      exact ⟨by simpa [upd_app] using hO, hkp⟩
  · rintro t g n' ⟨hO, hkp⟩
    refine s_run (by simp only [runL, awant_none, astep, evl, put, ap_none, List.length_nil, Nat.add_zero, upd_app, ↓reduceIte] <;> rfl) ?_
    refine w_ret ⟨.inr rfl, by simp, ?_⟩
    have := hO.fin (r := []) (j := j) (plain_is _) hs hwf hkp
    simpa [resVal, upd_app] using this

/-- The places that are 1 modulo three, then those that are 2. -/
def smpL (m : Nat) : List Nat := plM m 1 ++ plM m 2
theorem smpL_len (m : Nat) : (smpL m).length = plN m 1 + plN m 2 := by simp [smpL, plM_len]
theorem smpL_lt {m : Nat} : ∀ x ∈ smpL m, x < m := fun x hx => by
  rcases List.mem_append.1 hx with h | h
  · exact plM_lt (by omega) x h
  · exact plM_lt (by omega) x h

set_option maxRecDepth 20000 in
theorem sample_spec (m : Nat) (g : Heap) (j : Nat) (hm : m ≤ 100000) : FnSpec Try.prog 57 [.int .i64 m] g (newE 3 (ints (smpL m)) [] j) := by
  refine spec_of_body [2] follows Try.func57 rfl (by kernel_rfl) (by simp [Try.f57]) (by kernel_rfl) rfl ?_
  intro g2 s2 n hg hfr hs hn hwf hsv
  clear hg hfr hn
  have d1 : decide ((m : Int) < 0) = false := decide_eq_false (by omega)
  have d2 : decide ((m : Int) > 100000) = false := decide_eq_false (by omega)
  refine s_run (by simp only [runL, awant_none, astep, evl, put, ap_none, List.length_nil, Nat.add_zero, undef] <;> rfl) ?_
  refine w_assoc (s_run (by simp only [runL, awant_some, Option.getD_some, List.getElem?_toArray, List.getElem?_cons_succ, List.getElem?_cons_zero, Option.bind_some, b_ff, awant_none, astep, evl, put, ap_none, List.length_nil, Nat.add_zero, upd_app, stepBin, abin, stepPick, reduceCtorEq, ↓reduceIte, Nat.reduceEqDiff, Bool.false_eq_true, d1, d2] <;> rfl) ?_)
  refine s_false (by simp [evl]) (s_skip ?_)
  refine s_take 1 (by simp only [runL, Option.getD_some, List.getElem?_cons_zero, List.take_succ_cons, List.take_zero, awant_none, astep, evl, put, ap_none, List.length_nil, Nat.add_zero, upd_app, reduceCtorEq, ↓reduceIte] <;> rfl) ?_
  refine ops_call 34 _ rfl (by simp only [upd_app, evl, List.map_cons, List.map_nil]; exact places_spec m 1 g2 n hm (by omega)) (fun _ => newE_j _ _ _ _) ?_
  refine ops_heap fun G1 hG1 => ?_
  have hO1 := newE_Own (e := 3) (cs := ints (plM m 1)) (r := []) g2 (Nat.le_refl n)
  rw [← hG1] at hO1
  have k1 : Kp n g2 G1 := by rw [hG1]; exact newE_kp (Kp.refl _ _) (Nat.le_refl _)
  obtain ⟨v1, hv1⟩ : ∃ v1, (newE 3 (ints (plM m 1)) [] n).v = v1 := ⟨_, rfl⟩
  obtain ⟨N, hN⟩ : ∃ N, n + (newE 3 (ints (plM m 1)) [] n).a.length = N := ⟨_, rfl⟩
  rw [hv1, hN] at hO1
  have hnN : n ≤ N := by omega
  rw [hv1, hN]
  clear hG1
  refine ops_take 1 (by simp only [runL, Option.getD_some, List.getElem?_cons_zero, List.take_succ_cons, List.take_zero, awant_none, astep, evl, put, ap_none, List.length_nil, Nat.add_zero, upd_app, reduceCtorEq, ↓reduceIte] <;> rfl) ?_
  refine ops_call 34 _ rfl (by simp only [upd_app, evl, List.map_cons, List.map_nil]; exact places_spec m 2 G1 N hm (by omega)) (fun _ => newE_j _ _ _ _) ?_
  refine ops_heap fun G2 hG2 => ?_
  have hs2 : Src G2 (newE 3 (ints (plM m 2)) [] N).v 1 (ints (plM m 2)).length (ints (plM m 2)) := by rw [hG2]; exact newE_src 3 (ints (plM m 2)) [] N G1
  have k2 : Kp N G1 G2 := by rw [hG2]; exact newE_kp (Kp.refl _ _) (Nat.le_refl _)
  obtain ⟨v2, hv2⟩ : ∃ v2, (newE 3 (ints (plM m 2)) [] N).v = v2 := ⟨_, rfl⟩
  obtain ⟨M, hM⟩ : ∃ M, N + (newE 3 (ints (plM m 2)) [] N).a.length = M := ⟨_, rfl⟩
  rw [hv2] at hs2
  rw [hv2, hM]
  clear hG2
  have hO2 := hO1.keep (n'' := M) k2 (by omega)
  have l1 : (ints (plM m 1)).length ≤ 100000 := by simp [plM_len, plN]; omega
  have l2 : (ints (plM m 2)).length ≤ 100000 := by simp [plM_len, plN]; omega
  obtain ⟨f, hf, hO3, k3⟩ := hO2.append (P := Try.prog) hs2 Try.underlying22 tinf3 (by omega) (by omega) (by omega)
  refine ops_run (by simp only [runL, awant_none, astep, evl, put, ap_none, List.length_nil, Nat.add_zero, upd_app, stepCall, ↓reduceIte, Nat.reduceEqDiff, hf] <;> rfl) ?_
  refine w_ret ⟨.inr rfl, by simp, ?_⟩
  have hO4 : Own 3 (f.ap G2) f.v (ints (smpL m)) n (M + f.a.length) := by rw [smpL, ← ints_app]; exact hO3
  have := hO4.fin (r := []) (j := j) (plain_is _) hs hwf (fun q hq => by rw [k3 q hq, k2 q (by omega), k1 q hq])
  simpa [resVal, upd_app, put] using this
end Go.Proofs.Ytdpkhijbikbhnaa
