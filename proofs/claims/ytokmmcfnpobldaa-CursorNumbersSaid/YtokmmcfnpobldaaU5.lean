import Derived.Test.YtokmmcfnpobldaaU4
import Derived.ChangeSlices
import Derived.DataReads
namespace Go.Proofs.Ytokmmcfnpobldaa
open Go Abs
set_option linter.unusedSimpArgs false
set_option linter.unusedVariables false

/-- p is a period. -/
def per (s : List Nat) (p : Nat) : Prop := ∀ i, i + p < s.length → byt s i = byt s (i + p)

theorem brd_per {s : List Nat} {p : Nat} (h1 : 1 ≤ p) (h2 : p ≤ s.length) : brd s s.length (s.length - p) ↔ per s p := by
  constructor
  · rintro ⟨_, h⟩ i hi
    have := h i (by omega)
    rwa [show s.length - (s.length - p) + i = i + p by omega] at this
  · intro h
    refine ⟨by omega, fun i hi => ?_⟩
    rw [show s.length - (s.length - p) + i = i + p by omega]
    exact h i (by omega)

theorem least_per {s : List Nat} (h : s.length ≠ 0) : per s (least s) := by
  have h1 := least_pos s h
  have h2 := mx_brd (s := s) (n := s.length) (by omega)
  rw [least, if_neg h] at h1 ⊢
  have h3 := h2.1
  refine (brd_per h1.1 h1.2).1 ?_
  rwa [show s.length - (s.length - mx s s.length) = mx s s.length by omega]

theorem least_min {s : List Nat} {q : Nat} (h1 : 1 ≤ q) (h2 : q ≤ s.length) (h : per s q) : least s ≤ q := by
  have := mx_max ((brd_per h1 h2).2 h)
  rw [least, if_neg (by omega)]
  omega

theorem per_sub {s : List Nat} {p q : Nat} (hp : per s p) (hq : per s q) (hlt : p < q) (hs : p + q ≤ s.length) : per s (q - p) := by
  intro i hi
  by_cases h : i + q < s.length
  · have a := hq i h
    have b := hp (i + (q - p)) (by omega)
    rw [show i + (q - p) + p = i + q by omega] at b
    rw [a, b]
  · have a := hp (i - p) (by omega)
    have b := hq (i - p) (by omega)
    rw [show i - p + p = i by omega] at a
    rw [show i - p + q = i + (q - p) by omega] at b
    rw [← a, b]

theorem per_gcd {s : List Nat} : ∀ (m p q : Nat), p + q ≤ m → 0 < p → 0 < q → per s p → per s q → p + q ≤ s.length → per s (Nat.gcd p q) := by
  intro m
  induction m with
  | zero => intro p q h1 h2 h3; omega
  | succ m ih =>
    intro p q h1 h2 h3 hp hq hs
    rcases Nat.lt_trichotomy p q with h | h | h
    · have := ih p (q - p) (by omega) h2 (by omega) hp (per_sub hp hq h hs) (by omega)
      rwa [Nat.gcd_sub_self_right (by omega)] at this
    · subst h; rwa [Nat.gcd_self]
    · have := ih (p - q) q (by omega) (by omega) h3 (per_sub hq hp h (by omega)) hq (by omega)
      rwa [Nat.gcd_sub_self_left (by omega)] at this

theorem rootLen_dvd (s : List Nat) : rootLen s ∣ s.length := by
  unfold rootLen
  split
  · exact Nat.dvd_of_mod_eq_zero (by assumption)
  · exact Nat.dvd_refl _

theorem rootLen_per {s : List Nat} (h : s.length ≠ 0) : per s (rootLen s) := by
  unfold rootLen
  split
  · exact least_per h
  · intro i hi; omega

theorem dvd_half {q n : Nat} (h : q ∣ n) (h0 : q < n) : 2 * q ≤ n := by
  obtain ⟨k, rfl⟩ := h
  rcases k with _ | _ | k
  · omega
  · omega
  · have := Nat.mul_le_mul_left q (show 2 ≤ k + 1 + 1 by omega)
    omega

theorem rootLen_min {s : List Nat} {q : Nat} (h : s.length ≠ 0) (h1 : 1 ≤ q) (hd : q ∣ s.length) (hq : per s q) : rootLen s ≤ q := by
  have hq2 : q ≤ s.length := Nat.le_of_dvd (by omega) hd
  have hl := least_min h1 hq2 hq
  have hp := least_pos s h
  unfold rootLen
  split
  · exact hl
  · rename_i hn
    rcases Nat.lt_or_ge q s.length with hlt | hge
    · exfalso
      have h2 := dvd_half hd hlt
      have hg := per_gcd _ _ _ (Nat.le_refl _) (by omega) (by omega) (least_per h) hq (by omega)
      have h3 : 0 < Nat.gcd (least s) q := Nat.gcd_pos_of_pos_left _ (by omega)
      have h4 : Nat.gcd (least s) q ≤ least s := Nat.gcd_le_left _ (by omega)
      have h5 := least_min (by omega) (by omega) hg
      have h6 : Nat.gcd (least s) q = least s := by omega
      have h7 : least s ∣ q := by rw [← h6]; exact Nat.gcd_dvd_right _ _
      exact hn (Nat.mod_eq_zero_of_dvd (Nat.dvd_trans h7 hd))
    · exact hge

theorem byt_mod {s : List Nat} {q : Nat} (hq : 0 < q) (h : per s q) : ∀ (m i : Nat), i ≤ m → i < s.length → byt s i = byt s (i % q) := by
  intro m
  induction m with
  | zero => intro i hi _; have : i = 0 := by omega
            subst this; simp
  | succ m ih =>
    intro i hi hl
    by_cases hlt : i < q
    · rw [Nat.mod_eq_of_lt hlt]
    · have a := h (i - q) (by omega)
      rw [show i - q + q = i by omega] at a
      rw [← a, ih (i - q) (by omega) (by omega)]
      congr 1
      rw [show i % q = (i - q + q) % q by rw [show i - q + q = i by omega], Nat.add_mod_right]

/-- So many times the same. -/
def times (w : List Nat) : Nat → List Nat
  | 0 => []
  | k + 1 => times w k ++ w

theorem times_len (w : List Nat) (k : Nat) : (times w k).length = k * w.length := by
  induction k with
  | zero => simp [times]
  | succ k ih => rw [times, List.length_append, ih, Nat.succ_mul]

theorem times_byt (w : List Nat) (k : Nat) : ∀ i, i < k * w.length → byt (times w k) i = byt w (i % w.length) := by
  induction k with
  | zero => intro i hi; omega
  | succ k ih =>
    intro i hi
    rw [Nat.succ_mul] at hi
    have hl := times_len w k
    by_cases h : i < k * w.length
    · rw [← ih i h]
      unfold byt
      rw [times, List.getElem?_append_left (by omega)]
    · unfold byt
      rw [times, List.getElem?_append_right (by omega), hl]
      congr 2
      have : i = i - k * w.length + k * w.length := by omega
      rw [this, Nat.add_mul_mod_self_right, Nat.mod_eq_of_lt (by omega)]
      omega

/-- A text that repeats w has the periods that divide w's length and are w's. -/
theorem rep_per {s w : List Nat} {q : Nat} (hq : 0 < q) (hd : q ∣ w.length) (hw : 0 < w.length) (hs : ∀ i, i < s.length → byt s i = byt w (i % w.length)) (h : per w q) : per s q := by
  have key : ∀ i, i < s.length → byt s i = byt w (i % q) := by
    intro i hi
    rw [hs i hi, byt_mod hq h _ (i % w.length) (Nat.le_refl _) (Nat.mod_lt _ hw), Nat.mod_mod_of_dvd _ hd]
  intro i hi
  rw [key i (by omega), key (i + q) hi, Nat.add_mod_right]

theorem pre_per {s w : List Nat} {p : Nat} (hl : w.length ≤ s.length) (hs : ∀ i, i < w.length → byt s i = byt w i) (h : per s p) : per w p := by
  intro i hi
  rw [← hs i (by omega), ← hs (i + p) hi]
  exact h i (by omega)

theorem times_root {w : List Nat} {k : Nat} (hw : w.length ≠ 0) (hk : 1 ≤ k) : rootLen (times w k) = rootLen w := by
  rcases Nat.lt_or_ge k 2 with h2 | h2
  · have : k = 1 := by omega
    subst this
    simp [times]
  · have hl := times_len w k
    have hge : 2 * w.length ≤ k * w.length := Nat.mul_le_mul_right _ h2
    have hs0 : (times w k).length ≠ 0 := by omega
    have hb := times_byt w k
    have hQ := rootLen_pos w hw
    have hQd := rootLen_dvd w
    have hdv : w.length ∣ (times w k).length := by rw [hl]; exact Nat.dvd_mul_left _ _
    have h1 : rootLen (times w k) ≤ rootLen w := rootLen_min hs0 hQ.1 (Nat.dvd_trans hQd hdv) (rep_per (by omega) hQd (by omega) (fun i hi => hb i (by omega)) (rootLen_per hw))
    have hP := rootLen_pos (times w k) hs0
    have hPd := rootLen_dvd (times w k)
    have hPp := rootLen_per hs0
    have hQs : per (times w k) (rootLen w) := rep_per (by omega) hQd (by omega) (fun i hi => hb i (by omega)) (rootLen_per hw)
    have hg := per_gcd _ _ _ (Nat.le_refl _) (by omega) (by omega) hPp hQs (by omega)
    have g1 : 0 < Nat.gcd (rootLen (times w k)) (rootLen w) := Nat.gcd_pos_of_pos_left _ (by omega)
    have g2 : Nat.gcd (rootLen (times w k)) (rootLen w) ≤ rootLen (times w k) := Nat.gcd_le_left _ (by omega)
    have g3 := rootLen_min hs0 (by omega) (Nat.dvd_trans (Nat.gcd_dvd_left _ _) hPd) hg
    have g4 : Nat.gcd (rootLen (times w k)) (rootLen w) = rootLen (times w k) := by omega
    have g5 : rootLen (times w k) ∣ rootLen w := by rw [← g4]; exact Nat.gcd_dvd_right _ _
    have h3 : rootLen w ≤ rootLen (times w k) := rootLen_min hw hP.1 (Nat.dvd_trans g5 hQd) (pre_per (by omega) (fun i hi => by rw [hb i (by omega), Nat.mod_eq_of_lt hi]) hPp)
    omega

theorem byt_take {s : List Nat} {q i : Nat} (h : i < q) : byt (s.take q) i = byt s i := by
  unfold byt
  rw [List.getElem?_take, if_pos h]

theorem root_root {s : List Nat} (h : s.length ≠ 0) : rootLen (s.take (rootLen s)) = rootLen s := by
  have hQ := rootLen_pos s h
  have hlt : (s.take (rootLen s)).length = rootLen s := by simp; omega
  have hr0 : (s.take (rootLen s)).length ≠ 0 := by omega
  have hP := rootLen_pos _ hr0
  have hPd := rootLen_dvd (s.take (rootLen s))
  have hPp := rootLen_per hr0
  have hs : ∀ i, i < s.length → byt s i = byt (s.take (rootLen s)) (i % (s.take (rootLen s)).length) := by
    intro i hi
    rw [hlt, byt_take (Nat.mod_lt _ (by omega)), byt_mod (by omega) (rootLen_per h) _ i (Nat.le_refl _) hi]
  have h2 : per s (rootLen (s.take (rootLen s))) := rep_per (by omega) hPd (by omega) hs hPp
  have h3 := rootLen_min h hP.1 (Nat.dvd_trans (by rw [hlt] at hPd; exact hPd) (rootLen_dvd s)) h2
  omega

theorem times_take {w : List Nat} {k : Nat} (hk : 1 ≤ k) {q : Nat} (hq : q ≤ w.length) : (times w k).take q = w.take q := by
  induction k with
  | zero => omega
  | succ k ih =>
    rcases Nat.eq_zero_or_pos k with h | h
    · subst h; simp [times]
    · rw [times, List.take_append_of_le_length (by rw [times_len]; have := Nat.mul_le_mul_right w.length h; omega)]
      exact ih h

theorem borders_last {s : List Nat} (h : s.length ≠ 0) : (borders s)[s.length - 1]? = some (mx s s.length) := by
  unfold borders
  rw [List.getElem?_map, List.getElem?_range (by omega), Option.map_some]
  rw [show s.length - 1 + 1 = s.length by omega]
end Go.Proofs.Ytokmmcfnpobldaa

namespace Go.Proofs.Ytokmmcfnpobldaa
open Go Abs
set_option linter.unusedSimpArgs false
set_option linter.unusedVariables false

theorem ieq_t {a b : Int} (h : a = b) : (a == b) = true := by simp [h]
theorem ieq_f {a b : Int} (h : a ≠ b) : (a == b) = false := by simp [h]
theorem ine_t {a b : Int} (h : a ≠ b) : (a != b) = true := by simp [h]
theorem ine_f {a b : Int} (h : a = b) : (a != b) = false := by simp [h]

/-- Below n nothing is changed. -/
def Kp (n : Nat) (g g' : Heap) : Prop := ∀ k, k < n → g' k = g k

theorem Kp.refl (n : Nat) (g : Heap) : Kp n g g := fun _ _ => rfl
theorem Kp.trans {n m : Nat} {g g' g'' : Heap} (h : Kp n g g') (h2 : Kp m g' g'') (hm : n ≤ m) : Kp n g g'' := fun k hk => by rw [h2 k (by omega), h k hk]
theorem Kp.le {n m : Nat} {g g' : Heap} (h : Kp n g g') (hm : m ≤ n) : Kp m g g' := fun k hk => h k (by omega)
theorem Kp.src {n : Nat} {g g' : Heap} {v : Value} {esz m : Nat} {cs : List Value} (h : Kp n g g') (hs : Src g v esz m cs) (hd : ∀ i ∈ srcBlk v, i < n) : Src g' v esz m cs := hs.congr fun i hi => h i (hd i hi)
theorem Kp.at {n : Nat} {g g' : Heap} {k : Nat} {b : Blk} (h : Kp n g g') (hk : k < n) (hb : g k = some b) : g' k = some b := by rw [h k hk]; exact hb

theorem kp_upd {n k : Nat} {g g' : Heap} {b : Option Blk} (h : Kp n g g') (hk : n ≤ k) : Kp n g (upd g' k b) := fun i hi => by rw [upd_ne _ _ (by omega)]; exact h i hi

/-- An effect that writes nothing. -/
theorem kp_ap {n : Nat} {g g' : Heap} {f : Eff} (h : Kp n g g') (hw : f.w = []) (hj : f.a ≠ [] → n ≤ f.j) : Kp n g (f.ap g') := by
  intro i hi
  unfold Eff.ap
  rw [hw, setAll]
  cases ha : f.a with
  | nil => exact h i hi
  | cons b l =>
    have := hj (by simp [ha])
    rw [addAll_out (by omega)]
    exact h i hi

theorem root_ne (v : Value) (l : List Nat) (g : Heap) (j : Nat) (hl : l.length ≤ 2 ^ 40) (h0 : l.length ≠ 0) (hv : Src g v 1 l.length (bs l)) :
    FnSpec Try.prog 21 [v] g { v := .tuple #[.slice (some ⟨j, 0, some (rootLen l)⟩) (rootLen l) 1, .int .i64 (l.length / rootLen l : Nat)], r := srcBlk v, j := j, a := [⟨false, 5, bs (l.take (rootLen l))⟩] } := by
  have := root_spec v l g j hl hv
  rw [rootE, if_neg h0] at this
  exact this

theorem src_own1 {g : Heap} {k e : Nat} {ro : Bool} {l : List Nat} {m : Nat} (h : g k = some ⟨ro, e, bs l⟩) (hm : m = l.length) : Src g (.slice (some ⟨k, 0, some m⟩) m 1) 1 l.length (bs l) := by subst hm; exact src_blk h

theorem srcBlk_own {k m o : Nat} {sp : Option Nat} {e : Nat} : ∀ i ∈ srcBlk (.slice (some ⟨k, o, sp⟩) m e), i = k := by intro i hi; simp [srcBlk] at hi; exact hi.2

set_option maxRecDepth 10000 in
theorem lawAll_spec (v : Value) (l : List Nat) (g : Heap) (hb : ∀ x ∈ l, x < 256) (hv : Src g v 1 l.length (bs l)) : FnSpec Try.prog 11 [v] g { v := .bool true, r := srcBlk v } := by
  refine spec_of_body [2] follows Try.func11 rfl (by kernel_rfl) (by simp [Try.f11]) (by kernel_rfl) rfl ?_
  intro g2 s2 n hg hfr hs hn hwf hsv
  have hv2 : Src g2 v 1 l.length (bs l) := hv.congr fun i hi => hg i (by simp [Eff.fp, hi])
  have hlen := hv2.len Try.underlying23
  refine s_run (by simp only [runL, List.drop_succ_cons, List.drop_zero, awant_some, Option.getD_some, List.getElem?_toArray, List.getElem?_cons_succ, List.getElem?_cons_zero, Option.bind_some, b_tt, b_tf, b_ft, b_ff, Bool.not_true, Bool.not_false, List.take_succ_cons, List.take_zero, awant_none, astep, evl, put, ap_none, ap_new, ap_wr, List.length_nil, List.length_cons, Nat.add_zero, Nat.zero_add, upd_app, stepBin, abin, stepUn, stepPick, stepExtract, stepCall, if_true, if_false, reduceCtorEq, ↓reduceIte, Nat.reduceEqDiff, Nat.reduceAdd, List.map_cons, List.map_nil, Option.map_some, Option.map_none, Bool.false_eq_true, Int.reduceLE, Int.reduceToNat, ne_eq, not_false_eq_true, and_self, and_true, true_and, decide_true, decide_false, Int.reduceEq, Int.reduceLT, Int.reduceBEq, Int.reduceBNe, not_true_eq_false, undef] <;> rfl) ?_
  by_cases ea1 : (l.length : Int) > 300
  · have ed1 : (decide ((l.length : Int) > 300)) = true := decide_eq_true ea1
    refine w_assoc (s_run (by simp only [runL, List.drop_succ_cons, List.drop_zero, awant_some, Option.getD_some, List.getElem?_toArray, List.getElem?_cons_succ, List.getElem?_cons_zero, Option.bind_some, b_tt, b_tf, b_ft, b_ff, Bool.not_true, Bool.not_false, List.take_succ_cons, List.take_zero, awant_none, astep, evl, put, ap_none, ap_new, ap_wr, List.length_nil, List.length_cons, Nat.add_zero, Nat.zero_add, upd_app, stepBin, abin, stepUn, stepPick, stepExtract, stepCall, if_true, if_false, reduceCtorEq, ↓reduceIte, Nat.reduceEqDiff, Nat.reduceAdd, List.map_cons, List.map_nil, Option.map_some, Option.map_none, Bool.false_eq_true, Int.reduceLE, Int.reduceToNat, ne_eq, not_false_eq_true, and_self, and_true, true_and, decide_true, decide_false, Int.reduceEq, Int.reduceLT, Int.reduceBEq, Int.reduceBNe, not_true_eq_false, undef, hlen, ed1] <;> rfl) ?_)
    refine s_true (by simp [evl, upd_app]) (w_assoc (s_run (by simp only [runL, List.drop_succ_cons, List.drop_zero, awant_some, Option.getD_some, List.getElem?_toArray, List.getElem?_cons_succ, List.getElem?_cons_zero, Option.bind_some, b_tt, b_tf, b_ft, b_ff, Bool.not_true, Bool.not_false, List.take_succ_cons, List.take_zero, awant_none, astep, evl, put, ap_none, ap_new, ap_wr, List.length_nil, List.length_cons, Nat.add_zero, Nat.zero_add, upd_app, stepBin, abin, stepUn, stepPick, stepExtract, stepCall, if_true, if_false, reduceCtorEq, ↓reduceIte, Nat.reduceEqDiff, Nat.reduceAdd, List.map_cons, List.map_nil, Option.map_some, Option.map_none, Bool.false_eq_true, Int.reduceLE, Int.reduceToNat, ne_eq, not_false_eq_true, and_self, and_true, true_and, decide_true, decide_false, Int.reduceEq, Int.reduceLT, Int.reduceBEq, Int.reduceBNe, not_true_eq_false, undef] <;> rfl) ?_))
    refine s_ret ⟨.inr rfl, by simp, [], fin_none ?_ trivial (fun _ _ h => h)⟩
    simp [resVal, upd_app]
  have ed1 : (decide ((l.length : Int) > 300)) = false := decide_eq_false ea1
  refine w_assoc (s_run (by simp only [runL, List.drop_succ_cons, List.drop_zero, awant_some, Option.getD_some, List.getElem?_toArray, List.getElem?_cons_succ, List.getElem?_cons_zero, Option.bind_some, b_tt, b_tf, b_ft, b_ff, Bool.not_true, Bool.not_false, List.take_succ_cons, List.take_zero, awant_none, astep, evl, put, ap_none, ap_new, ap_wr, List.length_nil, List.length_cons, Nat.add_zero, Nat.zero_add, upd_app, stepBin, abin, stepUn, stepPick, stepExtract, stepCall, if_true, if_false, reduceCtorEq, ↓reduceIte, Nat.reduceEqDiff, Nat.reduceAdd, List.map_cons, List.map_nil, Option.map_some, Option.map_none, Bool.false_eq_true, Int.reduceLE, Int.reduceToNat, ne_eq, not_false_eq_true, and_self, and_true, true_and, decide_true, decide_false, Int.reduceEq, Int.reduceLT, Int.reduceBEq, Int.reduceBNe, not_true_eq_false, undef, hlen, ed1] <;> rfl) ?_)
  refine s_false (by simp [evl, upd_app]) (s_skip ?_)
  refine w_gen (fun t => t 0 = v) (by simp [upd_app]) ?_
  intro t t0
  refine s_take 1 (by simp only [runL, List.drop_succ_cons, List.drop_zero, awant_some, Option.getD_some, List.getElem?_toArray, List.getElem?_cons_succ, List.getElem?_cons_zero, Option.bind_some, b_tt, b_tf, b_ft, b_ff, Bool.not_true, Bool.not_false, List.take_succ_cons, List.take_zero, awant_none, astep, evl, put, ap_none, ap_new, ap_wr, List.length_nil, List.length_cons, Nat.add_zero, Nat.zero_add, upd_app, stepBin, abin, stepUn, stepPick, stepExtract, stepCall, if_true, if_false, reduceCtorEq, ↓reduceIte, Nat.reduceEqDiff, Nat.reduceAdd, List.map_cons, List.map_nil, Option.map_some, Option.map_none, Bool.false_eq_true, Int.reduceLE, Int.reduceToNat, ne_eq, not_false_eq_true, and_self, and_true, true_and, decide_true, decide_false, Int.reduceEq, Int.reduceLT, Int.reduceBEq, Int.reduceBNe, not_true_eq_false, undef, t0] <;> rfl) ?_
  refine ops_call 26 _ rfl (least_spec v l g2 (by omega) hv2) (by simp) ?_
  refine ops_run (by simp only [runL, List.drop_succ_cons, List.drop_zero, awant_some, Option.getD_some, List.getElem?_toArray, List.getElem?_cons_succ, List.getElem?_cons_zero, Option.bind_some, b_tt, b_tf, b_ft, b_ff, Bool.not_true, Bool.not_false, List.take_succ_cons, List.take_zero, awant_none, astep, evl, put, ap_none, ap_new, ap_wr, List.length_nil, List.length_cons, Nat.add_zero, Nat.zero_add, upd_app, stepBin, abin, stepUn, stepPick, stepExtract, stepCall, if_true, if_false, reduceCtorEq, ↓reduceIte, Nat.reduceEqDiff, Nat.reduceAdd, List.map_cons, List.map_nil, Option.map_some, Option.map_none, Bool.false_eq_true, Int.reduceLE, Int.reduceToNat, ne_eq, not_false_eq_true, and_self, and_true, true_and, decide_true, decide_false, Int.reduceEq, Int.reduceLT, Int.reduceBEq, Int.reduceBNe, not_true_eq_false, undef] <;> rfl) ?_
  refine w_gen (fun t => t 0 = v ∧ t 3 = .int .i64 (least l)) (by simp [upd_app, put, t0]) ?_
  clear t0
  rintro t ⟨t0, t3⟩
  by_cases h0 : l.length = 0
  · have hz : least l = 0 := by rw [least, if_pos h0]
    have d : ((l.length : Int) == 0) = true := by simp [h0]
    have d2 : (((0 : Nat) : Int) == 0) = true := rfl
    refine w_assoc (s_run (by simp only [runL, List.drop_succ_cons, List.drop_zero, awant_some, Option.getD_some, List.getElem?_toArray, List.getElem?_cons_succ, List.getElem?_cons_zero, Option.bind_some, b_tt, b_tf, b_ft, b_ff, Bool.not_true, Bool.not_false, List.take_succ_cons, List.take_zero, awant_none, astep, evl, put, ap_none, ap_new, ap_wr, List.length_nil, List.length_cons, Nat.add_zero, Nat.zero_add, upd_app, stepBin, abin, stepUn, stepPick, stepExtract, stepCall, if_true, if_false, reduceCtorEq, ↓reduceIte, Nat.reduceEqDiff, Nat.reduceAdd, List.map_cons, List.map_nil, Option.map_some, Option.map_none, Bool.false_eq_true, Int.reduceLE, Int.reduceToNat, ne_eq, not_false_eq_true, and_self, and_true, true_and, decide_true, decide_false, Int.reduceEq, Int.reduceLT, Int.reduceBEq, Int.reduceBNe, not_true_eq_false, undef, t0, hlen, d] <;> rfl) ?_)
    refine s_true (by simp [evl, upd_app]) (w_assoc (s_take 3 (by simp only [runL, List.drop_succ_cons, List.drop_zero, awant_some, Option.getD_some, List.getElem?_toArray, List.getElem?_cons_succ, List.getElem?_cons_zero, Option.bind_some, b_tt, b_tf, b_ft, b_ff, Bool.not_true, Bool.not_false, List.take_succ_cons, List.take_zero, awant_none, astep, evl, put, ap_none, ap_new, ap_wr, List.length_nil, List.length_cons, Nat.add_zero, Nat.zero_add, upd_app, stepBin, abin, stepUn, stepPick, stepExtract, stepCall, if_true, if_false, reduceCtorEq, ↓reduceIte, Nat.reduceEqDiff, Nat.reduceAdd, List.map_cons, List.map_nil, Option.map_some, Option.map_none, Bool.false_eq_true, Int.reduceLE, Int.reduceToNat, ne_eq, not_false_eq_true, and_self, and_true, true_and, decide_true, decide_false, Int.reduceEq, Int.reduceLT, Int.reduceBEq, Int.reduceBNe, not_true_eq_false, undef, t3, hz, d2] <;> rfl) ?_))
    refine g_call 28 _ (by simp only [runL, List.drop_succ_cons, List.drop_zero, awant_some, Option.getD_some, List.getElem?_toArray, List.getElem?_cons_succ, List.getElem?_cons_zero, Option.bind_some, b_tt, b_tf, b_ft, b_ff, Bool.not_true, Bool.not_false, List.take_succ_cons, List.take_zero, awant_none, astep, evl, put, ap_none, ap_new, ap_wr, List.length_nil, List.length_cons, Nat.add_zero, Nat.zero_add, upd_app, stepBin, abin, stepUn, stepPick, stepExtract, stepCall, if_true, if_false, reduceCtorEq, ↓reduceIte, Nat.reduceEqDiff, Nat.reduceAdd, List.map_cons, List.map_nil, Option.map_some, Option.map_none, Bool.false_eq_true, Int.reduceLE, Int.reduceToNat, ne_eq, not_false_eq_true, and_self, and_true, true_and, decide_true, decide_false, Int.reduceEq, Int.reduceLT, Int.reduceBEq, Int.reduceBNe, not_true_eq_false, undef] <;> rfl) rfl (pknown_spec _) (by simp) ?_
    refine ops_run (by simp only [runL, List.drop_succ_cons, List.drop_zero, awant_some, Option.getD_some, List.getElem?_toArray, List.getElem?_cons_succ, List.getElem?_cons_zero, Option.bind_some, b_tt, b_tf, b_ft, b_ff, Bool.not_true, Bool.not_false, List.take_succ_cons, List.take_zero, awant_none, astep, evl, put, ap_none, ap_new, ap_wr, List.length_nil, List.length_cons, Nat.add_zero, Nat.zero_add, upd_app, stepBin, abin, stepUn, stepPick, stepExtract, stepCall, if_true, if_false, reduceCtorEq, ↓reduceIte, Nat.reduceEqDiff, Nat.reduceAdd, List.map_cons, List.map_nil, Option.map_some, Option.map_none, Bool.false_eq_true, Int.reduceLE, Int.reduceToNat, ne_eq, not_false_eq_true, and_self, and_true, true_and, decide_true, decide_false, Int.reduceEq, Int.reduceLT, Int.reduceBEq, Int.reduceBNe, not_true_eq_false, undef] <;> rfl) ?_
    refine s_ret ⟨.inr rfl, by simp, [], fin_none ?_ trivial (fun _ _ h => h)⟩
    simp [resVal, upd_app]
  have d : ((l.length : Int) == 0) = false := ieq_f (by omega)
  have hp := least_pos l h0
  have e1 : decide ((least l : Int) < 1) = false := by simp; omega
  have e2 : decide ((least l : Int) > (l.length : Int)) = false := by simp; omega
  refine w_assoc (s_run (by simp only [runL, List.drop_succ_cons, List.drop_zero, awant_some, Option.getD_some, List.getElem?_toArray, List.getElem?_cons_succ, List.getElem?_cons_zero, Option.bind_some, b_tt, b_tf, b_ft, b_ff, Bool.not_true, Bool.not_false, List.take_succ_cons, List.take_zero, awant_none, astep, evl, put, ap_none, ap_new, ap_wr, List.length_nil, List.length_cons, Nat.add_zero, Nat.zero_add, upd_app, stepBin, abin, stepUn, stepPick, stepExtract, stepCall, if_true, if_false, reduceCtorEq, ↓reduceIte, Nat.reduceEqDiff, Nat.reduceAdd, List.map_cons, List.map_nil, Option.map_some, Option.map_none, Bool.false_eq_true, Int.reduceLE, Int.reduceToNat, ne_eq, not_false_eq_true, and_self, and_true, true_and, decide_true, decide_false, Int.reduceEq, Int.reduceLT, Int.reduceBEq, Int.reduceBNe, not_true_eq_false, undef, t0, hlen, d] <;> rfl) ?_)
  refine s_false (by simp [evl, upd_app]) (s_skip ?_)
  refine w_assoc (s_run (by simp only [runL, List.drop_succ_cons, List.drop_zero, awant_some, Option.getD_some, List.getElem?_toArray, List.getElem?_cons_succ, List.getElem?_cons_zero, Option.bind_some, b_tt, b_tf, b_ft, b_ff, Bool.not_true, Bool.not_false, List.take_succ_cons, List.take_zero, awant_none, astep, evl, put, ap_none, ap_new, ap_wr, List.length_nil, List.length_cons, Nat.add_zero, Nat.zero_add, upd_app, stepBin, abin, stepUn, stepPick, stepExtract, stepCall, if_true, if_false, reduceCtorEq, ↓reduceIte, Nat.reduceEqDiff, Nat.reduceAdd, List.map_cons, List.map_nil, Option.map_some, Option.map_none, Bool.false_eq_true, Int.reduceLE, Int.reduceToNat, ne_eq, not_false_eq_true, and_self, and_true, true_and, decide_true, decide_false, Int.reduceEq, Int.reduceLT, Int.reduceBEq, Int.reduceBNe, not_true_eq_false, undef, t0, t3, hlen, e1, e2] <;> rfl) ?_)
  refine s_false (by simp [evl, upd_app]) (s_skip ?_)
  refine w_assoc (s_run (by simp only [runL, List.drop_succ_cons, List.drop_zero, awant_some, Option.getD_some, List.getElem?_toArray, List.getElem?_cons_succ, List.getElem?_cons_zero, Option.bind_some, b_tt, b_tf, b_ft, b_ff, Bool.not_true, Bool.not_false, List.take_succ_cons, List.take_zero, awant_none, astep, evl, put, ap_none, ap_new, ap_wr, List.length_nil, List.length_cons, Nat.add_zero, Nat.zero_add, upd_app, stepBin, abin, stepUn, stepPick, stepExtract, stepCall, if_true, if_false, reduceCtorEq, ↓reduceIte, Nat.reduceEqDiff, Nat.reduceAdd, List.map_cons, List.map_nil, Option.map_some, Option.map_none, Bool.false_eq_true, Int.reduceLE, Int.reduceToNat, ne_eq, not_false_eq_true, and_self, and_true, true_and, decide_true, decide_false, Int.reduceEq, Int.reduceLT, Int.reduceBEq, Int.reduceBNe, not_true_eq_false, undef, t3] <;> rfl) ?_)
  refine s_block (fun t g n => g = g2) ?_ ?_
  · refine w_loop (fun t g n => ∃ i : Nat, least l ≤ i ∧ i ≤ l.length ∧ t 0 = v ∧ t 3 = .int .i64 (least l) ∧ t 4 = .int .i64 i ∧ g = g2) (fun t _ _ => match t 4 with | .int _ i => l.length - i.toNat | _ => 0)
      ⟨least l, Nat.le_refl _, hp.2, by simp [upd_app, t0], by simp [upd_app, t3], by simp [upd_app], rfl⟩ ?_
    clear t0 t3
    rintro t g n' ⟨i, hi1, hi2, t0, t3, t4, rfl⟩
    by_cases hlt : i < l.length
    · have dl : decide ((i : Int) < (l.length : Int)) = true := by simp; exact hlt
      refine w_assoc (s_run (by simp only [runL, List.drop_succ_cons, List.drop_zero, awant_some, Option.getD_some, List.getElem?_toArray, List.getElem?_cons_succ, List.getElem?_cons_zero, Option.bind_some, b_tt, b_tf, b_ft, b_ff, Bool.not_true, Bool.not_false, List.take_succ_cons, List.take_zero, awant_none, astep, evl, put, ap_none, ap_new, ap_wr, List.length_nil, List.length_cons, Nat.add_zero, Nat.zero_add, upd_app, stepBin, abin, stepUn, stepPick, stepExtract, stepCall, if_true, if_false, reduceCtorEq, ↓reduceIte, Nat.reduceEqDiff, Nat.reduceAdd, List.map_cons, List.map_nil, Option.map_some, Option.map_none, Bool.false_eq_true, Int.reduceLE, Int.reduceToNat, ne_eq, not_false_eq_true, and_self, and_true, true_and, decide_true, decide_false, Int.reduceEq, Int.reduceLT, Int.reduceBEq, Int.reduceBNe, not_true_eq_false, undef, t0, t4, hlen, dl] <;> rfl) ?_)
      refine s_true (by simp [evl, upd_app]) (s_skip (w_seq (w_block ?_)))
      have hsub : IntKind.i64.wrap ((i : Int) - (least l : Int)) = ((i - least l : Nat) : Int) := by rw [wrap64_of (by omega) (by omega)]; omega
      obtain ⟨p1, a1, b1, c1⟩ := hv2.at1 (P := Try.prog) (i := i) (c := .int .u8 (byt l i)) (by simp [byt, List.getElem?_eq_getElem hlt]) Try.underlying23 tsize5 aggT5
      obtain ⟨p2, a2, b2, c2⟩ := hv2.at1 (P := Try.prog) (i := i - least l) (c := .int .u8 (byt l (i - least l))) (by simp [byt, List.getElem?_eq_getElem (show i - least l < l.length by omega)]) Try.underlying23 tsize5 aggT5
      have hper := least_per h0 (i - least l) (by omega)
      rw [show i - least l + least l = i by omega] at hper
      have dn : (((byt l i : Nat) : Int) != ((byt l (i - least l) : Nat) : Int)) = false := by rw [hper]; simp
      refine s_draw #[0, 0, 3, 7, 0, 0, 0, 96, 240, 496, 1023] (by decide +kernel) (by simp only [runR, List.drop_succ_cons, List.drop_zero, awant_some, Option.getD_some, List.getElem?_toArray, List.getElem?_cons_succ, List.getElem?_cons_zero, Option.bind_some, b_tt, b_tf, b_ft, b_ff, Bool.not_true, Bool.not_false, List.take_succ_cons, List.take_zero, awant_none, astep, evl, put, ap_none, ap_new, ap_wr, List.length_nil, List.length_cons, Nat.add_zero, Nat.zero_add, upd_app, stepBin, abin, stepUn, stepPick, stepExtract, stepCall, if_true, if_false, reduceCtorEq, ↓reduceIte, Nat.reduceEqDiff, Nat.reduceAdd, List.map_cons, List.map_nil, Option.map_some, Option.map_none, Bool.false_eq_true, Int.reduceLE, Int.reduceToNat, ne_eq, not_false_eq_true, and_self, and_true, true_and, decide_true, decide_false, Int.reduceEq, Int.reduceLT, Int.reduceBEq, Int.reduceBNe, not_true_eq_false, undef, List.isEmpty_nil, Bool.and_self, Bool.and_true, t0, t3, t4, hlen, hsub, a1, b1, a2, b2, dn] <;> rfl) ?_
      refine w_false (by simp [evl, upd_app]) (w_skip ?_)
      have w1 : IntKind.i64.wrap ((i : Int) + 1) = ((i + 1 : Nat) : Int) := by rw [wrap64_of (by omega) (by omega)]; simp
      refine region_run (id := 10) (by simp only [runL, List.drop_succ_cons, List.drop_zero, awant_some, Option.getD_some, List.getElem?_toArray, List.getElem?_cons_succ, List.getElem?_cons_zero, Option.bind_some, b_tt, b_tf, b_ft, b_ff, Bool.not_true, Bool.not_false, List.take_succ_cons, List.take_zero, awant_none, astep, evl, put, ap_none, ap_new, ap_wr, List.length_nil, List.length_cons, Nat.add_zero, Nat.zero_add, upd_app, stepBin, abin, stepUn, stepPick, stepExtract, stepCall, if_true, if_false, reduceCtorEq, ↓reduceIte, Nat.reduceEqDiff, Nat.reduceAdd, List.map_cons, List.map_nil, Option.map_some, Option.map_none, Bool.false_eq_true, Int.reduceLE, Int.reduceToNat, ne_eq, not_false_eq_true, and_self, and_true, true_and, decide_true, decide_false, Int.reduceEq, Int.reduceLT, Int.reduceBEq, Int.reduceBNe, not_true_eq_false, undef, t4, w1] <;> rfl) ?_
      refine ⟨⟨i + 1, by omega, by omega, by simp [upd_app, t0], by simp [upd_app, t3], by simp [upd_app], rfl⟩, ?_⟩
      rw [t4]
      simp only [upd_app, if_true, Int.toNat_natCast]
      omega
    · have dl : decide ((i : Int) < (l.length : Int)) = false := by simp; omega
      refine w_assoc (s_run (by simp only [runL, List.drop_succ_cons, List.drop_zero, awant_some, Option.getD_some, List.getElem?_toArray, List.getElem?_cons_succ, List.getElem?_cons_zero, Option.bind_some, b_tt, b_tf, b_ft, b_ff, Bool.not_true, Bool.not_false, List.take_succ_cons, List.take_zero, awant_none, astep, evl, put, ap_none, ap_new, ap_wr, List.length_nil, List.length_cons, Nat.add_zero, Nat.zero_add, upd_app, stepBin, abin, stepUn, stepPick, stepExtract, stepCall, if_true, if_false, reduceCtorEq, ↓reduceIte, Nat.reduceEqDiff, Nat.reduceAdd, List.map_cons, List.map_nil, Option.map_some, Option.map_none, Bool.false_eq_true, Int.reduceLE, Int.reduceToNat, ne_eq, not_false_eq_true, and_self, and_true, true_and, decide_true, decide_false, Int.reduceEq, Int.reduceLT, Int.reduceBEq, Int.reduceBNe, not_true_eq_false, undef, t0, t4, hlen, dl] <;> rfl) ?_)
      exact s_false (by simp [evl, upd_app]) (s_exit rfl)
  · clear t0 t3
    rintro t g n' rfl
    refine s_take 0 (by simp only [runL, List.drop_succ_cons, List.drop_zero, awant_some, Option.getD_some, List.getElem?_toArray, List.getElem?_cons_succ, List.getElem?_cons_zero, Option.bind_some, b_tt, b_tf, b_ft, b_ff, Bool.not_true, Bool.not_false, List.take_succ_cons, List.take_zero, awant_none, astep, evl, put, ap_none, ap_new, ap_wr, List.length_nil, List.length_cons, Nat.add_zero, Nat.zero_add, upd_app, stepBin, abin, stepUn, stepPick, stepExtract, stepCall, if_true, if_false, reduceCtorEq, ↓reduceIte, Nat.reduceEqDiff, Nat.reduceAdd, List.map_cons, List.map_nil, Option.map_some, Option.map_none, Bool.false_eq_true, Int.reduceLE, Int.reduceToNat, ne_eq, not_false_eq_true, and_self, and_true, true_and, decide_true, decide_false, Int.reduceEq, Int.reduceLT, Int.reduceBEq, Int.reduceBNe, not_true_eq_false, undef] <;> rfl) ?_
    refine ops_call 28 _ rfl (pknown_spec _) (by simp) ?_
    refine ops_run (by simp only [runL, List.drop_succ_cons, List.drop_zero, awant_some, Option.getD_some, List.getElem?_toArray, List.getElem?_cons_succ, List.getElem?_cons_zero, Option.bind_some, b_tt, b_tf, b_ft, b_ff, Bool.not_true, Bool.not_false, List.take_succ_cons, List.take_zero, awant_none, astep, evl, put, ap_none, ap_new, ap_wr, List.length_nil, List.length_cons, Nat.add_zero, Nat.zero_add, upd_app, stepBin, abin, stepUn, stepPick, stepExtract, stepCall, if_true, if_false, reduceCtorEq, ↓reduceIte, Nat.reduceEqDiff, Nat.reduceAdd, List.map_cons, List.map_nil, Option.map_some, Option.map_none, Bool.false_eq_true, Int.reduceLE, Int.reduceToNat, ne_eq, not_false_eq_true, and_self, and_true, true_and, decide_true, decide_false, Int.reduceEq, Int.reduceLT, Int.reduceBEq, Int.reduceBNe, not_true_eq_false, undef] <;> rfl) ?_
    refine w_ret ⟨.inr rfl, by simp, [], fin_none ?_ trivial (fun _ _ h => h)⟩
    simp [resVal, upd_app]
end Go.Proofs.Ytokmmcfnpobldaa

namespace Go.Proofs.Ytokmmcfnpobldaa
open Go Abs
set_option linter.unusedSimpArgs false
set_option linter.unusedVariables false

set_option maxRecDepth 10000 in
theorem lawLast_spec (v : Value) (l : List Nat) (g : Heap) (hb : ∀ x ∈ l, x < 256) (hv : Src g v 1 l.length (bs l)) : FnSpec Try.prog 9 [v] g { v := .bool true, r := srcBlk v } := by
  refine spec_of_body [2] follows Try.func9 rfl (by kernel_rfl) (by simp [Try.f9]) (by kernel_rfl) rfl ?_
  intro g2 s2 n hg hfr hs hn hwf hsv
  have hv2 : Src g2 v 1 l.length (bs l) := hv.congr fun i hi => hg i (by simp [Eff.fp, hi])
  have hlen := hv2.len Try.underlying23
  have hdom : ∀ i ∈ srcBlk v, i < n := fun i hi => by
    obtain ⟨b, hb⟩ := Option.isSome_iff_exists.1 (hv2.dom i hi)
    exact hs i (hwf i b hb).1
  refine s_run (by simp only [runL, List.drop_succ_cons, List.drop_zero, awant_some, Option.getD_some, List.getElem?_toArray, List.getElem?_cons_succ, List.getElem?_cons_zero, Option.bind_some, b_tt, b_tf, b_ft, b_ff, Bool.not_true, Bool.not_false, List.take_succ_cons, List.take_zero, awant_none, astep, evl, put, ap_none, ap_new, ap_wr, List.length_nil, List.length_cons, Nat.add_zero, Nat.zero_add, upd_app, stepBin, abin, stepUn, stepPick, stepExtract, stepCall, if_true, if_false, reduceCtorEq, ↓reduceIte, Nat.reduceEqDiff, Nat.reduceAdd, List.map_cons, List.map_nil, Option.map_some, Option.map_none, Bool.false_eq_true, Int.reduceLE, Int.reduceToNat, ne_eq, not_false_eq_true, and_self, and_true, true_and, decide_true, decide_false, Int.reduceEq, Int.reduceLT, Int.reduceBEq, Int.reduceBNe, not_true_eq_false, undef] <;> rfl) ?_
  by_cases ea1 : (l.length : Int) < 1
  · have ed1 : (decide ((l.length : Int) < 1)) = true := decide_eq_true ea1
    refine w_assoc (s_run (by simp only [runL, List.drop_succ_cons, List.drop_zero, awant_some, Option.getD_some, List.getElem?_toArray, List.getElem?_cons_succ, List.getElem?_cons_zero, Option.bind_some, b_tt, b_tf, b_ft, b_ff, Bool.not_true, Bool.not_false, List.take_succ_cons, List.take_zero, awant_none, astep, evl, put, ap_none, ap_new, ap_wr, List.length_nil, List.length_cons, Nat.add_zero, Nat.zero_add, upd_app, stepBin, abin, stepUn, stepPick, stepExtract, stepCall, if_true, if_false, reduceCtorEq, ↓reduceIte, Nat.reduceEqDiff, Nat.reduceAdd, List.map_cons, List.map_nil, Option.map_some, Option.map_none, Bool.false_eq_true, Int.reduceLE, Int.reduceToNat, ne_eq, not_false_eq_true, and_self, and_true, true_and, decide_true, decide_false, Int.reduceEq, Int.reduceLT, Int.reduceBEq, Int.reduceBNe, not_true_eq_false, undef, hlen, ed1] <;> rfl) ?_)
    refine s_true (by simp [evl, upd_app]) (w_assoc (s_run (by simp only [runL, List.drop_succ_cons, List.drop_zero, awant_some, Option.getD_some, List.getElem?_toArray, List.getElem?_cons_succ, List.getElem?_cons_zero, Option.bind_some, b_tt, b_tf, b_ft, b_ff, Bool.not_true, Bool.not_false, List.take_succ_cons, List.take_zero, awant_none, astep, evl, put, ap_none, ap_new, ap_wr, List.length_nil, List.length_cons, Nat.add_zero, Nat.zero_add, upd_app, stepBin, abin, stepUn, stepPick, stepExtract, stepCall, if_true, if_false, reduceCtorEq, ↓reduceIte, Nat.reduceEqDiff, Nat.reduceAdd, List.map_cons, List.map_nil, Option.map_some, Option.map_none, Bool.false_eq_true, Int.reduceLE, Int.reduceToNat, ne_eq, not_false_eq_true, and_self, and_true, true_and, decide_true, decide_false, Int.reduceEq, Int.reduceLT, Int.reduceBEq, Int.reduceBNe, not_true_eq_false, undef] <;> rfl) ?_))
    refine s_ret ⟨.inr rfl, by simp, [], fin_none ?_ trivial (fun _ _ h => h)⟩
    simp [resVal, upd_app]
  have ed1 : (decide ((l.length : Int) < 1)) = false := decide_eq_false ea1
  by_cases ea2 : (l.length : Int) > 200
  · have ed2 : (decide ((l.length : Int) > 200)) = true := decide_eq_true ea2
    refine w_assoc (s_run (by simp only [runL, List.drop_succ_cons, List.drop_zero, awant_some, Option.getD_some, List.getElem?_toArray, List.getElem?_cons_succ, List.getElem?_cons_zero, Option.bind_some, b_tt, b_tf, b_ft, b_ff, Bool.not_true, Bool.not_false, List.take_succ_cons, List.take_zero, awant_none, astep, evl, put, ap_none, ap_new, ap_wr, List.length_nil, List.length_cons, Nat.add_zero, Nat.zero_add, upd_app, stepBin, abin, stepUn, stepPick, stepExtract, stepCall, if_true, if_false, reduceCtorEq, ↓reduceIte, Nat.reduceEqDiff, Nat.reduceAdd, List.map_cons, List.map_nil, Option.map_some, Option.map_none, Bool.false_eq_true, Int.reduceLE, Int.reduceToNat, ne_eq, not_false_eq_true, and_self, and_true, true_and, decide_true, decide_false, Int.reduceEq, Int.reduceLT, Int.reduceBEq, Int.reduceBNe, not_true_eq_false, undef, hlen, ed1, ed2] <;> rfl) ?_)
    refine s_true (by simp [evl, upd_app]) (w_assoc (s_run (by simp only [runL, List.drop_succ_cons, List.drop_zero, awant_some, Option.getD_some, List.getElem?_toArray, List.getElem?_cons_succ, List.getElem?_cons_zero, Option.bind_some, b_tt, b_tf, b_ft, b_ff, Bool.not_true, Bool.not_false, List.take_succ_cons, List.take_zero, awant_none, astep, evl, put, ap_none, ap_new, ap_wr, List.length_nil, List.length_cons, Nat.add_zero, Nat.zero_add, upd_app, stepBin, abin, stepUn, stepPick, stepExtract, stepCall, if_true, if_false, reduceCtorEq, ↓reduceIte, Nat.reduceEqDiff, Nat.reduceAdd, List.map_cons, List.map_nil, Option.map_some, Option.map_none, Bool.false_eq_true, Int.reduceLE, Int.reduceToNat, ne_eq, not_false_eq_true, and_self, and_true, true_and, decide_true, decide_false, Int.reduceEq, Int.reduceLT, Int.reduceBEq, Int.reduceBNe, not_true_eq_false, undef] <;> rfl) ?_))
    refine s_ret ⟨.inr rfl, by simp, [], fin_none ?_ trivial (fun _ _ h => h)⟩
    simp [resVal, upd_app]
  have ed2 : (decide ((l.length : Int) > 200)) = false := decide_eq_false ea2
  refine w_assoc (s_run (by simp only [runL, List.drop_succ_cons, List.drop_zero, awant_some, Option.getD_some, List.getElem?_toArray, List.getElem?_cons_succ, List.getElem?_cons_zero, Option.bind_some, b_tt, b_tf, b_ft, b_ff, Bool.not_true, Bool.not_false, List.take_succ_cons, List.take_zero, awant_none, astep, evl, put, ap_none, ap_new, ap_wr, List.length_nil, List.length_cons, Nat.add_zero, Nat.zero_add, upd_app, stepBin, abin, stepUn, stepPick, stepExtract, stepCall, if_true, if_false, reduceCtorEq, ↓reduceIte, Nat.reduceEqDiff, Nat.reduceAdd, List.map_cons, List.map_nil, Option.map_some, Option.map_none, Bool.false_eq_true, Int.reduceLE, Int.reduceToNat, ne_eq, not_false_eq_true, and_self, and_true, true_and, decide_true, decide_false, Int.reduceEq, Int.reduceLT, Int.reduceBEq, Int.reduceBNe, not_true_eq_false, undef, hlen, ed1, ed2] <;> rfl) ?_)
  refine s_false (by simp [evl, upd_app]) (s_skip ?_)
  have h0 : l.length ≠ 0 := by omega
  have hrp := rootLen_pos l h0
  refine w_gen (fun t => t 0 = v) (by simp [upd_app]) ?_
  intro t t0
  refine s_take 1 (by simp only [runL, List.drop_succ_cons, List.drop_zero, awant_some, Option.getD_some, List.getElem?_toArray, List.getElem?_cons_succ, List.getElem?_cons_zero, Option.bind_some, b_tt, b_tf, b_ft, b_ff, Bool.not_true, Bool.not_false, List.take_succ_cons, List.take_zero, awant_none, astep, evl, put, ap_none, ap_new, ap_wr, List.length_nil, List.length_cons, Nat.add_zero, Nat.zero_add, upd_app, stepBin, abin, stepUn, stepPick, stepExtract, stepCall, if_true, if_false, reduceCtorEq, ↓reduceIte, Nat.reduceEqDiff, Nat.reduceAdd, List.map_cons, List.map_nil, Option.map_some, Option.map_none, Bool.false_eq_true, Int.reduceLE, Int.reduceToNat, ne_eq, not_false_eq_true, and_self, and_true, true_and, decide_true, decide_false, Int.reduceEq, Int.reduceLT, Int.reduceBEq, Int.reduceBNe, not_true_eq_false, undef, t0] <;> rfl) ?_
  refine ops_call 24 _ rfl (borders_spec v l g2 n (by omega) hv2) (by intro _; rfl) (ops_heap fun G1 hG1 => ?_)
  have k1 : Kp n g2 G1 := by rw [hG1]; exact kp_ap (Kp.refl _ _) rfl (fun _ => Nat.le_refl _)
  have b1 : G1 n = some ⟨false, 3, ints (borders l)⟩ := by rw [hG1]; simp [ap_new, upd_app]
  refine ops_run (by simp only [runL, List.drop_succ_cons, List.drop_zero, awant_some, Option.getD_some, List.getElem?_toArray, List.getElem?_cons_succ, List.getElem?_cons_zero, Option.bind_some, b_tt, b_tf, b_ft, b_ff, Bool.not_true, Bool.not_false, List.take_succ_cons, List.take_zero, awant_none, astep, evl, put, ap_none, ap_new, ap_wr, List.length_nil, List.length_cons, Nat.add_zero, Nat.zero_add, upd_app, stepBin, abin, stepUn, stepPick, stepExtract, stepCall, if_true, if_false, reduceCtorEq, ↓reduceIte, Nat.reduceEqDiff, Nat.reduceAdd, List.map_cons, List.map_nil, Option.map_some, Option.map_none, Bool.false_eq_true, Int.reduceLE, Int.reduceToNat, ne_eq, not_false_eq_true, and_self, and_true, true_and, decide_true, decide_false, Int.reduceEq, Int.reduceLT, Int.reduceBEq, Int.reduceBNe, not_true_eq_false, undef] <;> rfl) ?_
  refine w_gen (fun t => t 0 = v ∧ t 3 = .slice (some ⟨n, 0, some l.length⟩) l.length 1) (by simp [upd_app, put, t0]) ?_
  clear t0
  rintro t ⟨t0, t3⟩
  refine s_take 1 (by simp only [runL, List.drop_succ_cons, List.drop_zero, awant_some, Option.getD_some, List.getElem?_toArray, List.getElem?_cons_succ, List.getElem?_cons_zero, Option.bind_some, b_tt, b_tf, b_ft, b_ff, Bool.not_true, Bool.not_false, List.take_succ_cons, List.take_zero, awant_none, astep, evl, put, ap_none, ap_new, ap_wr, List.length_nil, List.length_cons, Nat.add_zero, Nat.zero_add, upd_app, stepBin, abin, stepUn, stepPick, stepExtract, stepCall, if_true, if_false, reduceCtorEq, ↓reduceIte, Nat.reduceEqDiff, Nat.reduceAdd, List.map_cons, List.map_nil, Option.map_some, Option.map_none, Bool.false_eq_true, Int.reduceLE, Int.reduceToNat, ne_eq, not_false_eq_true, and_self, and_true, true_and, decide_true, decide_false, Int.reduceEq, Int.reduceLT, Int.reduceBEq, Int.reduceBNe, not_true_eq_false, undef, t0] <;> rfl) ?_
  have hv3 := k1.src hv2 hdom
  refine ops_call 21 _ rfl (root_ne v l G1 (n + 1) (by omega) h0 hv3) (by intro _; rfl) (ops_heap fun G2 hG2 => ?_)
  have k2 : Kp (n + 1) G1 G2 := by rw [hG2]; exact kp_ap (Kp.refl _ _) rfl (fun _ => Nat.le_refl _)
  have b2 : G2 (n + 1) = some ⟨false, 5, bs (l.take (rootLen l))⟩ := by rw [hG2]; simp [ap_new, upd_app]
  refine ops_run (by simp only [runL, List.drop_succ_cons, List.drop_zero, awant_some, Option.getD_some, List.getElem?_toArray, List.getElem?_cons_succ, List.getElem?_cons_zero, Option.bind_some, b_tt, b_tf, b_ft, b_ff, Bool.not_true, Bool.not_false, List.take_succ_cons, List.take_zero, awant_none, astep, evl, put, ap_none, ap_new, ap_wr, List.length_nil, List.length_cons, Nat.add_zero, Nat.zero_add, upd_app, stepBin, abin, stepUn, stepPick, stepExtract, stepCall, if_true, if_false, reduceCtorEq, ↓reduceIte, Nat.reduceEqDiff, Nat.reduceAdd, List.map_cons, List.map_nil, Option.map_some, Option.map_none, Bool.false_eq_true, Int.reduceLE, Int.reduceToNat, ne_eq, not_false_eq_true, and_self, and_true, true_and, decide_true, decide_false, Int.reduceEq, Int.reduceLT, Int.reduceBEq, Int.reduceBNe, not_true_eq_false, undef] <;> rfl) ?_
  refine w_gen (fun t => t 0 = v ∧ t 3 = .slice (some ⟨n, 0, some l.length⟩) l.length 1 ∧ t 4 = .slice (some ⟨n + 1, 0, some (rootLen l)⟩) (rootLen l) 1) (by simp [upd_app, put, t0, t3]) ?_
  clear t0 t3
  rintro t ⟨t0, t3, t4⟩
  have hlt : (l.take (rootLen l)).length = rootLen l := by simp; omega
  refine s_take 1 (by simp only [runL, List.drop_succ_cons, List.drop_zero, awant_some, Option.getD_some, List.getElem?_toArray, List.getElem?_cons_succ, List.getElem?_cons_zero, Option.bind_some, b_tt, b_tf, b_ft, b_ff, Bool.not_true, Bool.not_false, List.take_succ_cons, List.take_zero, awant_none, astep, evl, put, ap_none, ap_new, ap_wr, List.length_nil, List.length_cons, Nat.add_zero, Nat.zero_add, upd_app, stepBin, abin, stepUn, stepPick, stepExtract, stepCall, if_true, if_false, reduceCtorEq, ↓reduceIte, Nat.reduceEqDiff, Nat.reduceAdd, List.map_cons, List.map_nil, Option.map_some, Option.map_none, Bool.false_eq_true, Int.reduceLE, Int.reduceToNat, ne_eq, not_false_eq_true, and_self, and_true, true_and, decide_true, decide_false, Int.reduceEq, Int.reduceLT, Int.reduceBEq, Int.reduceBNe, not_true_eq_false, undef, t4] <;> rfl) ?_
  refine ops_call 21 _ rfl (root_ne _ (l.take (rootLen l)) G2 (n + 2) (by omega) (by omega) (src_own1 b2 (by omega))) (by intro _; rfl) (ops_heap fun G3 hG3 => ?_)
  have k3 : Kp (n + 2) G2 G3 := by rw [hG3]; exact kp_ap (Kp.refl _ _) rfl (fun _ => Nat.le_refl _)
  rw [root_root h0, hlt, Nat.div_self (by omega)]
  refine ops_run (by simp only [runL, List.drop_succ_cons, List.drop_zero, awant_some, Option.getD_some, List.getElem?_toArray, List.getElem?_cons_succ, List.getElem?_cons_zero, Option.bind_some, b_tt, b_tf, b_ft, b_ff, Bool.not_true, Bool.not_false, List.take_succ_cons, List.take_zero, awant_none, astep, evl, put, ap_none, ap_new, ap_wr, List.length_nil, List.length_cons, Nat.add_zero, Nat.zero_add, upd_app, stepBin, abin, stepUn, stepPick, stepExtract, stepCall, if_true, if_false, reduceCtorEq, ↓reduceIte, Nat.reduceEqDiff, Nat.reduceAdd, List.map_cons, List.map_nil, Option.map_some, Option.map_none, Bool.false_eq_true, Int.reduceLE, Int.reduceToNat, ne_eq, not_false_eq_true, and_self, and_true, true_and, decide_true, decide_false, Int.reduceEq, Int.reduceLT, Int.reduceBEq, Int.reduceBNe, not_true_eq_false, undef] <;> rfl) ?_
  refine w_gen (fun t => t 0 = v ∧ t 3 = .slice (some ⟨n, 0, some l.length⟩) l.length 1 ∧ t 7 = .int .i64 1) (by simp [upd_app, put, t0, t3]) ?_
  clear t0 t3 t4
  rintro t ⟨t0, t3, t7⟩
  have hbl : (borders l).length = l.length := by simp [borders]
  have b3 : G3 n = some ⟨false, 3, ints (borders l)⟩ := k3.at (by omega) (k2.at (by omega) b1)
  have hsb : Src G3 (.slice (some ⟨n, 0, some l.length⟩) l.length 1) 1 (borders l).length (ints (borders l)) := by rw [← hbl]; exact src_ints b3
  have hlb := hsb.len (P := Try.prog) Try.underlying36
  rw [hbl] at hlb
  have hv4 := k3.src (k2.src hv3 (fun i hi => by have := hdom i hi; omega)) (fun i hi => by have := hdom i hi; omega)
  have hsub : IntKind.i64.wrap ((l.length : Int) - 1) = ((l.length - 1 : Nat) : Int) := by rw [wrap64_of (by omega) (by omega)]; omega
  obtain ⟨p1, x1, y1, z1⟩ := hsb.at1 (P := Try.prog) (i := l.length - 1) (c := .int .i64 (mx l l.length)) (by simp only [ints, List.getElem?_map, borders_last h0, Option.map_some]) Try.underlying36 tsize3 aggT3
  have hml := mx_lt (s := l) (n := l.length) (by omega)
  have hsub2 : IntKind.i64.wrap ((l.length : Int) - (mx l l.length : Int)) = ((l.length - mx l l.length : Nat) : Int) := by rw [wrap64_of (by omega) (by omega)]; omega
  have hle : least l = l.length - mx l l.length := by rw [least, if_neg h0]
  refine s_drawn #[0, 1, 0, 4, 15, 31, 63, 127, 63, 319, 63, 63, 2111, 6207, 15423, 31807, 65343, 131071, 262143, 524287, 1048575, 2097151, 4194303, 8388607, 16777215, 33554431, 67108863] (by decide +kernel) ?_
  refine d_reads 7 (by simp) (by simp only [runR, List.drop_succ_cons, List.drop_zero, awant_some, Option.getD_some, List.getElem?_toArray, List.getElem?_cons_succ, List.getElem?_cons_zero, Option.bind_some, b_tt, b_tf, b_ft, b_ff, Bool.not_true, Bool.not_false, List.take_succ_cons, List.take_zero, awant_none, astep, evl, put, ap_none, ap_new, ap_wr, List.length_nil, List.length_cons, Nat.add_zero, Nat.zero_add, upd_app, stepBin, abin, stepUn, stepPick, stepExtract, stepCall, if_true, if_false, reduceCtorEq, ↓reduceIte, Nat.reduceEqDiff, Nat.reduceAdd, List.map_cons, List.map_nil, Option.map_some, Option.map_none, Bool.false_eq_true, Int.reduceLE, Int.reduceToNat, ne_eq, not_false_eq_true, and_self, and_true, true_and, decide_true, decide_false, Int.reduceEq, Int.reduceLT, Int.reduceBEq, Int.reduceBNe, not_true_eq_false, undef, List.isEmpty_nil, Bool.and_self, Bool.and_true, t0, t3, hlb, hlen, beq_self_eq_true] <;> rfl) fun a1 ha1 => ?_
  refine d_call 26 _ rfl rfl rfl rfl (least_spec v l G3 (by omega) hv4) (by simp) (d_free ha1 rfl) ?_
  refine d_reads 16 (by
    intro p hp
    rcases List.mem_cons.1 hp with rfl | hp
    · rfl
    · exact ha1 p hp) (by simp only [runR, List.drop_succ_cons, List.drop_zero, awant_some, Option.getD_some, List.getElem?_toArray, List.getElem?_cons_succ, List.getElem?_cons_zero, Option.bind_some, b_tt, b_tf, b_ft, b_ff, Bool.not_true, Bool.not_false, List.take_succ_cons, List.take_zero, awant_none, astep, evl, put, ap_none, ap_new, ap_wr, List.length_nil, List.length_cons, Nat.add_zero, Nat.zero_add, upd_app, stepBin, abin, stepUn, stepPick, stepExtract, stepCall, if_true, if_false, reduceCtorEq, ↓reduceIte, Nat.reduceEqDiff, Nat.reduceAdd, List.map_cons, List.map_nil, Option.map_some, Option.map_none, Bool.false_eq_true, Int.reduceLE, Int.reduceToNat, ne_eq, not_false_eq_true, and_self, and_true, true_and, decide_true, decide_false, Int.reduceEq, Int.reduceLT, Int.reduceBEq, Int.reduceBNe, not_true_eq_false, undef, List.isEmpty_nil, Bool.and_self, Bool.and_true, t0, t3, t7, hlen, hsub, x1, y1, hsub2, hle, beq_self_eq_true] <;> rfl) fun a2 ha2 => ?_
  refine d_call 28 _ rfl rfl rfl rfl (pknown_spec _) (by simp) (d_free ha2 rfl) ?_
  refine d_pure 2 (by simp only [runP, List.drop_succ_cons, List.drop_zero, awant_some, Option.getD_some, List.getElem?_toArray, List.getElem?_cons_succ, List.getElem?_cons_zero, Option.bind_some, b_tt, b_tf, b_ft, b_ff, Bool.not_true, Bool.not_false, List.take_succ_cons, List.take_zero, awant_none, astep, evl, put, ap_none, ap_new, ap_wr, List.length_nil, List.length_cons, Nat.add_zero, Nat.zero_add, upd_app, stepBin, abin, stepUn, stepPick, stepExtract, stepCall, if_true, if_false, reduceCtorEq, ↓reduceIte, Nat.reduceEqDiff, Nat.reduceAdd, List.map_cons, List.map_nil, Option.map_some, Option.map_none, Bool.false_eq_true, Int.reduceLE, Int.reduceToNat, ne_eq, not_false_eq_true, and_self, and_true, true_and, decide_true, decide_false, Int.reduceEq, Int.reduceLT, Int.reduceBEq, Int.reduceBNe, not_true_eq_false, undef, List.isEmpty_nil, Bool.and_self, Bool.and_true] <;> rfl) ?_
  refine w_ret ⟨.inr rfl, by simp, [], fin_none ?_ trivial ?_⟩
  · simp [resVal, upd_app]
  · intro i b hb
    have := hs i (hwf i b hb).1
    exact k3.at (by omega) (k2.at (by omega) (k1.at this hb))
end Go.Proofs.Ytokmmcfnpobldaa

namespace Go.Proofs.Ytokmmcfnpobldaa
open Go Abs
set_option linter.unusedSimpArgs false
set_option linter.unusedVariables false

theorem bs_app (a b : List Nat) : bs a ++ bs b = bs (a ++ b) := by simp [bs]

set_option maxRecDepth 10000 in
theorem lawTimes_spec (v : Value) (l : List Nat) (k : Int) (g : Heap) (hb : ∀ x ∈ l, x < 256) (hv : Src g v 1 l.length (bs l)) : FnSpec Try.prog 8 [v, .int .i64 k] g { v := .bool true, r := srcBlk v } := by
  refine spec_of_body [4] follows Try.func8 rfl (by kernel_rfl) (by simp [Try.f8]) (by kernel_rfl) rfl ?_
  intro g2 s2 n hg hfr hs hn hwf hsv
  have hv2 : Src g2 v 1 l.length (bs l) := hv.congr fun i hi => hg i (by simp [Eff.fp, hi])
  have hlen := hv2.len Try.underlying23
  have hdom : ∀ i ∈ srcBlk v, i < n := fun i hi => by
    obtain ⟨b, hb⟩ := Option.isSome_iff_exists.1 (hv2.dom i hi)
    exact hs i (hwf i b hb).1
  refine s_run (by simp only [runL, List.drop_succ_cons, List.drop_zero, awant_some, Option.getD_some, List.getElem?_toArray, List.getElem?_cons_succ, List.getElem?_cons_zero, Option.bind_some, b_tt, b_tf, b_ft, b_ff, Bool.not_true, Bool.not_false, List.take_succ_cons, List.take_zero, awant_none, astep, evl, put, ap_none, ap_new, ap_wr, List.length_nil, List.length_cons, Nat.add_zero, Nat.zero_add, upd_app, stepBin, abin, stepUn, stepPick, stepExtract, stepCall, if_true, if_false, reduceCtorEq, ↓reduceIte, Nat.reduceEqDiff, Nat.reduceAdd, List.map_cons, List.map_nil, Option.map_some, Option.map_none, Bool.false_eq_true, Int.reduceLE, Int.reduceToNat, ne_eq, not_false_eq_true, and_self, and_true, true_and, decide_true, decide_false, Int.reduceEq, Int.reduceLT, Int.reduceBEq, Int.reduceBNe, not_true_eq_false, undef] <;> rfl) ?_
  by_cases ea1 : (l.length : Int) < 1
  · have ed1 : (decide ((l.length : Int) < 1)) = true := decide_eq_true ea1
    refine w_assoc (s_run (by simp only [runL, List.drop_succ_cons, List.drop_zero, awant_some, Option.getD_some, List.getElem?_toArray, List.getElem?_cons_succ, List.getElem?_cons_zero, Option.bind_some, b_tt, b_tf, b_ft, b_ff, Bool.not_true, Bool.not_false, List.take_succ_cons, List.take_zero, awant_none, astep, evl, put, ap_none, ap_new, ap_wr, List.length_nil, List.length_cons, Nat.add_zero, Nat.zero_add, upd_app, stepBin, abin, stepUn, stepPick, stepExtract, stepCall, if_true, if_false, reduceCtorEq, ↓reduceIte, Nat.reduceEqDiff, Nat.reduceAdd, List.map_cons, List.map_nil, Option.map_some, Option.map_none, Bool.false_eq_true, Int.reduceLE, Int.reduceToNat, ne_eq, not_false_eq_true, and_self, and_true, true_and, decide_true, decide_false, Int.reduceEq, Int.reduceLT, Int.reduceBEq, Int.reduceBNe, not_true_eq_false, undef, hlen, ed1] <;> rfl) ?_)
    refine s_true (by simp [evl, upd_app]) (w_assoc (s_run (by simp only [runL, List.drop_succ_cons, List.drop_zero, awant_some, Option.getD_some, List.getElem?_toArray, List.getElem?_cons_succ, List.getElem?_cons_zero, Option.bind_some, b_tt, b_tf, b_ft, b_ff, Bool.not_true, Bool.not_false, List.take_succ_cons, List.take_zero, awant_none, astep, evl, put, ap_none, ap_new, ap_wr, List.length_nil, List.length_cons, Nat.add_zero, Nat.zero_add, upd_app, stepBin, abin, stepUn, stepPick, stepExtract, stepCall, if_true, if_false, reduceCtorEq, ↓reduceIte, Nat.reduceEqDiff, Nat.reduceAdd, List.map_cons, List.map_nil, Option.map_some, Option.map_none, Bool.false_eq_true, Int.reduceLE, Int.reduceToNat, ne_eq, not_false_eq_true, and_self, and_true, true_and, decide_true, decide_false, Int.reduceEq, Int.reduceLT, Int.reduceBEq, Int.reduceBNe, not_true_eq_false, undef] <;> rfl) ?_))
    refine s_ret ⟨.inr rfl, by simp, [], fin_none ?_ trivial (fun _ _ h => h)⟩
    simp [resVal, upd_app]
  have ed1 : (decide ((l.length : Int) < 1)) = false := decide_eq_false ea1
  by_cases ea2 : (l.length : Int) > 30
  · have ed2 : (decide ((l.length : Int) > 30)) = true := decide_eq_true ea2
    refine w_assoc (s_run (by simp only [runL, List.drop_succ_cons, List.drop_zero, awant_some, Option.getD_some, List.getElem?_toArray, List.getElem?_cons_succ, List.getElem?_cons_zero, Option.bind_some, b_tt, b_tf, b_ft, b_ff, Bool.not_true, Bool.not_false, List.take_succ_cons, List.take_zero, awant_none, astep, evl, put, ap_none, ap_new, ap_wr, List.length_nil, List.length_cons, Nat.add_zero, Nat.zero_add, upd_app, stepBin, abin, stepUn, stepPick, stepExtract, stepCall, if_true, if_false, reduceCtorEq, ↓reduceIte, Nat.reduceEqDiff, Nat.reduceAdd, List.map_cons, List.map_nil, Option.map_some, Option.map_none, Bool.false_eq_true, Int.reduceLE, Int.reduceToNat, ne_eq, not_false_eq_true, and_self, and_true, true_and, decide_true, decide_false, Int.reduceEq, Int.reduceLT, Int.reduceBEq, Int.reduceBNe, not_true_eq_false, undef, hlen, ed1, ed2] <;> rfl) ?_)
    refine s_true (by simp [evl, upd_app]) (w_assoc (s_run (by simp only [runL, List.drop_succ_cons, List.drop_zero, awant_some, Option.getD_some, List.getElem?_toArray, List.getElem?_cons_succ, List.getElem?_cons_zero, Option.bind_some, b_tt, b_tf, b_ft, b_ff, Bool.not_true, Bool.not_false, List.take_succ_cons, List.take_zero, awant_none, astep, evl, put, ap_none, ap_new, ap_wr, List.length_nil, List.length_cons, Nat.add_zero, Nat.zero_add, upd_app, stepBin, abin, stepUn, stepPick, stepExtract, stepCall, if_true, if_false, reduceCtorEq, ↓reduceIte, Nat.reduceEqDiff, Nat.reduceAdd, List.map_cons, List.map_nil, Option.map_some, Option.map_none, Bool.false_eq_true, Int.reduceLE, Int.reduceToNat, ne_eq, not_false_eq_true, and_self, and_true, true_and, decide_true, decide_false, Int.reduceEq, Int.reduceLT, Int.reduceBEq, Int.reduceBNe, not_true_eq_false, undef] <;> rfl) ?_))
    refine s_ret ⟨.inr rfl, by simp, [], fin_none ?_ trivial (fun _ _ h => h)⟩
    simp [resVal, upd_app]
  have ed2 : (decide ((l.length : Int) > 30)) = false := decide_eq_false ea2
  by_cases ea3 : k < 1
  · have ed3 : (decide (k < 1)) = true := decide_eq_true ea3
    refine w_assoc (s_run (by simp only [runL, List.drop_succ_cons, List.drop_zero, awant_some, Option.getD_some, List.getElem?_toArray, List.getElem?_cons_succ, List.getElem?_cons_zero, Option.bind_some, b_tt, b_tf, b_ft, b_ff, Bool.not_true, Bool.not_false, List.take_succ_cons, List.take_zero, awant_none, astep, evl, put, ap_none, ap_new, ap_wr, List.length_nil, List.length_cons, Nat.add_zero, Nat.zero_add, upd_app, stepBin, abin, stepUn, stepPick, stepExtract, stepCall, if_true, if_false, reduceCtorEq, ↓reduceIte, Nat.reduceEqDiff, Nat.reduceAdd, List.map_cons, List.map_nil, Option.map_some, Option.map_none, Bool.false_eq_true, Int.reduceLE, Int.reduceToNat, ne_eq, not_false_eq_true, and_self, and_true, true_and, decide_true, decide_false, Int.reduceEq, Int.reduceLT, Int.reduceBEq, Int.reduceBNe, not_true_eq_false, undef, hlen, ed1, ed2, ed3] <;> rfl) ?_)
    refine s_true (by simp [evl, upd_app]) (w_assoc (s_run (by simp only [runL, List.drop_succ_cons, List.drop_zero, awant_some, Option.getD_some, List.getElem?_toArray, List.getElem?_cons_succ, List.getElem?_cons_zero, Option.bind_some, b_tt, b_tf, b_ft, b_ff, Bool.not_true, Bool.not_false, List.take_succ_cons, List.take_zero, awant_none, astep, evl, put, ap_none, ap_new, ap_wr, List.length_nil, List.length_cons, Nat.add_zero, Nat.zero_add, upd_app, stepBin, abin, stepUn, stepPick, stepExtract, stepCall, if_true, if_false, reduceCtorEq, ↓reduceIte, Nat.reduceEqDiff, Nat.reduceAdd, List.map_cons, List.map_nil, Option.map_some, Option.map_none, Bool.false_eq_true, Int.reduceLE, Int.reduceToNat, ne_eq, not_false_eq_true, and_self, and_true, true_and, decide_true, decide_false, Int.reduceEq, Int.reduceLT, Int.reduceBEq, Int.reduceBNe, not_true_eq_false, undef] <;> rfl) ?_))
    refine s_ret ⟨.inr rfl, by simp, [], fin_none ?_ trivial (fun _ _ h => h)⟩
    simp [resVal, upd_app]
  have ed3 : (decide (k < 1)) = false := decide_eq_false ea3
  by_cases ea4 : k > 8
  · have ed4 : (decide (k > 8)) = true := decide_eq_true ea4
    refine w_assoc (s_run (by simp only [runL, List.drop_succ_cons, List.drop_zero, awant_some, Option.getD_some, List.getElem?_toArray, List.getElem?_cons_succ, List.getElem?_cons_zero, Option.bind_some, b_tt, b_tf, b_ft, b_ff, Bool.not_true, Bool.not_false, List.take_succ_cons, List.take_zero, awant_none, astep, evl, put, ap_none, ap_new, ap_wr, List.length_nil, List.length_cons, Nat.add_zero, Nat.zero_add, upd_app, stepBin, abin, stepUn, stepPick, stepExtract, stepCall, if_true, if_false, reduceCtorEq, ↓reduceIte, Nat.reduceEqDiff, Nat.reduceAdd, List.map_cons, List.map_nil, Option.map_some, Option.map_none, Bool.false_eq_true, Int.reduceLE, Int.reduceToNat, ne_eq, not_false_eq_true, and_self, and_true, true_and, decide_true, decide_false, Int.reduceEq, Int.reduceLT, Int.reduceBEq, Int.reduceBNe, not_true_eq_false, undef, hlen, ed1, ed2, ed3, ed4] <;> rfl) ?_)
    refine s_true (by simp [evl, upd_app]) (w_assoc (s_run (by simp only [runL, List.drop_succ_cons, List.drop_zero, awant_some, Option.getD_some, List.getElem?_toArray, List.getElem?_cons_succ, List.getElem?_cons_zero, Option.bind_some, b_tt, b_tf, b_ft, b_ff, Bool.not_true, Bool.not_false, List.take_succ_cons, List.take_zero, awant_none, astep, evl, put, ap_none, ap_new, ap_wr, List.length_nil, List.length_cons, Nat.add_zero, Nat.zero_add, upd_app, stepBin, abin, stepUn, stepPick, stepExtract, stepCall, if_true, if_false, reduceCtorEq, ↓reduceIte, Nat.reduceEqDiff, Nat.reduceAdd, List.map_cons, List.map_nil, Option.map_some, Option.map_none, Bool.false_eq_true, Int.reduceLE, Int.reduceToNat, ne_eq, not_false_eq_true, and_self, and_true, true_and, decide_true, decide_false, Int.reduceEq, Int.reduceLT, Int.reduceBEq, Int.reduceBNe, not_true_eq_false, undef] <;> rfl) ?_))
    refine s_ret ⟨.inr rfl, by simp, [], fin_none ?_ trivial (fun _ _ h => h)⟩
    simp [resVal, upd_app]
  have ed4 : (decide (k > 8)) = false := decide_eq_false ea4
  refine w_assoc (s_run (by simp only [runL, List.drop_succ_cons, List.drop_zero, awant_some, Option.getD_some, List.getElem?_toArray, List.getElem?_cons_succ, List.getElem?_cons_zero, Option.bind_some, b_tt, b_tf, b_ft, b_ff, Bool.not_true, Bool.not_false, List.take_succ_cons, List.take_zero, awant_none, astep, evl, put, ap_none, ap_new, ap_wr, List.length_nil, List.length_cons, Nat.add_zero, Nat.zero_add, upd_app, stepBin, abin, stepUn, stepPick, stepExtract, stepCall, if_true, if_false, reduceCtorEq, ↓reduceIte, Nat.reduceEqDiff, Nat.reduceAdd, List.map_cons, List.map_nil, Option.map_some, Option.map_none, Bool.false_eq_true, Int.reduceLE, Int.reduceToNat, ne_eq, not_false_eq_true, and_self, and_true, true_and, decide_true, decide_false, Int.reduceEq, Int.reduceLT, Int.reduceBEq, Int.reduceBNe, not_true_eq_false, undef, hlen, ed1, ed2, ed3, ed4] <;> rfl) ?_)
  refine s_false (by simp [evl, upd_app]) (s_skip ?_)
  obtain ⟨m, rfl⟩ : ∃ m : Nat, k = m := ⟨k.toNat, by omega⟩
  have h0 : l.length ≠ 0 := by omega
  have hrp := rootLen_pos l h0
  have htl : ∀ i, i ≤ m → (times l i).length ≤ 240 := fun i hi => by
    rw [times_len]
    have : i * l.length ≤ 8 * 30 := Nat.mul_le_mul (by omega) (by omega)
    omega
  refine s_run (by simp only [runL, List.drop_succ_cons, List.drop_zero, awant_some, Option.getD_some, List.getElem?_toArray, List.getElem?_cons_succ, List.getElem?_cons_zero, Option.bind_some, b_tt, b_tf, b_ft, b_ff, Bool.not_true, Bool.not_false, List.take_succ_cons, List.take_zero, awant_none, astep, evl, put, ap_none, ap_new, ap_wr, List.length_nil, List.length_cons, Nat.add_zero, Nat.zero_add, upd_app, stepBin, abin, stepUn, stepPick, stepExtract, stepCall, if_true, if_false, reduceCtorEq, ↓reduceIte, Nat.reduceEqDiff, Nat.reduceAdd, List.map_cons, List.map_nil, Option.map_some, Option.map_none, Bool.false_eq_true, Int.reduceLE, Int.reduceToNat, ne_eq, not_false_eq_true, and_self, and_true, true_and, decide_true, decide_false, Int.reduceEq, Int.reduceLT, Int.reduceBEq, Int.reduceBNe, not_true_eq_false, undef] <;> rfl) ?_
  refine w_assoc (s_run (by simp only [runL, List.drop_succ_cons, List.drop_zero, awant_some, Option.getD_some, List.getElem?_toArray, List.getElem?_cons_succ, List.getElem?_cons_zero, Option.bind_some, b_tt, b_tf, b_ft, b_ff, Bool.not_true, Bool.not_false, List.take_succ_cons, List.take_zero, awant_none, astep, evl, put, ap_none, ap_new, ap_wr, List.length_nil, List.length_cons, Nat.add_zero, Nat.zero_add, upd_app, stepBin, abin, stepUn, stepPick, stepExtract, stepCall, if_true, if_false, reduceCtorEq, ↓reduceIte, Nat.reduceEqDiff, Nat.reduceAdd, List.map_cons, List.map_nil, Option.map_some, Option.map_none, Bool.false_eq_true, Int.reduceLE, Int.reduceToNat, ne_eq, not_false_eq_true, and_self, and_true, true_and, decide_true, decide_false, Int.reduceEq, Int.reduceLT, Int.reduceBEq, Int.reduceBNe, not_true_eq_false, undef] <;> rfl) ?_)
  refine s_block (fun t g n' => ∃ id, t 0 = v ∧ t 1 = .int .i64 m ∧ OwnI 5 1 g (t 5) (times l m).length (bs (times l m)) id ∧ (∀ q, id = some q → n ≤ q ∧ q < n') ∧ Kp n g2 g ∧ n ≤ n') ?_ ?_
  · refine w_loop (fun t g n' => ∃ (i : Nat) (id : Option Nat), i ≤ m ∧ t 0 = v ∧ t 1 = .int .i64 m ∧ t 6 = .int .i64 i ∧ OwnI 5 1 g (t 5) (times l i).length (bs (times l i)) id ∧ (∀ q, id = some q → n ≤ q ∧ q < n') ∧ Kp n g2 g ∧ n ≤ n')
      (fun t _ _ => match t 6 with | .int _ i => m - i.toNat | _ => 0) ⟨0, none, by omega, by simp [upd_app], by simp [upd_app], by simp [upd_app], by simp [upd_app, times]; exact OwnI.nil 5 1 g2, by simp, Kp.refl _ _, Nat.le_refl _⟩ ?_
    rintro t g n' ⟨i, id, hi, t0, t1, t6, hO, hid, hk, hnn⟩
    by_cases hlt : i < m
    · have dl : decide ((i : Int) < (m : Int)) = true := by simp; exact hlt
      refine w_assoc (s_run (by simp only [runL, List.drop_succ_cons, List.drop_zero, awant_some, Option.getD_some, List.getElem?_toArray, List.getElem?_cons_succ, List.getElem?_cons_zero, Option.bind_some, b_tt, b_tf, b_ft, b_ff, Bool.not_true, Bool.not_false, List.take_succ_cons, List.take_zero, awant_none, astep, evl, put, ap_none, ap_new, ap_wr, List.length_nil, List.length_cons, Nat.add_zero, Nat.zero_add, upd_app, stepBin, abin, stepUn, stepPick, stepExtract, stepCall, if_true, if_false, reduceCtorEq, ↓reduceIte, Nat.reduceEqDiff, Nat.reduceAdd, List.map_cons, List.map_nil, Option.map_some, Option.map_none, Bool.false_eq_true, Int.reduceLE, Int.reduceToNat, ne_eq, not_false_eq_true, and_self, and_true, true_and, decide_true, decide_false, Int.reduceEq, Int.reduceLT, Int.reduceBEq, Int.reduceBNe, not_true_eq_false, undef, t6, t1, dl] <;> rfl) ?_)
      refine s_true (by simp [evl, upd_app]) (s_skip (w_seq (w_block ?_)))
      have hvg := hk.src hv2 hdom
      have hl1 := htl (i + 1) (by omega)
      rw [times, List.length_append] at hl1
      obtain ⟨f, id', hf, hO', hid', hk'⟩ := own_append (P := Try.prog) (n := n') (T := 23) hO hvg.cells (by simp [bs]) Try.underlying23 tinf5 (by omega) (by omega) (by omega)
      refine region_run (id := 7) (by simp only [runL, List.drop_succ_cons, List.drop_zero, awant_some, Option.getD_some, List.getElem?_toArray, List.getElem?_cons_succ, List.getElem?_cons_zero, Option.bind_some, b_tt, b_tf, b_ft, b_ff, Bool.not_true, Bool.not_false, List.take_succ_cons, List.take_zero, awant_none, astep, evl, put, ap_none, ap_new, ap_wr, List.length_nil, List.length_cons, Nat.add_zero, Nat.zero_add, upd_app, stepBin, abin, stepUn, stepPick, stepExtract, stepCall, if_true, if_false, reduceCtorEq, ↓reduceIte, Nat.reduceEqDiff, Nat.reduceAdd, List.map_cons, List.map_nil, Option.map_some, Option.map_none, Bool.false_eq_true, Int.reduceLE, Int.reduceToNat, ne_eq, not_false_eq_true, and_self, and_true, true_and, decide_true, decide_false, Int.reduceEq, Int.reduceLT, Int.reduceBEq, Int.reduceBNe, not_true_eq_false, undef, t0, hf] <;> rfl) ?_
      have w1 : IntKind.i64.wrap ((i : Int) + 1) = ((i + 1 : Nat) : Int) := by rw [wrap64_of (by omega) (by omega)]; simp
      refine region_run (id := 6) (by simp only [runL, List.drop_succ_cons, List.drop_zero, awant_some, Option.getD_some, List.getElem?_toArray, List.getElem?_cons_succ, List.getElem?_cons_zero, Option.bind_some, b_tt, b_tf, b_ft, b_ff, Bool.not_true, Bool.not_false, List.take_succ_cons, List.take_zero, awant_none, astep, evl, put, ap_none, ap_new, ap_wr, List.length_nil, List.length_cons, Nat.add_zero, Nat.zero_add, upd_app, stepBin, abin, stepUn, stepPick, stepExtract, stepCall, if_true, if_false, reduceCtorEq, ↓reduceIte, Nat.reduceEqDiff, Nat.reduceAdd, List.map_cons, List.map_nil, Option.map_some, Option.map_none, Bool.false_eq_true, Int.reduceLE, Int.reduceToNat, ne_eq, not_false_eq_true, and_self, and_true, true_and, decide_true, decide_false, Int.reduceEq, Int.reduceLT, Int.reduceBEq, Int.reduceBNe, not_true_eq_false, undef, t6, w1] <;> rfl) ?_
      refine ⟨⟨i + 1, id', by omega, by simp [upd_app, t0], by simp [upd_app, t1], by simp [upd_app], ?_, fun q hq => ?_, fun q hq => ?_, by omega⟩, ?_⟩
      · rw [times, List.length_append, ← bs_app]
        simpa [upd_app] using hO'
      · rcases hid' with ⟨e1, e2⟩ | ⟨_, e2, e3⟩
        · rw [e1] at hq; have := hid q hq; rw [e2]; simp; omega
        · rw [e2] at hq; cases hq; omega
      · rw [hk' q (by omega) (fun e => by have := hid q e.symm; omega)]
        exact hk q hq
      · rw [t6]
        simp only [upd_app, if_true, Int.toNat_natCast]
        omega
    · have dl : decide ((i : Int) < (m : Int)) = false := by simp; omega
      have : i = m := by omega
      subst this
      refine w_assoc (s_run (by simp only [runL, List.drop_succ_cons, List.drop_zero, awant_some, Option.getD_some, List.getElem?_toArray, List.getElem?_cons_succ, List.getElem?_cons_zero, Option.bind_some, b_tt, b_tf, b_ft, b_ff, Bool.not_true, Bool.not_false, List.take_succ_cons, List.take_zero, awant_none, astep, evl, put, ap_none, ap_new, ap_wr, List.length_nil, List.length_cons, Nat.add_zero, Nat.zero_add, upd_app, stepBin, abin, stepUn, stepPick, stepExtract, stepCall, if_true, if_false, reduceCtorEq, ↓reduceIte, Nat.reduceEqDiff, Nat.reduceAdd, List.map_cons, List.map_nil, Option.map_some, Option.map_none, Bool.false_eq_true, Int.reduceLE, Int.reduceToNat, ne_eq, not_false_eq_true, and_self, and_true, true_and, decide_true, decide_false, Int.reduceEq, Int.reduceLT, Int.reduceBEq, Int.reduceBNe, not_true_eq_false, undef, t6, t1, dl] <;> rfl) ?_)
      refine s_false (by simp [evl, upd_app]) (s_exit ?_)
      exact ⟨id, by simpa [upd_app] using t0, by simpa [upd_app] using t1, by simpa [upd_app] using hO, hid, hk, hnn⟩
  · rintro t g n' ⟨id, t0, t1, hO, hid, hk, hnn⟩
    have hml := htl m (Nat.le_refl _)
    have htimes := times_len l m
    have hms : (times l m).length ≠ 0 := by
      rw [htimes]
      have := Nat.mul_le_mul_right l.length (show 1 ≤ m by omega)
      omega
    have hroot := times_root (w := l) (k := m) h0 (by omega)
    have hss := hO.toSrc
    have hsd : ∀ i ∈ srcBlk (t 5), i < n' := by
      rcases hO with ⟨_, h1, _, _⟩ | ⟨q, h1, h2, _, _⟩
      · rw [h1]; simp [srcBlk]
      · intro i hi
        rw [h2] at hi
        have := srcBlk_own i hi
        have := hid q h1
        omega
    generalize ht5 : t 5 = u at hss hsd
    clear hO
    have hvg := hk.src hv2 hdom
    refine s_take 1 (by simp only [runL, List.drop_succ_cons, List.drop_zero, awant_some, Option.getD_some, List.getElem?_toArray, List.getElem?_cons_succ, List.getElem?_cons_zero, Option.bind_some, b_tt, b_tf, b_ft, b_ff, Bool.not_true, Bool.not_false, List.take_succ_cons, List.take_zero, awant_none, astep, evl, put, ap_none, ap_new, ap_wr, List.length_nil, List.length_cons, Nat.add_zero, Nat.zero_add, upd_app, stepBin, abin, stepUn, stepPick, stepExtract, stepCall, if_true, if_false, reduceCtorEq, ↓reduceIte, Nat.reduceEqDiff, Nat.reduceAdd, List.map_cons, List.map_nil, Option.map_some, Option.map_none, Bool.false_eq_true, Int.reduceLE, Int.reduceToNat, ne_eq, not_false_eq_true, and_self, and_true, true_and, decide_true, decide_false, Int.reduceEq, Int.reduceLT, Int.reduceBEq, Int.reduceBNe, not_true_eq_false, undef, t0] <;> rfl) ?_
    refine ops_call 21 _ rfl (root_ne v l g n' (by omega) h0 hvg) (by intro _; rfl) (ops_heap fun G1 hG1 => ?_)
    have k1 : Kp n' g G1 := by rw [hG1]; exact kp_ap (Kp.refl _ _) rfl (fun _ => Nat.le_refl _)
    have b1 : G1 n' = some ⟨false, 5, bs (l.take (rootLen l))⟩ := by rw [hG1]; simp [ap_new, upd_app]
    refine ops_run (by simp only [runL, List.drop_succ_cons, List.drop_zero, awant_some, Option.getD_some, List.getElem?_toArray, List.getElem?_cons_succ, List.getElem?_cons_zero, Option.bind_some, b_tt, b_tf, b_ft, b_ff, Bool.not_true, Bool.not_false, List.take_succ_cons, List.take_zero, awant_none, astep, evl, put, ap_none, ap_new, ap_wr, List.length_nil, List.length_cons, Nat.add_zero, Nat.zero_add, upd_app, stepBin, abin, stepUn, stepPick, stepExtract, stepCall, if_true, if_false, reduceCtorEq, ↓reduceIte, Nat.reduceEqDiff, Nat.reduceAdd, List.map_cons, List.map_nil, Option.map_some, Option.map_none, Bool.false_eq_true, Int.reduceLE, Int.reduceToNat, ne_eq, not_false_eq_true, and_self, and_true, true_and, decide_true, decide_false, Int.reduceEq, Int.reduceLT, Int.reduceBEq, Int.reduceBNe, not_true_eq_false, undef] <;> rfl) ?_
    refine w_gen (fun t => t 0 = v ∧ t 1 = .int .i64 m ∧ t 5 = u ∧ t 7 = .slice (some ⟨n', 0, some (rootLen l)⟩) (rootLen l) 1 ∧ t 8 = .int .i64 (l.length / rootLen l : Nat)) (by simp [upd_app, put, t0, t1, ht5]) ?_
    clear ht5 t0 t1
    rintro t ⟨t0, t1, t5, t7, t8⟩
    refine s_take 1 (by simp only [runL, List.drop_succ_cons, List.drop_zero, awant_some, Option.getD_some, List.getElem?_toArray, List.getElem?_cons_succ, List.getElem?_cons_zero, Option.bind_some, b_tt, b_tf, b_ft, b_ff, Bool.not_true, Bool.not_false, List.take_succ_cons, List.take_zero, awant_none, astep, evl, put, ap_none, ap_new, ap_wr, List.length_nil, List.length_cons, Nat.add_zero, Nat.zero_add, upd_app, stepBin, abin, stepUn, stepPick, stepExtract, stepCall, if_true, if_false, reduceCtorEq, ↓reduceIte, Nat.reduceEqDiff, Nat.reduceAdd, List.map_cons, List.map_nil, Option.map_some, Option.map_none, Bool.false_eq_true, Int.reduceLE, Int.reduceToNat, ne_eq, not_false_eq_true, and_self, and_true, true_and, decide_true, decide_false, Int.reduceEq, Int.reduceLT, Int.reduceBEq, Int.reduceBNe, not_true_eq_false, undef, t5] <;> rfl) ?_
    refine ops_call 21 _ rfl (root_ne u (times l m) G1 (n' + 1) (by omega) hms (k1.src hss hsd)) (by intro _; rfl) (ops_heap fun G2 hG2 => ?_)
    have k2 : Kp (n' + 1) G1 G2 := by rw [hG2]; exact kp_ap (Kp.refl _ _) rfl (fun _ => Nat.le_refl _)
    have b2 : G2 (n' + 1) = some ⟨false, 5, bs (l.take (rootLen l))⟩ := by rw [hG2]; simp [ap_new, upd_app, hroot, times_take (show 1 ≤ m by omega) hrp.2]
    rw [hroot]
    refine ops_run (by simp only [runL, List.drop_succ_cons, List.drop_zero, awant_some, Option.getD_some, List.getElem?_toArray, List.getElem?_cons_succ, List.getElem?_cons_zero, Option.bind_some, b_tt, b_tf, b_ft, b_ff, Bool.not_true, Bool.not_false, List.take_succ_cons, List.take_zero, awant_none, astep, evl, put, ap_none, ap_new, ap_wr, List.length_nil, List.length_cons, Nat.add_zero, Nat.zero_add, upd_app, stepBin, abin, stepUn, stepPick, stepExtract, stepCall, if_true, if_false, reduceCtorEq, ↓reduceIte, Nat.reduceEqDiff, Nat.reduceAdd, List.map_cons, List.map_nil, Option.map_some, Option.map_none, Bool.false_eq_true, Int.reduceLE, Int.reduceToNat, ne_eq, not_false_eq_true, and_self, and_true, true_and, decide_true, decide_false, Int.reduceEq, Int.reduceLT, Int.reduceBEq, Int.reduceBNe, not_true_eq_false, undef] <;> rfl) ?_
    refine w_gen (fun t => t 0 = v ∧ t 1 = .int .i64 m ∧ t 7 = .slice (some ⟨n', 0, some (rootLen l)⟩) (rootLen l) 1 ∧ t 8 = .int .i64 (l.length / rootLen l : Nat) ∧ t 9 = .slice (some ⟨n' + 1, 0, some (rootLen l)⟩) (rootLen l) 1 ∧ t 10 = .int .i64 ((times l m).length / rootLen l : Nat)) (by simp [upd_app, put, t0, t1, t7, t8]) ?_
    clear t0 t1 t5 t7 t8
    rintro t ⟨t0, t1, t7, t8, t9, t10⟩
    have hlt : (l.take (rootLen l)).length = rootLen l := by simp; omega
    have hq : l.length / rootLen l ≤ 30 := Nat.le_trans (Nat.div_le_self _ _) (by omega)
    have hdv := Nat.div_mul_cancel (rootLen_dvd l)
    have hmm : l.length / rootLen l * m ≤ 30 * 8 := Nat.mul_le_mul hq (by omega)
    have hm1 : IntKind.i64.wrap (((l.length / rootLen l : Nat) : Int) * (m : Int)) = ((l.length / rootLen l * m : Nat) : Int) := by rw [wrap64_of (by rw [← Int.natCast_mul]; omega) (by rw [← Int.natCast_mul]; omega), Int.natCast_mul]
    have hm2 : IntKind.i64.wrap ((rootLen l : Int) * ((l.length / rootLen l : Nat) : Int)) = (l.length : Int) := by
      rw [← Int.natCast_mul, Nat.mul_comm, hdv, wrap64_of (by omega) (by omega)]
    have hm3 : (times l m).length / rootLen l = l.length / rootLen l * m := by
      rw [htimes, Nat.mul_comm, Nat.mul_comm (l.length / rootLen l) m, Nat.mul_comm l.length m, Nat.mul_div_assoc _ (rootLen_dvd l)]
    obtain ⟨r1, x1, _⟩ := src_str (src_own1 (k2.at (by omega) b1) hlt.symm)
    obtain ⟨r2, x2, _⟩ := src_str (src_own1 b2 hlt.symm)
    have hln := (src_own1 (k2.at (by omega) b1) hlt.symm).len (P := Try.prog) Try.underlying23
    rw [hlt] at hln
    refine s_take 6 (by simp only [runL, List.drop_succ_cons, List.drop_zero, awant_some, Option.getD_some, List.getElem?_toArray, List.getElem?_cons_succ, List.getElem?_cons_zero, Option.bind_some, b_tt, b_tf, b_ft, b_ff, Bool.not_true, Bool.not_false, List.take_succ_cons, List.take_zero, awant_none, astep, evl, put, ap_none, ap_new, ap_wr, List.length_nil, List.length_cons, Nat.add_zero, Nat.zero_add, upd_app, stepBin, abin, stepUn, stepPick, stepExtract, stepCall, if_true, if_false, reduceCtorEq, ↓reduceIte, Nat.reduceEqDiff, Nat.reduceAdd, List.map_cons, List.map_nil, Option.map_some, Option.map_none, Bool.false_eq_true, Int.reduceLE, Int.reduceToNat, ne_eq, not_false_eq_true, and_self, and_true, true_and, decide_true, decide_false, Int.reduceEq, Int.reduceLT, Int.reduceBEq, Int.reduceBNe, not_true_eq_false, undef, t7, t9, x1, x2, beq_self_eq_true] <;> rfl) ?_
    refine ops_take 16 (by simp only [runL, List.drop_succ_cons, List.drop_zero, awant_some, Option.getD_some, List.getElem?_toArray, List.getElem?_cons_succ, List.getElem?_cons_zero, Option.bind_some, b_tt, b_tf, b_ft, b_ff, Bool.not_true, Bool.not_false, List.take_succ_cons, List.take_zero, awant_none, astep, evl, put, ap_none, ap_new, ap_wr, List.length_nil, List.length_cons, Nat.add_zero, Nat.zero_add, upd_app, stepBin, abin, stepUn, stepPick, stepExtract, stepCall, if_true, if_false, reduceCtorEq, ↓reduceIte, Nat.reduceEqDiff, Nat.reduceAdd, List.map_cons, List.map_nil, Option.map_some, Option.map_none, Bool.false_eq_true, Int.reduceLE, Int.reduceToNat, ne_eq, not_false_eq_true, and_self, and_true, true_and, decide_true, decide_false, Int.reduceEq, Int.reduceLT, Int.reduceBEq, Int.reduceBNe, not_true_eq_false, undef, t0, t1, t7, t8, t9, t10, hm1, hm2, hm3, hlen, hln, beq_self_eq_true] <;> rfl) ?_
    refine g_call 28 _ (by simp only [runL, List.drop_succ_cons, List.drop_zero, awant_some, Option.getD_some, List.getElem?_toArray, List.getElem?_cons_succ, List.getElem?_cons_zero, Option.bind_some, b_tt, b_tf, b_ft, b_ff, Bool.not_true, Bool.not_false, List.take_succ_cons, List.take_zero, awant_none, astep, evl, put, ap_none, ap_new, ap_wr, List.length_nil, List.length_cons, Nat.add_zero, Nat.zero_add, upd_app, stepBin, abin, stepUn, stepPick, stepExtract, stepCall, if_true, if_false, reduceCtorEq, ↓reduceIte, Nat.reduceEqDiff, Nat.reduceAdd, List.map_cons, List.map_nil, Option.map_some, Option.map_none, Bool.false_eq_true, Int.reduceLE, Int.reduceToNat, ne_eq, not_false_eq_true, and_self, and_true, true_and, decide_true, decide_false, Int.reduceEq, Int.reduceLT, Int.reduceBEq, Int.reduceBNe, not_true_eq_false, undef] <;> rfl) rfl (pknown_spec _) (by simp) ?_
    refine ops_run (by simp only [runL, List.drop_succ_cons, List.drop_zero, awant_some, Option.getD_some, List.getElem?_toArray, List.getElem?_cons_succ, List.getElem?_cons_zero, Option.bind_some, b_tt, b_tf, b_ft, b_ff, Bool.not_true, Bool.not_false, List.take_succ_cons, List.take_zero, awant_none, astep, evl, put, ap_none, ap_new, ap_wr, List.length_nil, List.length_cons, Nat.add_zero, Nat.zero_add, upd_app, stepBin, abin, stepUn, stepPick, stepExtract, stepCall, if_true, if_false, reduceCtorEq, ↓reduceIte, Nat.reduceEqDiff, Nat.reduceAdd, List.map_cons, List.map_nil, Option.map_some, Option.map_none, Bool.false_eq_true, Int.reduceLE, Int.reduceToNat, ne_eq, not_false_eq_true, and_self, and_true, true_and, decide_true, decide_false, Int.reduceEq, Int.reduceLT, Int.reduceBEq, Int.reduceBNe, not_true_eq_false, undef] <;> rfl) ?_
    refine w_ret ⟨.inr rfl, by simp, [], fin_none ?_ trivial ?_⟩
    · simp [resVal, upd_app]
    · intro i b hb
      have := hs i (hwf i b hb).1
      exact k2.at (by omega) (k1.at (by omega) (hk.at this hb))

theorem xor255_lt : ∀ b : Nat, b < 256 → bits .xor .u8 (b : Int) 255 = ((255 - b : Nat) : Int) := by decide +kernel

set_option maxRecDepth 10000 in
theorem lawPOwn_spec (v : Value) (l : List Nat) (g : Heap) (hb : ∀ x ∈ l, x < 256) (hv : Src g v 1 l.length (bs l)) : FnSpec Try.prog 10 [v] g { v := .bool true, r := srcBlk v } := by
  refine spec_of_body [2] follows Try.func10 rfl (by kernel_rfl) (by simp [Try.f10]) (by kernel_rfl) rfl ?_
  intro g2 s2 n hg hfr hs hn hwf hsv
  have hv2 : Src g2 v 1 l.length (bs l) := hv.congr fun i hi => hg i (by simp [Eff.fp, hi])
  have hlen := hv2.len Try.underlying23
  have hdom : ∀ i ∈ srcBlk v, i < n := fun i hi => by
    obtain ⟨b, hb⟩ := Option.isSome_iff_exists.1 (hv2.dom i hi)
    exact hs i (hwf i b hb).1
  refine s_run (by simp only [runL, List.drop_succ_cons, List.drop_zero, awant_some, Option.getD_some, List.getElem?_toArray, List.getElem?_cons_succ, List.getElem?_cons_zero, Option.bind_some, b_tt, b_tf, b_ft, b_ff, Bool.not_true, Bool.not_false, List.take_succ_cons, List.take_zero, awant_none, astep, evl, put, ap_none, ap_new, ap_wr, List.length_nil, List.length_cons, Nat.add_zero, Nat.zero_add, upd_app, stepBin, abin, stepUn, stepPick, stepExtract, stepCall, if_true, if_false, reduceCtorEq, ↓reduceIte, Nat.reduceEqDiff, Nat.reduceAdd, List.map_cons, List.map_nil, Option.map_some, Option.map_none, Bool.false_eq_true, Int.reduceLE, Int.reduceToNat, ne_eq, not_false_eq_true, and_self, and_true, true_and, decide_true, decide_false, Int.reduceEq, Int.reduceLT, Int.reduceBEq, Int.reduceBNe, not_true_eq_false, undef] <;> rfl) ?_
  by_cases ea1 : (l.length : Int) < 1
  · have ed1 : (decide ((l.length : Int) < 1)) = true := decide_eq_true ea1
    refine w_assoc (s_run (by simp only [runL, List.drop_succ_cons, List.drop_zero, awant_some, Option.getD_some, List.getElem?_toArray, List.getElem?_cons_succ, List.getElem?_cons_zero, Option.bind_some, b_tt, b_tf, b_ft, b_ff, Bool.not_true, Bool.not_false, List.take_succ_cons, List.take_zero, awant_none, astep, evl, put, ap_none, ap_new, ap_wr, List.length_nil, List.length_cons, Nat.add_zero, Nat.zero_add, upd_app, stepBin, abin, stepUn, stepPick, stepExtract, stepCall, if_true, if_false, reduceCtorEq, ↓reduceIte, Nat.reduceEqDiff, Nat.reduceAdd, List.map_cons, List.map_nil, Option.map_some, Option.map_none, Bool.false_eq_true, Int.reduceLE, Int.reduceToNat, ne_eq, not_false_eq_true, and_self, and_true, true_and, decide_true, decide_false, Int.reduceEq, Int.reduceLT, Int.reduceBEq, Int.reduceBNe, not_true_eq_false, undef, hlen, ed1] <;> rfl) ?_)
    refine s_true (by simp [evl, upd_app]) (w_assoc (s_run (by simp only [runL, List.drop_succ_cons, List.drop_zero, awant_some, Option.getD_some, List.getElem?_toArray, List.getElem?_cons_succ, List.getElem?_cons_zero, Option.bind_some, b_tt, b_tf, b_ft, b_ff, Bool.not_true, Bool.not_false, List.take_succ_cons, List.take_zero, awant_none, astep, evl, put, ap_none, ap_new, ap_wr, List.length_nil, List.length_cons, Nat.add_zero, Nat.zero_add, upd_app, stepBin, abin, stepUn, stepPick, stepExtract, stepCall, if_true, if_false, reduceCtorEq, ↓reduceIte, Nat.reduceEqDiff, Nat.reduceAdd, List.map_cons, List.map_nil, Option.map_some, Option.map_none, Bool.false_eq_true, Int.reduceLE, Int.reduceToNat, ne_eq, not_false_eq_true, and_self, and_true, true_and, decide_true, decide_false, Int.reduceEq, Int.reduceLT, Int.reduceBEq, Int.reduceBNe, not_true_eq_false, undef] <;> rfl) ?_))
    refine s_ret ⟨.inr rfl, by simp, [], fin_none ?_ trivial (fun _ _ h => h)⟩
    simp [resVal, upd_app]
  have ed1 : (decide ((l.length : Int) < 1)) = false := decide_eq_false ea1
  by_cases ea2 : (l.length : Int) > 100
  · have ed2 : (decide ((l.length : Int) > 100)) = true := decide_eq_true ea2
    refine w_assoc (s_run (by simp only [runL, List.drop_succ_cons, List.drop_zero, awant_some, Option.getD_some, List.getElem?_toArray, List.getElem?_cons_succ, List.getElem?_cons_zero, Option.bind_some, b_tt, b_tf, b_ft, b_ff, Bool.not_true, Bool.not_false, List.take_succ_cons, List.take_zero, awant_none, astep, evl, put, ap_none, ap_new, ap_wr, List.length_nil, List.length_cons, Nat.add_zero, Nat.zero_add, upd_app, stepBin, abin, stepUn, stepPick, stepExtract, stepCall, if_true, if_false, reduceCtorEq, ↓reduceIte, Nat.reduceEqDiff, Nat.reduceAdd, List.map_cons, List.map_nil, Option.map_some, Option.map_none, Bool.false_eq_true, Int.reduceLE, Int.reduceToNat, ne_eq, not_false_eq_true, and_self, and_true, true_and, decide_true, decide_false, Int.reduceEq, Int.reduceLT, Int.reduceBEq, Int.reduceBNe, not_true_eq_false, undef, hlen, ed1, ed2] <;> rfl) ?_)
    refine s_true (by simp [evl, upd_app]) (w_assoc (s_run (by simp only [runL, List.drop_succ_cons, List.drop_zero, awant_some, Option.getD_some, List.getElem?_toArray, List.getElem?_cons_succ, List.getElem?_cons_zero, Option.bind_some, b_tt, b_tf, b_ft, b_ff, Bool.not_true, Bool.not_false, List.take_succ_cons, List.take_zero, awant_none, astep, evl, put, ap_none, ap_new, ap_wr, List.length_nil, List.length_cons, Nat.add_zero, Nat.zero_add, upd_app, stepBin, abin, stepUn, stepPick, stepExtract, stepCall, if_true, if_false, reduceCtorEq, ↓reduceIte, Nat.reduceEqDiff, Nat.reduceAdd, List.map_cons, List.map_nil, Option.map_some, Option.map_none, Bool.false_eq_true, Int.reduceLE, Int.reduceToNat, ne_eq, not_false_eq_true, and_self, and_true, true_and, decide_true, decide_false, Int.reduceEq, Int.reduceLT, Int.reduceBEq, Int.reduceBNe, not_true_eq_false, undef] <;> rfl) ?_))
    refine s_ret ⟨.inr rfl, by simp, [], fin_none ?_ trivial (fun _ _ h => h)⟩
    simp [resVal, upd_app]
  have ed2 : (decide ((l.length : Int) > 100)) = false := decide_eq_false ea2
  refine w_assoc (s_run (by simp only [runL, List.drop_succ_cons, List.drop_zero, awant_some, Option.getD_some, List.getElem?_toArray, List.getElem?_cons_succ, List.getElem?_cons_zero, Option.bind_some, b_tt, b_tf, b_ft, b_ff, Bool.not_true, Bool.not_false, List.take_succ_cons, List.take_zero, awant_none, astep, evl, put, ap_none, ap_new, ap_wr, List.length_nil, List.length_cons, Nat.add_zero, Nat.zero_add, upd_app, stepBin, abin, stepUn, stepPick, stepExtract, stepCall, if_true, if_false, reduceCtorEq, ↓reduceIte, Nat.reduceEqDiff, Nat.reduceAdd, List.map_cons, List.map_nil, Option.map_some, Option.map_none, Bool.false_eq_true, Int.reduceLE, Int.reduceToNat, ne_eq, not_false_eq_true, and_self, and_true, true_and, decide_true, decide_false, Int.reduceEq, Int.reduceLT, Int.reduceBEq, Int.reduceBNe, not_true_eq_false, undef, hlen, ed1, ed2] <;> rfl) ?_)
  refine s_false (by simp [evl, upd_app]) (s_skip ?_)
  have h0 : l.length ≠ 0 := by omega
  have hrp := rootLen_pos l h0
  refine w_gen (fun t => t 0 = v) (by simp [upd_app]) ?_
  intro t t0
  have hnil : stepBuildSlice Try.prog 23 0 [] n = some { v := .slice (some ⟨n, 0, some 0⟩) 0 1, j := n, a := [⟨false, 5, []⟩] } := build_nil Try.underlying23 tinf5 n
  have hO : OwnI 5 1 (upd g2 n (some ⟨false, 5, []⟩)) (.slice (some ⟨n, 0, some 0⟩) 0 1) 0 [] (some n) := .inr ⟨n, rfl, rfl, by simp, rfl⟩
  have hv3 : Src (upd g2 n (some ⟨false, 5, []⟩)) v 1 l.length (bs l) := (kp_upd (Kp.refl n g2) (Nat.le_refl _)).src hv2 hdom
  obtain ⟨f, id, hf, hO', hid, hk⟩ := own_append (P := Try.prog) (n := n + 1) (T := 23) hO hv3.cells (by simp [bs]) Try.underlying23 tinf5 (by omega) (by omega) (by omega)
  have hida : id = some n ∧ f.a = [] := by
    rcases hid with h | ⟨h, _⟩
    · exact h
    · cases h
  obtain ⟨rfl, hfa⟩ := hida
  refine s_run (by simp only [runL, List.drop_succ_cons, List.drop_zero, awant_some, Option.getD_some, List.getElem?_toArray, List.getElem?_cons_succ, List.getElem?_cons_zero, Option.bind_some, b_tt, b_tf, b_ft, b_ff, Bool.not_true, Bool.not_false, List.take_succ_cons, List.take_zero, awant_none, astep, evl, put, ap_none, ap_new, ap_wr, List.length_nil, List.length_cons, Nat.add_zero, Nat.zero_add, upd_app, stepBin, abin, stepUn, stepPick, stepExtract, stepCall, if_true, if_false, reduceCtorEq, ↓reduceIte, Nat.reduceEqDiff, Nat.reduceAdd, List.map_cons, List.map_nil, Option.map_some, Option.map_none, Bool.false_eq_true, Int.reduceLE, Int.reduceToNat, ne_eq, not_false_eq_true, and_self, and_true, true_and, decide_true, decide_false, Int.reduceEq, Int.reduceLT, Int.reduceBEq, Int.reduceBNe, not_true_eq_false, undef, t0, hnil, hf] <;> rfl) (w_heap fun G1 hG1 => ?_)
  rw [← hG1] at hO'
  have k1 : Kp n g2 G1 := fun i hi => by rw [hG1, hk i (by omega) (by simp; omega), upd_ne _ _ (by omega)]
  rcases hO' with ⟨h, _⟩ | ⟨q, hq, hfv, hb1, _⟩
  · cases h
  cases hq
  simp only [hfa, List.length_nil, Nat.add_zero]
  simp only [List.nil_append, Nat.zero_add] at hfv hb1
  have hlb : (bs l).length = l.length := by simp
  rw [hlb] at hfv
  refine w_gen (fun t => t 0 = v ∧ t 3 = .slice (some ⟨n, 0, some l.length⟩) l.length 1) (by simp [upd_app, put, t0, hfv]) ?_
  clear t0
  rintro t ⟨t0, t3⟩
  refine s_take 1 (by simp only [runL, List.drop_succ_cons, List.drop_zero, awant_some, Option.getD_some, List.getElem?_toArray, List.getElem?_cons_succ, List.getElem?_cons_zero, Option.bind_some, b_tt, b_tf, b_ft, b_ff, Bool.not_true, Bool.not_false, List.take_succ_cons, List.take_zero, awant_none, astep, evl, put, ap_none, ap_new, ap_wr, List.length_nil, List.length_cons, Nat.add_zero, Nat.zero_add, upd_app, stepBin, abin, stepUn, stepPick, stepExtract, stepCall, if_true, if_false, reduceCtorEq, ↓reduceIte, Nat.reduceEqDiff, Nat.reduceAdd, List.map_cons, List.map_nil, Option.map_some, Option.map_none, Bool.false_eq_true, Int.reduceLE, Int.reduceToNat, ne_eq, not_false_eq_true, and_self, and_true, true_and, decide_true, decide_false, Int.reduceEq, Int.reduceLT, Int.reduceBEq, Int.reduceBNe, not_true_eq_false, undef, t3] <;> rfl) ?_
  refine ops_call 21 _ rfl (root_ne _ l G1 (n + 1) (by omega) h0 (src_own1 hb1 rfl)) (by intro _; rfl) (ops_heap fun G2 hG2 => ?_)
  have k2 : Kp (n + 1) G1 G2 := by rw [hG2]; exact kp_ap (Kp.refl _ _) rfl (fun _ => Nat.le_refl _)
  have b2 : G2 (n + 1) = some ⟨false, 5, bs (l.take (rootLen l))⟩ := by rw [hG2]; simp [ap_new, upd_app]
  refine ops_run (by simp only [runL, List.drop_succ_cons, List.drop_zero, awant_some, Option.getD_some, List.getElem?_toArray, List.getElem?_cons_succ, List.getElem?_cons_zero, Option.bind_some, b_tt, b_tf, b_ft, b_ff, Bool.not_true, Bool.not_false, List.take_succ_cons, List.take_zero, awant_none, astep, evl, put, ap_none, ap_new, ap_wr, List.length_nil, List.length_cons, Nat.add_zero, Nat.zero_add, upd_app, stepBin, abin, stepUn, stepPick, stepExtract, stepCall, if_true, if_false, reduceCtorEq, ↓reduceIte, Nat.reduceEqDiff, Nat.reduceAdd, List.map_cons, List.map_nil, Option.map_some, Option.map_none, Bool.false_eq_true, Int.reduceLE, Int.reduceToNat, ne_eq, not_false_eq_true, and_self, and_true, true_and, decide_true, decide_false, Int.reduceEq, Int.reduceLT, Int.reduceBEq, Int.reduceBNe, not_true_eq_false, undef] <;> rfl) ?_
  refine w_gen (fun t => t 0 = v ∧ t 3 = .slice (some ⟨n, 0, some l.length⟩) l.length 1 ∧ t 4 = .slice (some ⟨n + 1, 0, some (rootLen l)⟩) (rootLen l) 1) (by simp [upd_app, put, t0, t3]) ?_
  clear t0 t3
  rintro t ⟨t0, t3, t4⟩
  have hlt : (l.take (rootLen l)).length = rootLen l := by simp; omega
  have hln := (src_own1 b2 hlt.symm).len (P := Try.prog) Try.underlying23
  rw [hlt] at hln
  have dz : ((rootLen l : Int) == 0) = false := ieq_f (by omega)
  refine w_assoc (s_run (by simp only [runL, List.drop_succ_cons, List.drop_zero, awant_some, Option.getD_some, List.getElem?_toArray, List.getElem?_cons_succ, List.getElem?_cons_zero, Option.bind_some, b_tt, b_tf, b_ft, b_ff, Bool.not_true, Bool.not_false, List.take_succ_cons, List.take_zero, awant_none, astep, evl, put, ap_none, ap_new, ap_wr, List.length_nil, List.length_cons, Nat.add_zero, Nat.zero_add, upd_app, stepBin, abin, stepUn, stepPick, stepExtract, stepCall, if_true, if_false, reduceCtorEq, ↓reduceIte, Nat.reduceEqDiff, Nat.reduceAdd, List.map_cons, List.map_nil, Option.map_some, Option.map_none, Bool.false_eq_true, Int.reduceLE, Int.reduceToNat, ne_eq, not_false_eq_true, and_self, and_true, true_and, decide_true, decide_false, Int.reduceEq, Int.reduceLT, Int.reduceBEq, Int.reduceBNe, not_true_eq_false, undef, t4, hln, dz] <;> rfl) ?_)
  refine s_false (by simp [evl, upd_app]) (s_skip ?_)
  have hc0 : (bs (l.take (rootLen l)))[0]? = some (.int .u8 (byt (l.take (rootLen l)) 0)) := bs_at (by omega)
  obtain ⟨i1, i2, i3⟩ := own_at (P := Try.prog) (T := 23) b2 hc0 Try.underlying23 tsize5 aggT5
  have hbl : (bs (l.take (rootLen l))).length = rootLen l := by simp; omega
  rw [hbl] at i1 i2 i3
  have i1' : stepIndex Try.prog 23 (.slice (some ⟨n + 1, 0, some (rootLen l)⟩) (rootLen l) 1) (.int .i64 0) = some { v := .pointer (some ⟨n + 1, 0, some (rootLen l)⟩) } := i1 .i64
  refine s_run (by simp only [runL, List.drop_succ_cons, List.drop_zero, awant_some, Option.getD_some, List.getElem?_toArray, List.getElem?_cons_succ, List.getElem?_cons_zero, Option.bind_some, b_tt, b_tf, b_ft, b_ff, Bool.not_true, Bool.not_false, List.take_succ_cons, List.take_zero, awant_none, astep, evl, put, ap_none, ap_new, ap_wr, List.length_nil, List.length_cons, Nat.add_zero, Nat.zero_add, upd_app, stepBin, abin, stepUn, stepPick, stepExtract, stepCall, if_true, if_false, reduceCtorEq, ↓reduceIte, Nat.reduceEqDiff, Nat.reduceAdd, List.map_cons, List.map_nil, Option.map_some, Option.map_none, Bool.false_eq_true, Int.reduceLE, Int.reduceToNat, ne_eq, not_false_eq_true, and_self, and_true, true_and, decide_true, decide_false, Int.reduceEq, Int.reduceLT, Int.reduceBEq, Int.reduceBNe, not_true_eq_false, undef, t4, i1', i2, i3] <;> rfl) (w_heap fun G3 hG3 => ?_)
  have k3 : Kp (n + 1) G2 G3 := by rw [hG3]; exact kp_upd (Kp.refl _ _) (Nat.le_refl _)
  refine w_gen (fun t => t 0 = v ∧ t 3 = .slice (some ⟨n, 0, some l.length⟩) l.length 1) (by simp [upd_app, put, t0, t3]) ?_
  clear t0 t3 t4
  rintro t ⟨t0, t3⟩
  obtain ⟨r1, x1, _⟩ := src_str (src_own1 (k3.at (by omega) (k2.at (by omega) hb1)) rfl)
  obtain ⟨r2, x2, _⟩ := src_str ((k3.le (by omega)).src ((k2.le (by omega)).src (k1.src hv2 hdom) hdom) hdom)
  refine s_take 6 (by simp only [runL, List.drop_succ_cons, List.drop_zero, awant_some, Option.getD_some, List.getElem?_toArray, List.getElem?_cons_succ, List.getElem?_cons_zero, Option.bind_some, b_tt, b_tf, b_ft, b_ff, Bool.not_true, Bool.not_false, List.take_succ_cons, List.take_zero, awant_none, astep, evl, put, ap_none, ap_new, ap_wr, List.length_nil, List.length_cons, Nat.add_zero, Nat.zero_add, upd_app, stepBin, abin, stepUn, stepPick, stepExtract, stepCall, if_true, if_false, reduceCtorEq, ↓reduceIte, Nat.reduceEqDiff, Nat.reduceAdd, List.map_cons, List.map_nil, Option.map_some, Option.map_none, Bool.false_eq_true, Int.reduceLE, Int.reduceToNat, ne_eq, not_false_eq_true, and_self, and_true, true_and, decide_true, decide_false, Int.reduceEq, Int.reduceLT, Int.reduceBEq, Int.reduceBNe, not_true_eq_false, undef, t0, t3, x1, x2, beq_self_eq_true] <;> rfl) ?_
  refine g_call 28 _ (by simp only [runL, List.drop_succ_cons, List.drop_zero, awant_some, Option.getD_some, List.getElem?_toArray, List.getElem?_cons_succ, List.getElem?_cons_zero, Option.bind_some, b_tt, b_tf, b_ft, b_ff, Bool.not_true, Bool.not_false, List.take_succ_cons, List.take_zero, awant_none, astep, evl, put, ap_none, ap_new, ap_wr, List.length_nil, List.length_cons, Nat.add_zero, Nat.zero_add, upd_app, stepBin, abin, stepUn, stepPick, stepExtract, stepCall, if_true, if_false, reduceCtorEq, ↓reduceIte, Nat.reduceEqDiff, Nat.reduceAdd, List.map_cons, List.map_nil, Option.map_some, Option.map_none, Bool.false_eq_true, Int.reduceLE, Int.reduceToNat, ne_eq, not_false_eq_true, and_self, and_true, true_and, decide_true, decide_false, Int.reduceEq, Int.reduceLT, Int.reduceBEq, Int.reduceBNe, not_true_eq_false, undef] <;> rfl) rfl (pknown_spec _) (by simp) ?_
  refine ops_run (by simp only [runL, List.drop_succ_cons, List.drop_zero, awant_some, Option.getD_some, List.getElem?_toArray, List.getElem?_cons_succ, List.getElem?_cons_zero, Option.bind_some, b_tt, b_tf, b_ft, b_ff, Bool.not_true, Bool.not_false, List.take_succ_cons, List.take_zero, awant_none, astep, evl, put, ap_none, ap_new, ap_wr, List.length_nil, List.length_cons, Nat.add_zero, Nat.zero_add, upd_app, stepBin, abin, stepUn, stepPick, stepExtract, stepCall, if_true, if_false, reduceCtorEq, ↓reduceIte, Nat.reduceEqDiff, Nat.reduceAdd, List.map_cons, List.map_nil, Option.map_some, Option.map_none, Bool.false_eq_true, Int.reduceLE, Int.reduceToNat, ne_eq, not_false_eq_true, and_self, and_true, true_and, decide_true, decide_false, Int.reduceEq, Int.reduceLT, Int.reduceBEq, Int.reduceBNe, not_true_eq_false, undef] <;> rfl) ?_
  refine w_ret ⟨.inr rfl, by simp, [], fin_none ?_ trivial ?_⟩
  · simp [resVal, upd_app]
  · intro i b hb
    have := hs i (hwf i b hb).1
    exact k3.at (by omega) (k2.at (by omega) (k1.at this hb))
end Go.Proofs.Ytokmmcfnpobldaa

namespace Go.Proofs.Ytokmmcfnpobldaa
open Go Abs
set_option linter.unusedSimpArgs false
set_option linter.unusedVariables false



theorem wrap8_of {v : Nat} (h : v < 256) : IntKind.u8.wrap (v : Int) = (v : Int) := by rw [wrap_u8, Nat.mod_eq_of_lt h]

theorem wrap_succ {k : Nat} (h : k < 9223372036854775807) : IntKind.i64.wrap ((k : Int) + 1) = ((k + 1 : Nat) : Int) := by rw [wrap64_of (by omega) (by omega)]; simp

theorem wrap_nat {k : Nat} (h : k ≤ 9223372036854775807) : IntKind.i64.wrap (k : Int) = (k : Int) := wrap64_of (by omega) (by omega)

theorem wrap_add {a b : Nat} (h : a + b ≤ 9223372036854775807) : IntKind.i64.wrap ((a : Int) + (b : Int)) = ((a + b : Nat) : Int) := by rw [wrap64_of (by omega) (by omega)]; simp

theorem wrap_sub {a b : Nat} (h : b ≤ a) (ha : a ≤ 9223372036854775807) : IntKind.i64.wrap ((a : Int) - (b : Int)) = ((a - b : Nat) : Int) := by rw [wrap64_of (by omega) (by omega)]; omega

theorem wrap_sub1 {a : Nat} (h : 1 ≤ a) (ha : a ≤ 9223372036854775807) : IntKind.i64.wrap ((a : Int) - 1) = ((a - 1 : Nat) : Int) := by rw [wrap64_of (by omega) (by omega)]; omega

theorem byt_lt {l : List Nat} (h : ∀ x ∈ l, x < 256) (i : Nat) : byt l i < 256 := by
  unfold byt
  by_cases hi : i < l.length
  · rw [List.getElem?_eq_getElem hi]; exact h _ (List.getElem_mem hi)
  · rw [List.getElem?_eq_none (by omega)]; simp

theorem byt_eq {l : List Nat} {i : Nat} (h : i < l.length) : byt l i = l[i] := by simp [byt, List.getElem?_eq_getElem h]

theorem ints_app (a b : List Nat) : ints a ++ ints b = ints (a ++ b) := by simp [ints]

theorem bs_inj {a b : List Nat} (h : bs a = bs b) : a = b := by
  have := congrArg (List.map fun v => match v with | Value.int _ n => n.toNat | _ => 0) h
  simpa [Function.comp_def] using this

theorem bs_set (l : List Nat) (i x : Nat) : (bs l).set i (.int .u8 (x : Int)) = bs (l.set i x) := by simp [bs, List.map_set]

theorem ints_set (l : List Nat) (i x : Nat) : (ints l).set i (.int .i64 (x : Int)) = ints (l.set i x) := by simp [ints, List.map_set]

theorem src_cells {g : Heap} {k e m : Nat} {ro : Bool} {cs : List Value} (h : g k = some ⟨ro, e, cs⟩) (hm : m = cs.length) : Src g (.slice (some ⟨k, 0, some m⟩) m 1) 1 m cs := by
  subst hm
  by_cases h0 : cs.length = 0
  · have : cs = [] := List.eq_nil_of_length_eq_zero h0
    subst this
    exact .inr (.inl ⟨_, rfl, rfl, rfl⟩)
  · exact .inr (.inr ⟨_, ⟨ro, e, cs⟩, rfl, by omega, by simp [rd, h], by rw [Nat.mul_one]; exact (List.take_of_length_le (by simp)).symm, by simp⟩)

theorem src_bs {g : Heap} {k e m : Nat} {ro : Bool} {l : List Nat} (h : g k = some ⟨ro, e, bs l⟩) (hm : m = l.length) : Src g (.slice (some ⟨k, 0, some m⟩) m 1) 1 l.length (bs l) := by subst hm; exact src_cells h (by simp)

/-- A new slice, nil if it is empty. -/
def newE (e : TypeId) (cs : List Value) (r : List Nat) (j : Nat) : Eff :=
  if cs.length = 0 then { v := .slice none 0 0, r := r, j := j } else { v := .slice (some ⟨j, 0, some cs.length⟩) cs.length 1, r := r, j := j, a := [⟨false, e, cs⟩] }

theorem newE_r (e : TypeId) (cs : List Value) (r : List Nat) (j : Nat) : (newE e cs r j).r = r := by unfold newE; split <;> rfl

theorem newE_w (e : TypeId) (cs : List Value) (r : List Nat) (j : Nat) : (newE e cs r j).w = [] := by unfold newE; split <;> rfl

theorem newE_j (e : TypeId) (cs : List Value) (r : List Nat) (j : Nat) : (newE e cs r j).j = j := by unfold newE; split <;> rfl

theorem newE_a (e : TypeId) (cs : List Value) (r : List Nat) (j : Nat) : (newE e cs r j).a.length ≤ 1 := by unfold newE; split <;> simp

theorem newE_fp (e : TypeId) (cs : List Value) (r : List Nat) (j : Nat) : (newE e cs r j).fp = r := by simp [Eff.fp, newE_r, newE_w]

theorem newE_src (e : TypeId) (cs : List Value) (r : List Nat) (j : Nat) (G : Heap) : Src ((newE e cs r j).ap G) (newE e cs r j).v 1 cs.length cs := by
  unfold newE
  split
  · rename_i h
    have : cs = [] := List.eq_nil_of_length_eq_zero h
    subst this
    exact .inl ⟨rfl, rfl, rfl⟩
  · exact src_cells (ro := false) (e := e) (by simp [ap_new, upd_app]) rfl

theorem newE_blk (e : TypeId) (cs : List Value) (r : List Nat) (j : Nat) : ∀ i ∈ srcBlk (newE e cs r j).v, i = j ∧ (newE e cs r j).a.length = 1 := by
  unfold newE
  split
  · simp [srcBlk]
  · intro i hi; exact ⟨srcBlk_own i hi, rfl⟩

theorem newE_kp {e : TypeId} {cs : List Value} {r : List Nat} {j n : Nat} {g g' : Heap} (h : Kp n g g') (hn : n ≤ j) : Kp n g ((newE e cs r j).ap g') := kp_ap h (newE_w ..) (fun _ => by rw [newE_j]; exact hn)

theorem newE_own {e : TypeId} {cs : List Value} {r : List Nat} {j : Nat} (h : cs.length ≠ 0) : newE e cs r j = { v := .slice (some ⟨j, 0, some cs.length⟩) cs.length 1, r := r, j := j, a := [⟨false, e, cs⟩] } := by rw [newE, if_neg h]

theorem newE_nil {e : TypeId} {cs : List Value} {r : List Nat} {j : Nat} (h : cs.length = 0) : newE e cs r j = { v := .slice none 0 0, r := r, j := j } := by rw [newE, if_pos h]

/-- v is nil or the whole of one of the blocks n.. below n', which has the cells l (then not empty). -/
def Own (e : TypeId) (g : Heap) (v : Value) (l : List Value) (n n' : Nat) : Prop := ∃ i, OwnI e 1 g v l.length l i ∧ ∀ q, i = some q → n ≤ q ∧ q < n' ∧ l.length ≠ 0

theorem Own.nil (e : TypeId) (g : Heap) (n n' : Nat) : Own e g (.slice none 0 0) [] n n' := ⟨none, OwnI.nil e 1 g, by simp⟩

theorem Own.src {e : TypeId} {g : Heap} {v : Value} {l : List Value} {n n' : Nat} (h : Own e g v l n n') : Src g v 1 l.length l := by obtain ⟨i, h, _⟩ := h; exact h.toSrc

theorem Own.blk {e : TypeId} {g : Heap} {v : Value} {l : List Value} {n n' : Nat} (h : Own e g v l n n') : ∀ i ∈ srcBlk v, n ≤ i ∧ i < n' := by
  obtain ⟨i, h, hi⟩ := h
  rcases h with ⟨_, rfl, _, _⟩ | ⟨k, rfl, rfl, _, _⟩
  · simp [srcBlk]
  · intro q hq
    have := srcBlk_own q hq
    have := hi k rfl
    omega

theorem Own.keep {e : TypeId} {g g' : Heap} {v : Value} {l : List Value} {n n' n'' : Nat} (h : Own e g v l n n') (hk : Kp n' g g') (hn : n' ≤ n'') : Own e g' v l n n'' := by
  obtain ⟨i, h, hi⟩ := h
  exact ⟨i, h.keep fun k hk' => hk k (hi k hk').2.1, fun q hq => by have := hi q hq; omega⟩

section

variable {P : Program} {g : Heap} {n n' : Nat}

theorem Own.append {T e : TypeId} {zs : List Value} {bytes : Nat} {v y : Value} {l news : List Value} (h : Own e g v l n n') (hs : Src g y 1 news.length news) (ht : P.underlying T = some (.slice e)) (hti : tinf P e = some (zs, 1, bytes)) (hb1 : l.length + news.length ≤ 1099511627776) (hb2 : bytes ≤ 100) (hn : n ≤ n') :
    ∃ f, stepAppend P T T v y g n' = some f ∧ Own e (f.ap g) f.v (l ++ news) n (n' + f.a.length) ∧ Kp n g (f.ap g) := by
  obtain ⟨i, h, hi⟩ := h
  obtain ⟨f, i', hf, hO, hi', hk⟩ := own_append (P := P) (n := n') h hs.cells (by simp) ht hti (by omega) hb1 hb2
  refine ⟨f, hf, ⟨i', by rw [List.length_append]; exact hO, fun q hq => ?_⟩, fun k hk' => hk k (by omega) fun e => by have := hi k e.symm; omega⟩
  rcases hi' with ⟨e1, e2⟩ | ⟨e1, e2, e3⟩
  · rw [e1] at hq
    have := hi q hq
    exact ⟨this.1, by omega, by rw [List.length_append]; omega⟩
  · rw [e2] at hq
    cases hq
    refine ⟨hn, by omega, ?_⟩
    rcases hO with ⟨h, _⟩ | ⟨k, _, _, _, h4⟩
    · rw [h] at e2; cases e2
    · intro h0
      have hl : l ++ news = [] := List.eq_nil_of_length_eq_zero h0
      have hl2 : news = [] := (List.append_eq_nil_iff.1 hl).2
      subst hl2
      have : f.a.length = 0 := by
        rcases h with ⟨_, rfl, _, _⟩ | ⟨k, e4, _, _, _⟩
        · have := hs.cells
          simp [stepAppend, ht, hti, this] at hf
          rw [← hf]; rfl
        · rw [e1] at e4; cases e4
      omega

/-- 'append(v, c)'. -/
theorem Own.push {T e : TypeId} {zs : List Value} {bytes : Nat} {v c : Value} {l : List Value} (h : Own e g v l n n') (ht : P.underlying T = some (.slice e)) (hti : tinf P e = some (zs, 1, bytes)) (hb1 : l.length + 1 ≤ 1099511627776) (hb2 : bytes ≤ 100) (hn : n ≤ n') :
    ∃ f, stepAppend P T T v (.slice (some ⟨n', 0, some 1⟩) 1 1) (upd g n' (some ⟨false, e, [c]⟩)) (n' + 1) = some f ∧ Own e (f.ap (upd g n' (some ⟨false, e, [c]⟩))) f.v (l ++ [c]) n (n' + 1 + f.a.length) ∧ Kp n g (f.ap (upd g n' (some ⟨false, e, [c]⟩))) := by
  have h' : Own e (upd g n' (some ⟨false, e, [c]⟩)) v l n (n' + 1) := h.keep (kp_upd (Kp.refl _ _) (Nat.le_refl _)) (by omega)
  have hs : Src (upd g n' (some ⟨false, e, [c]⟩)) (.slice (some ⟨n', 0, some 1⟩) 1 1) 1 [c].length [c] := src_cells (ro := false) (e := e) (by simp) rfl
  obtain ⟨f, hf, hO, hk⟩ := h'.append (P := P) hs ht hti hb1 hb2 (by omega)
  exact ⟨f, hf, hO, fun k hk' => by rw [hk k hk', upd_ne _ _ (by omega)]⟩

end

section

variable {s2 : Nat → Prop} {g2 g' : Heap} {n n' : Nat} {v' : Value}

theorem fin_plain {v : Value} {r : List Nat} {j : Nat} (hs : ∀ i, s2 i → i < n) (hwf : ∀ i b, g2 i = some b → s2 i ∧ ∀ c ∈ b.cells, SV1 s2 c) (hk : Kp n g2 g') (hv : v' = v) (hsv : SVT s2 v) : Abs.Fin { v := v, r := r, j := j } [] s2 g2 n g' v' :=
  fin_none hv hsv fun i b hb => hk.at (hs i (hwf i b hb).1) hb

theorem Own.fin {e : TypeId} {l : List Value} {r : List Nat} {j : Nat} (h : Own e g' v' l n n') (hp : ∀ c ∈ l, plain c = true) (hs : ∀ i, s2 i → i < n) (hwf : ∀ i b, g2 i = some b → s2 i ∧ ∀ c ∈ b.cells, SV1 s2 c) (hk : Kp n g2 g') : ∃ ids, Abs.Fin (newE e l r j) ids s2 g2 n g' v' := by
  have hold : ∀ i b, g2 i = some b → g' i = some b := fun i b hb => hk.at (hs i (hwf i b hb).1) hb
  obtain ⟨i, h, hi⟩ := h
  rcases h with ⟨_, rfl, h2, h3⟩ | ⟨k, rfl, rfl, h3, h4⟩
  · exact ⟨[], by rw [newE_nil h2]; exact fin_none rfl trivial hold⟩
  · have := hi k rfl
    exact ⟨[k], by rw [newE_own this.2.2]; exact fin_slice rfl this.1 h3 hp hold⟩

end

/-- A row of ints that came in. -/
theorem row_argI {w : World} {a : Option Addr} {len cap : Nat} {zs : List Int} (h : Row .i64 w a len cap zs) : ∃ l : List Int, l.length = len ∧ EntIn w (argE a len 3 (l.map (Value.int .i64))) ∧
    (∀ (L : List Ent) (i : Nat), L[i]? = some (argE a len 3 (l.map (Value.int .i64))) → Src (gOf L) (argV i a len 1) 1 l.length (l.map (Value.int .i64)) ∧ ∀ s : Nat → Prop, s i → VV (rOf L) (gOf L) s (argV i a len 1) (.slice a len cap)) ∧ ∀ x ∈ l, -9223372036854775808 ≤ x ∧ x ≤ 9223372036854775807 := by
  obtain ⟨hE, h1, h2, hn, hl⟩ := row_in h 3
  have hl1 : (zs.take len).length = len := by simpa using hl
  refine ⟨zs.take len, hl1, hE, fun L i hL => ⟨?_, fun s hs => argV_VV hL hs (by simpa using hl) h1 h2 hn hE⟩, fun x hx => ?_⟩
  · rw [hl1]
    exact argV_src hL (by simpa using hl) (fun e => (hn e).1)
  · rcases h with ⟨_, _, _, rfl⟩ | ⟨x, _, _, _, _, _, h5⟩
    · simp at hx
    · have := h5 _ (List.mem_of_mem_take hx)
      simp [Lit.wf, IntKind.min, IntKind.max, IntKind.signed, IntKind.bits] at this
      omega

/-- 'for i := k0; i < M; i++': J k holds at the head of round k. -/
theorem for_loop {P : Program} {Q : AQ} {id id1 ra rb : Nat} {i c d e : Tmp} {ops : Array Oper} {ty1 ty2 ty3 T3 T4 : TypeId} {p1 p2 p3 : String} {a1 a2 a3 : Array Edge} {body : Code} {t : Nat → Value} {g : Heap} {n : Nat}
    (k0 M : Nat) (J : Nat → (Nat → Value) → Heap → Nat → Prop) (hM : M ≤ 4611686018427387904) (hk0 : k0 ≤ M) (h0 : t i = .int .i64 k0) (hJ0 : J k0 t g n)
    (hcond : ∀ k t g n, k ≤ M → t i = .int .i64 k → J k t g n → ∃ t', runL P ops ops.toList ⟨t, g, n⟩ = some ⟨t', g, n⟩ ∧ t' c = .bool (decide (k < M)) ∧ t' i = .int .i64 k ∧ J k t' g n)
    (hbody : ∀ k t g n, k < M → t i = .int .i64 k → J k t g n → awp P body (rangePost id id1 (fun t' g' n' => t' i = .int .i64 k ∧ ∀ v1 v2 v3, J (k + 1) (upd (upd (upd t' d v1) e v2) i v3) g' n') Q) t g n)
    (hend : ∀ t g n, J M t g n → Q .normal t g n) :
    awp P (.block id (.loop (.seq (.seq (.region ra ops false) (.cond (.tmp c) .skip (.exit id)))
      (.seq (.block id1 body) (.region rb #[⟨some d, .move (.tmp i), ty1, p1, a1, none⟩, ⟨some e, .binOp .add T3 (.tmp d) (.const (.int .i64 1)) T4, ty2, p2, a2, none⟩, ⟨some i, .assign (.tmp e), ty3, p3, a3, none⟩] false))))) Q t g n := by
  refine w_block (w_loop (fun t g n => ∃ k, k ≤ M ∧ t i = .int .i64 k ∧ J k t g n) (fun t _ _ => match t i with | .int _ k => M - k.toNat | _ => 0) ⟨k0, hk0, h0, hJ0⟩ ?_)
  rintro t g n ⟨k, hk, hi, hJk⟩
  obtain ⟨t', hr, hc, hi', hJ'⟩ := hcond k t g n hk hi hJk
  refine w_assoc (s_run hr ?_)
  by_cases hlt : k < M
  · refine s_true (by simp only [evl, hc]; simp; exact hlt) (s_skip (w_seq (w_block ?_)))
    refine awp_mono ?_ (hbody k _ g n hlt hi' hJ')
    have inc : ∀ t' g' n', (t' i = .int .i64 k ∧ ∀ v1 v2 v3, J (k + 1) (upd (upd (upd t' d v1) e v2) i v3) g' n') → awp P (.region rb #[⟨some d, .move (.tmp i), ty1, p1, a1, none⟩, ⟨some e, .binOp .add T3 (.tmp d) (.const (.int .i64 1)) T4, ty2, p2, a2, none⟩, ⟨some i, .assign (.tmp e), ty3, p3, a3, none⟩] false)
        (athen (fun t'' g'' n'' => (∃ k, k ≤ M ∧ t'' i = .int .i64 k ∧ J k t'' g'' n'') ∧ (match t'' i with | .int _ k => M - k.toNat | _ => 0) < (match t i with | .int _ k => M - k.toNat | _ => 0)) (ainBlock id Q)) t' g' n' := by
      rintro t' g' n' ⟨q1, q3⟩
      have hw : IntKind.i64.wrap ((k : Int) + 1) = ((k + 1 : Nat) : Int) := wrap_succ (by omega)
      refine region_run (t' := upd (upd (upd t' d (.int .i64 k)) e (.int .i64 ((k + 1 : Nat) : Int))) i (.int .i64 ((k + 1 : Nat) : Int))) (g' := g') (n' := n') (by simp only [runL, awant_none, astep, evl, put, ap_none, List.length_nil, Nat.add_zero, stepBin, abin, q1, if_true, hw, upd_self]) ?_
      clear hw
      refine ⟨⟨k + 1, by omega, by simp, q3 _ _ _⟩, ?_⟩
      rw [hi, upd_self]
      show M - ((k + 1 : Nat) : Int).toNat < M - (k : Int).toNat
      rw [Int.toNat_natCast, Int.toNat_natCast]
      exact Nat.sub_lt_sub_left hlt (Nat.lt_succ_self k)
    intro e t' g' n' he
    cases e with
    | normal => exact inc t' g' n' he
    | exit e =>
      simp only [rangePost] at he
      simp only [ainBlock]
      split at he
      · rename_i e1; rw [if_pos e1]; exact inc t' g' n' he
      · rename_i e1
        rw [if_neg e1]
        simp only [athen, ainBlock] at he ⊢
        exact he
    | _ => exact he
  · refine s_false (by simp only [evl, hc]; simp; omega) (s_exit ?_)
    have : k = M := by omega
    subst this
    simp only [athen, ainBlock, if_true]
    exact hend _ _ _ hJ'

/-- The same with what stands behind it. -/
theorem s_for {P : Program} {Q : AQ} {id id1 ra rb : Nat} {i c d e : Tmp} {ops : Array Oper} {ty1 ty2 ty3 T3 T4 : TypeId} {p1 p2 p3 : String} {a1 a2 a3 : Array Edge} {body rest : Code} {t : Nat → Value} {g : Heap} {n : Nat}
    (k0 M : Nat) (J : Nat → (Nat → Value) → Heap → Nat → Prop) (hM : M ≤ 4611686018427387904) (hk0 : k0 ≤ M) (h0 : t i = .int .i64 k0) (hJ0 : J k0 t g n)
    (hcond : ∀ k t g n, k ≤ M → t i = .int .i64 k → J k t g n → ∃ t', runL P ops ops.toList ⟨t, g, n⟩ = some ⟨t', g, n⟩ ∧ t' c = .bool (decide (k < M)) ∧ t' i = .int .i64 k ∧ J k t' g n)
    (hbody : ∀ k t g n, k < M → t i = .int .i64 k → J k t g n → awp P body (rangePost id id1 (fun t' g' n' => t' i = .int .i64 k ∧ ∀ v1 v2 v3, J (k + 1) (upd (upd (upd t' d v1) e v2) i v3) g' n') (athen (awp P rest Q) Q)) t g n)
    (hend : ∀ t g n, J M t g n → awp P rest Q t g n) :
    awp P (.seq (.block id (.loop (.seq (.seq (.region ra ops false) (.cond (.tmp c) .skip (.exit id)))
      (.seq (.block id1 body) (.region rb #[⟨some d, .move (.tmp i), ty1, p1, a1, none⟩, ⟨some e, .binOp .add T3 (.tmp d) (.const (.int .i64 1)) T4, ty2, p2, a2, none⟩, ⟨some i, .assign (.tmp e), ty3, p3, a3, none⟩] false))))) rest) Q t g n :=
  w_seq (for_loop k0 M J hM hk0 h0 hJ0 hcond hbody hend)

/-- 'for i := range M' (of a slice or a number): J k holds at the head of round k. -/
theorem s_rng {P : Program} {Q : AQ} {id id1 ra rb : Nat} {i m c d : Tmp} {ty1 ty2 ty3 T1 T2 T3 T4 : TypeId} {p1 p2 p3 : String} {a1 a2 a3 : Array Edge} {body rest : Code} {t : Nat → Value} {g : Heap} {n : Nat}
    (M : Nat) (J : Nat → (Nat → Value) → Heap → Nat → Prop) (hM : M ≤ 4611686018427387904) (h0 : t i = .int .i64 0) (hm : t m = .int .i64 M) (hJ0 : ∀ v, J 0 (upd t c v) g n)
    (hd : i ≠ m ∧ c ≠ i ∧ c ≠ m ∧ d ≠ i ∧ d ≠ m)
    (hbody : ∀ k t g n, k < M → t i = .int .i64 k → t m = .int .i64 M → J k t g n → awp P body (rangePost id id1 (fun t' g' n' => t' i = .int .i64 k ∧ t' m = .int .i64 M ∧ ∀ v1 v2 v3, J (k + 1) (upd (upd (upd t' d v1) i v2) c v3) g' n') (athen (awp P rest Q) Q)) t g n)
    (hend : ∀ t g n, J M t g n → awp P rest Q t g n) :
    awp P (.seq (.block id (.loop (.seq (.region ra #[⟨some c, .binOp .lss T1 (.tmp i) (.tmp m) T2, ty1, p1, a1, none⟩] false)
      (.seq (.cond (.tmp c) .skip (.exit id)) (.seq (.block id1 body) (.region rb #[⟨some d, .binOp .add T3 (.tmp i) (.const (.int .i64 1)) T4, ty2, p2, a2, none⟩, ⟨some i, .move (.tmp d), ty3, p3, a3, none⟩] false)))))) rest) Q t g n := by
  obtain ⟨d1, d2, d3, d4, d5⟩ := hd
  refine w_seq (w_block (w_loop (fun t g n => ∃ k, k ≤ M ∧ t i = .int .i64 k ∧ t m = .int .i64 M ∧ ∀ v, J k (upd t c v) g n) (fun t _ _ => match t i with | .int _ k => M - k.toNat | _ => 0) ⟨0, by omega, h0, hm, hJ0⟩ ?_))
  rintro t g n ⟨k, hk, hi, hm, hJk⟩
  refine s_run (t' := upd t c (.bool (decide ((k : Int) < M)))) (g' := g) (n' := n) (by simp only [runL, awant_none, astep, evl, put, ap_none, List.length_nil, Nat.add_zero, stepBin, abin, hi, hm, if_true]) ?_
  have hJc := hJk (.bool (decide ((k : Int) < M)))
  have hi' : upd t c (.bool (decide ((k : Int) < M))) i = .int .i64 k := by rw [upd_ne _ _ (Ne.symm d2)]; exact hi
  have hm' : upd t c (.bool (decide ((k : Int) < M))) m = .int .i64 M := by rw [upd_ne _ _ (Ne.symm d3)]; exact hm
  by_cases hlt : k < M
  · refine s_true (by simp only [evl, upd_self]; simp; exact hlt) (s_skip (w_seq (w_block ?_)))
    refine awp_mono ?_ (hbody k _ g n hlt hi' hm' hJc)
    have inc : ∀ t' g' n', (t' i = .int .i64 k ∧ t' m = .int .i64 M ∧ ∀ v1 v2 v3, J (k + 1) (upd (upd (upd t' d v1) i v2) c v3) g' n') → awp P (.region rb #[⟨some d, .binOp .add T3 (.tmp i) (.const (.int .i64 1)) T4, ty2, p2, a2, none⟩, ⟨some i, .move (.tmp d), ty3, p3, a3, none⟩] false)
        (athen (fun t'' g'' n'' => (∃ k, k ≤ M ∧ t'' i = .int .i64 k ∧ t'' m = .int .i64 M ∧ ∀ v, J k (upd t'' c v) g'' n'') ∧ (match t'' i with | .int _ k => M - k.toNat | _ => 0) < (match t i with | .int _ k => M - k.toNat | _ => 0)) (ainBlock id (athen (awp P rest Q) Q))) t' g' n' := by
      rintro t' g' n' ⟨q1, q2, q3⟩
      have hw : IntKind.i64.wrap ((k : Int) + 1) = ((k + 1 : Nat) : Int) := wrap_succ (by omega)
      refine region_run (t' := upd (upd t' d (.int .i64 ((k + 1 : Nat) : Int))) i (.int .i64 ((k + 1 : Nat) : Int))) (g' := g') (n' := n') (by simp only [runL, awant_none, astep, evl, put, ap_none, List.length_nil, Nat.add_zero, stepBin, abin, q1, if_true, hw, upd_self]) ?_
      clear hw
      refine ⟨⟨k + 1, by omega, by simp, ?_, fun v => q3 _ _ _⟩, ?_⟩
      · rw [upd_ne _ _ (Ne.symm d1), upd_ne _ _ (Ne.symm d5)]; exact q2
      · rw [hi, upd_self]
        show M - ((k + 1 : Nat) : Int).toNat < M - (k : Int).toNat
        rw [Int.toNat_natCast, Int.toNat_natCast]
        exact Nat.sub_lt_sub_left hlt (Nat.lt_succ_self k)
    intro e t' g' n' he
    cases e with
    | normal => exact inc t' g' n' he
    | exit e =>
      simp only [rangePost] at he
      simp only [ainBlock]
      split at he
      · rename_i e1; rw [if_pos e1]; exact inc t' g' n' he
      · rename_i e1
        rw [if_neg e1]
        simp only [athen, ainBlock] at he ⊢
        exact he
    | _ => exact he
  · refine s_false (by simp only [evl, upd_self]; simp; omega) (s_exit ?_)
    have : k = M := by omega
    subst this
    simp only [athen, ainBlock, if_true]
    exact hend _ _ _ hJc

theorem plain_bs (l : List Nat) : ∀ c ∈ bs l, plain c = true := plain_ints

theorem plain_is (l : List Nat) : ∀ c ∈ ints l, plain c = true := plain_ints


/-- What was done so far in a statement whose order is open: it wrote blocks from lo on alone, and all lies below hi. -/
def AccB (lo hi idx : Nat) (acc : List FP) : Prop := ∀ p ∈ acc, p.1 < idx ∧ (∀ x ∈ p.2.2, lo ≤ x ∧ x < hi) ∧ ∀ x ∈ p.2.1, x < hi

theorem AccB.nil (lo hi idx : Nat) : AccB lo hi idx [] := by intro p hp; simp at hp

theorem AccB.le {lo hi idx lo' hi' idx' : Nat} {acc : List FP} (h : AccB lo hi idx acc) (h1 : lo' ≤ lo) (h2 : hi ≤ hi') (h3 : idx ≤ idx') : AccB lo' hi' idx' acc := fun p hp => by
  obtain ⟨a, b, c⟩ := h p hp
  exact ⟨by omega, fun x hx => by have := b x hx; omega, fun x hx => by have := c x hx; omega⟩

section

variable {P : Program} {ops : Array Oper} {bf : Array Nat} {K : (Nat → Value) → Heap → Nat → Prop} {o : Oper} {rest : List Oper} {idx lo hi : Nat} {acc : List FP} {t : Nat → Value} {g : Heap} {n : Nat}

theorem AccB.cons (ha : AccB lo hi idx acc) {r w : List Nat} (hr : ∀ x ∈ r, x < hi) (hw : ∀ x ∈ w, lo ≤ x ∧ x < hi) : AccB lo hi (idx + 1) ((idx, r, w) :: acc) := by
  intro p hp
  rcases List.mem_cons.1 hp with rfl | hp
  · exact ⟨by omega, hw, hr⟩
  · obtain ⟨a, b, c⟩ := ha p hp
    exact ⟨by omega, b, c⟩

/-- An operation that reads blocks below lo. -/
theorem d_low (f : Eff) (h : astep P o.op (evl t) g n = some f) (hw : awant ops o t = some true) (ha : AccB lo hi idx acc) (hr : ∀ x ∈ f.r, x < lo) (h1 : f.w = []) (h2 : f.a = []) (hlh : lo ≤ hi)
    (hk : ∀ acc', AccB lo hi (idx + 1) acc' → awpD P ops bf K rest (idx + 1) acc' (put t o.dst f.v) g n) : awpD P ops bf K (o :: rest) idx acc t g n := by
  have hwr : f.wr = [] := by simp [Eff.wr, h1, h2]
  refine d_step f h hw (fun p hp => .inr ⟨fun x hx => ⟨fun hx' => ?_, by rw [hwr]; simp⟩, by rw [hwr]; simp⟩) ?_
  · have := (ha p hp).2.1 x hx
    have := hr x hx'
    omega
  · have e : f.ap g = g := by simp [Eff.ap, h1, h2, setAll, addAll]
    rw [e, h2, hwr]
    exact hk _ (ha.cons (fun x hx => by have := hr x hx; omega) (by simp))

/-- An operation that makes one block. -/
theorem d_new (f : Eff) (h : astep P o.op (evl t) g n = some f) (hw : awant ops o t = some true) (ha : AccB lo n idx acc) (hr : f.r = []) (h1 : f.w = []) (b : Blk) (h2 : f.a = [b]) (hj : f.j = n) (hlh : lo ≤ n)
    (hk : ∀ acc', AccB lo (n + 1) (idx + 1) acc' → awpD P ops bf K rest (idx + 1) acc' (put t o.dst f.v) (f.ap g) (n + 1)) : awpD P ops bf K (o :: rest) idx acc t g n := by
  have hwr : ∀ x, x ∈ f.wr ↔ x = n := fun x => by simp [Eff.wr, h1, h2, hj, List.range_one, List.range'] 
  refine d_step f h hw (fun p hp => .inr ⟨fun x hx => ⟨by rw [hr]; simp, fun hx' => ?_⟩, fun x hx hx' => ?_⟩) ?_
  · have := (ha p hp).2.1 x hx
    have := (hwr x).1 hx'
    omega
  · have := (ha p hp).2.2 x hx
    have := (hwr x).1 hx'
    omega
  · rw [h2]
    refine hk _ ((ha.le (Nat.le_refl _) (Nat.le_succ n) (Nat.le_refl _)).cons (by rw [hr]; simp) fun x hx => ?_)
    have := (hwr x).1 hx
    omega

theorem full_bit {k i : Nat} (h : i < k) : (2 ^ k - 1).testBit i = true := by simp [Nat.testBit_two_pow_sub_one, h]

/-- An operation that stands behind all that was before. -/
theorem d_full (f : Eff) (h : astep P o.op (evl t) g n = some f) (hw : awant ops o t = some true) (ha : AccB lo hi idx acc) (hb : bf.getD idx 0 = 2 ^ idx - 1) (hr : ∀ x ∈ f.r, x < n + f.a.length) (hwr : ∀ x ∈ f.wr, lo ≤ x ∧ x < n + f.a.length) (hn : hi ≤ n)
    (hk : ∀ acc', AccB lo (n + f.a.length) (idx + 1) acc' → awpD P ops bf K rest (idx + 1) acc' (put t o.dst f.v) (f.ap g) (n + f.a.length)) : awpD P ops bf K (o :: rest) idx acc t g n := by
  refine d_step f h hw (fun p hp => .inl ?_) (hk _ ((ha.le (Nat.le_refl _) (by omega) (Nat.le_refl _)).cons hr hwr))
  rw [hb]
  exact full_bit (ha p hp).1

/-- A call that stands first. -/
theorem d_call1 {c : Call} {fo : Operand} (k : FuncId) (f : Eff) (ho : o.op = .call c) (hc : c.callee = .value fo) (hf : evl t fo = .func (.func k) #[] #[]) (hw : awant ops o t = some true)
    (hspec : FnSpec P k (c.args.toList.map (evl t)) g f) (hj : f.a ≠ [] → f.j = n) (ha : AccB lo hi idx acc) (hp : ∀ p ∈ acc, (bf.getD idx 0).testBit p.1 = true ∨ ((∀ x ∈ p.2.2, x ∉ f.r ∧ x ∉ f.wr) ∧ ∀ x ∈ p.2.1, x ∉ f.wr))
    (hr : ∀ x ∈ f.r, x < n + f.a.length) (hwr : ∀ x ∈ f.wr, lo ≤ x ∧ x < n + f.a.length) (hn : hi ≤ n + f.a.length)
    (hk : ∀ acc', AccB lo (n + f.a.length) (idx + 1) acc' → awpD P ops bf K rest (idx + 1) acc' (put t o.dst f.v) (f.ap g) (n + f.a.length)) : awpD P ops bf K (o :: rest) idx acc t g n :=
  d_call k f ho hc hf hw hspec hj hp (hk _ ((ha.le (Nat.le_refl _) hn (Nat.le_refl _)).cons hr hwr))

end

theorem d_num {P : Program} {ops : Array Oper} {bf : Array Nat} {K : (Nat → Value) → Heap → Nat → Prop} {l : List Oper} {idx : Nat} {acc : List FP} {t : Nat → Value} {g : Heap} {n : Nat} (h : ∀ N, N = n → awpD P ops bf K l idx acc t g N) : awpD P ops bf K l idx acc t g n := h n rfl

theorem append_fp_nil {P : Program} {T T' : TypeId} {p q : Nat} {y : Value} {g : Heap} {j : Nat} {f : Eff} (hf : stepAppend P T T' (.slice none p q) y g j = some f) : (∀ x ∈ f.r, x ∈ srcBlk y) ∧ ∀ x ∈ f.wr, x = j ∧ f.a.length = 1 := by
  unfold stepAppend at hf
  repeat' split at hf
  all_goals first | cases hf | skip
  all_goals simp_all [Eff.wr, List.range', List.range_one]

theorem append_fp_some {P : Program} {T T' : TypeId} {a : Addr} {p q : Nat} {y : Value} {g : Heap} {j : Nat} {f : Eff} (hf : stepAppend P T T' (.slice (some a) p q) y g j = some f) : (∀ x ∈ f.r, x = a.block ∨ x ∈ srcBlk y) ∧ ∀ x ∈ f.wr, x = a.block := by
  unfold stepAppend at hf
  repeat' split at hf
  all_goals first | cases hf | skip
  all_goals simp_all [Eff.wr, List.range', List.range_one]

/-- What an append to a slice of one's own looks at and writes. -/
theorem Own.append_fp {P : Program} {T T' e : TypeId} {g g' : Heap} {v y : Value} {l : List Value} {n n' j : Nat} {f : Eff} (h : Own e g v l n n') (hf : stepAppend P T T' v y g' j = some f) (hn : n ≤ j) (hj : n' ≤ j) :
    (∀ x ∈ f.r, x < j ∨ x ∈ srcBlk y) ∧ ∀ x ∈ f.wr, n ≤ x ∧ x < j + f.a.length := by
  obtain ⟨i, h, hi⟩ := h
  rcases h with ⟨_, rfl, _, _⟩ | ⟨k, rfl, rfl, _, _⟩
  · obtain ⟨h1, h2⟩ := append_fp_nil hf
    exact ⟨fun x hx => .inr (h1 x hx), fun x hx => by have := h2 x hx; omega⟩
  · obtain ⟨h1, h2⟩ := append_fp_some hf
    have := hi k rfl
    refine ⟨fun x hx => ?_, fun x hx => by have := h2 x hx; simp only at this; omega⟩
    rcases h1 x hx with e | e
    · simp only at e; left; omega
    · exact .inr e

theorem newE_wr {e : TypeId} {cs : List Value} {r : List Nat} {j : Nat} : ∀ x ∈ (newE e cs r j).wr, x = j ∧ (newE e cs r j).a.length = 1 := by
  unfold newE
  split
  · simp [Eff.wr]
  · intro x hx
    simp [Eff.wr, List.range', List.range_one] at hx
    exact ⟨hx, rfl⟩


/-- v is the whole of block k, which has the cells l. -/
def OwnB (e : TypeId) (g : Heap) (v : Value) (l : List Value) (k : Nat) : Prop := v = .slice (some ⟨k, 0, some l.length⟩) l.length 1 ∧ g k = some ⟨false, e, l⟩

theorem OwnB.src {e : TypeId} {g : Heap} {v : Value} {l : List Value} {k : Nat} (h : OwnB e g v l k) : Src g v 1 l.length l := by obtain ⟨rfl, h⟩ := h; exact src_cells h rfl

theorem OwnB.keep {e : TypeId} {g g' : Heap} {v : Value} {l : List Value} {k : Nat} (h : OwnB e g v l k) (hg : g' k = g k) : OwnB e g' v l k := ⟨h.1, by rw [hg]; exact h.2⟩

theorem OwnB.len {P : Program} {e T : TypeId} {g : Heap} {v : Value} {l : List Value} {k : Nat} (h : OwnB e g v l k) (ht : P.underlying T = some (.slice e)) : stepLen P T v = some { v := .int .i64 l.length } := h.src.len ht

section

variable {P : Program} {e T T' : TypeId} {g : Heap} {v y : Value} {l news : List Value} {k j : Nat} {zs : List Value} {bytes : Nat}

theorem OwnB.append (h : OwnB e g v l k) (hs : Src g y 1 news.length news) (ht : P.underlying T = some (.slice e)) (hti : tinf P e = some (zs, 1, bytes)) (hb1 : l.length + news.length ≤ 1099511627776) (hb2 : bytes ≤ 100) :
    ∃ f, stepAppend P T T v y g j = some f ∧ f.a = [] ∧ OwnB e (f.ap g) f.v (l ++ news) k ∧ ∀ q, q ≠ k → f.ap g q = g q := by
  obtain ⟨rfl, h⟩ := h
  have h1 : (l.length + news.length) * bytes ≤ 140737488355328 := by
    have : (l.length + news.length) * bytes ≤ 1099511627776 * 100 := Nat.mul_le_mul hb1 hb2
    omega
  refine ⟨{ v := .slice (some ⟨k, 0, some (l ++ news).length⟩) (l.length + news.length) 1, r := k :: srcBlk y, w := [(k, ⟨false, e, l ++ news⟩)] }, ?_, rfl, ⟨by simp, by simp [ap_wr]⟩, fun q hq => by rw [ap_wr, upd_ne _ _ hq]⟩
  simp only [stepAppend, if_true, ht, hti, hs.cells, rd, h]
  rw [if_pos ⟨trivial, trivial, trivial, trivial, by omega, by omega, by omega, h1⟩]

theorem OwnB.push {c : Value} (h : OwnB e g v l k) (hj : k ≠ j) (ht : P.underlying T = some (.slice e)) (hti : tinf P e = some (zs, 1, bytes)) (hb1 : l.length + 1 ≤ 1099511627776) (hb2 : bytes ≤ 100) :
    ∃ f, stepAppend P T T v (.slice (some ⟨j, 0, some 1⟩) 1 1) (upd g j (some ⟨false, e, [c]⟩)) (j + 1) = some f ∧ f.a = [] ∧ OwnB e (f.ap (upd g j (some ⟨false, e, [c]⟩))) f.v (l ++ [c]) k ∧ ∀ q, q ≠ k → q ≠ j → f.ap (upd g j (some ⟨false, e, [c]⟩)) q = g q := by
  have hs : Src (upd g j (some ⟨false, e, [c]⟩)) (.slice (some ⟨j, 0, some 1⟩) 1 1) 1 [c].length [c] := src_cells (ro := false) (e := e) (by simp) rfl
  obtain ⟨f, h1, h2, h3, h4⟩ := (h.keep (g' := upd g j (some ⟨false, e, [c]⟩)) (upd_ne _ _ hj)).append (P := P) (j := j + 1) hs ht hti hb1 hb2
  exact ⟨f, h1, h2, h3, fun q h5 h6 => by rw [h4 q h5, upd_ne _ _ h6]⟩

theorem OwnB.zeros {z : Value} {q kt : IntKind} {m : Nat} (h : OwnB e g v l k) (ht : P.underlying T = some (.slice e)) (ht' : P.underlying T' = some (.int kt)) (hti : tinf P e = some ([z], 1, bytes)) (hm : 0 < m) (hb1 : l.length + m ≤ 1099511627776) (hb2 : bytes ≤ 100) :
    ∃ f, stepZeros P T T' v (.int q m) g = some f ∧ f.a = [] ∧ OwnB e (f.ap g) f.v (l ++ List.replicate m z) k ∧ ∀ q, q ≠ k → f.ap g q = g q := by
  obtain ⟨rfl, h⟩ := h
  have h1 : (l.length + m) * bytes ≤ 140737488355328 := by
    have : (l.length + m) * bytes ≤ 1099511627776 * 100 := Nat.mul_le_mul hb1 hb2
    omega
  refine ⟨{ v := .slice (some ⟨k, 0, some (l.length + m)⟩) (l.length + m) 1, r := [k], w := [(k, ⟨false, e, l ++ List.replicate m z⟩)] }, ?_, rfl, ⟨by simp, by simp [ap_wr]⟩, fun q hq => by rw [ap_wr, upd_ne _ _ hq]⟩
  simp only [stepZeros, ht, ht', hti, rd, h, if_true, Int.toNat_natCast]
  rw [if_pos ⟨trivial, trivial, trivial, trivial, trivial, by omega, by omega, h1⟩]

end

theorem fits_zero (n : Nat) : (0 : Int) ≤ (n : Int) := Int.natCast_nonneg n


end Go.Proofs.Ytokmmcfnpobldaa

namespace Go.Proofs.Ytokmmcfnpobldaa
open Go Abs
set_option linter.unusedSimpArgs false
set_option linter.unusedVariables false

theorem ren1_id (c : Value) : ren1 (fun i => i) c = c := by
  cases c with
  | pointer a => cases a <;> rfl
  | slice a l e => cases a with
    | none => rfl
    | some a => simp only [ren1]; split <;> rfl
  | _ => rfl

theorem renA_id (c : Value) : renA (fun i => i) c = c := by
  cases c with
  | agg cs =>
    simp only [renA]
    congr 1
    apply Array.toList_inj.1
    simp only [Array.toList_map]
    exact (List.map_congr_left (g := id) fun c _ => ren1_id c).trans (by simp)
  | pointer a => exact ren1_id (.pointer a)
  | slice a l e => exact ren1_id (.slice a l e)
  | _ => rfl

theorem renT_id (c : Value) : renT (fun i => i) c = c := by
  cases c with
  | tuple cs =>
    simp only [renT]
    congr 1
    apply Array.toList_inj.1
    simp only [Array.toList_map]
    exact (List.map_congr_left (g := id) fun c _ => renA_id c).trans (by simp)
  | agg cs => exact renA_id (.agg cs)
  | pointer a => exact ren1_id (.pointer a)
  | slice a l e => exact ren1_id (.slice a l e)
  | _ => rfl

theorem renB_id (b : Blk) : renB (fun i => i) b = b := by
  unfold renB
  have : b.cells.map (ren1 fun i => i) = b.cells := (List.map_congr_left (g := id) fun c _ => ren1_id c).trans (by simp)
  rw [this]

theorem renB_old {σ : Nat → Nat} {s : Nat → Prop} {b : Blk} (hσ : ∀ i, s i → σ i = i) (hb : ∀ c ∈ b.cells, SV1 s c) : renB σ b = b := by
  unfold renB
  have : b.cells.map (ren1 σ) = b.cells := (List.map_congr_left (g := id) fun c hc => ren1_old hσ (hb c hc)).trans (by simp)
  rw [this]

section
variable {s2 : Nat → Prop} {g2 g' : Heap} {n : Nat} {v' : Value}

/-- Written blocks, nothing new. -/
theorem fin_w {v : Value} {r : List Nat} {j : Nat} {w : List (Nat × Blk)} (hv : v' = v) (hsv : SVT s2 v) (hdom : ∀ i, i ∈ w.map (·.1) → (g2 i).isSome = true) (hw : ∀ i, i ∈ w.map (·.1) → ∃ b, setAll g2 w i = some b ∧ g' i = some b)
    (hsvw : ∀ p ∈ w, ∀ c ∈ p.2.cells, SV1 s2 c) (hold : ∀ i b, i ∉ w.map (·.1) → g2 i = some b → g' i = some b) :
    Abs.Fin { v := v, r := r, w := w, j := j } [] s2 g2 n g' v' := by
  have hσ : sig ({ v := v, r := r, w := w, j := j } : Eff) [] = fun i => i := funext fun i => by unfold sig; split <;> simp
  refine ⟨rfl, by simp, by simp, by rw [hσ, renT_id]; exact hv, by simp, fun i hi => ?_, hdom, hold, SVT.imp (fun _ => .inl) hsv, by simp, fun p hp c hc => SV1.imp (fun _ => .inl) (hsvw p hp c hc)⟩
  obtain ⟨b, h1, h2⟩ := hw i hi
  exact ⟨b, h1, by rw [hσ, renB_id]; exact h2⟩

/-- One written block, nothing new. -/
theorem fin_w1 {v : Value} {r : List Nat} {j p : Nat} {b : Blk} (hv : v' = v) (hsv : SVT s2 v) (hdom : (g2 p).isSome = true) (hw : g' p = some b) (hsvw : ∀ c ∈ b.cells, SV1 s2 c) (hold : ∀ i b, i ≠ p → g2 i = some b → g' i = some b) :
    Abs.Fin { v := v, r := r, w := [(p, b)], j := j } [] s2 g2 n g' v' := by
  refine fin_w hv hsv (fun i hi => ?_) (fun i hi => ?_) (fun q hq => ?_) (fun i b' hi => hold i b' ?_)
  · simp at hi; subst hi; exact hdom
  · simp at hi; subst hi; exact ⟨b, by simp [setAll], hw⟩
  · simp at hq; subst hq; exact hsvw
  · simpa using hi

/-- Written blocks and a new one of plain cells. -/
theorem fin_wa {v : Value} {r : List Nat} {j k : Nat} {w : List (Nat × Blk)} {e : TypeId} {cs : List Value} (hv : v' = renT (fun i => if i = j then k else i) v) (hsv : SVT (fun i => s2 i ∨ i = j) v) (hk : n ≤ k) (hgk : g' k = some ⟨false, e, cs⟩) (hp : ∀ c ∈ cs, plain c = true)
    (hj : ¬ s2 j) (hdom : ∀ i, i ∈ w.map (·.1) → (g2 i).isSome = true) (hw : ∀ i, i ∈ w.map (·.1) → ∃ b, setAll g2 w i = some b ∧ g' i = some (renB (fun i => if i = j then k else i) b)) (hsvw : ∀ p ∈ w, ∀ c ∈ p.2.cells, SV1 (fun i => s2 i ∨ i = j) c) (hold : ∀ i b, i ∉ w.map (·.1) → g2 i = some b → g' i = some b) :
    Abs.Fin { v := v, r := r, w := w, j := j, a := [⟨false, e, cs⟩] } [k] s2 g2 n g' v' := by
  have hsig : (sig ({ v := v, r := r, w := w, j := j, a := [⟨false, e, cs⟩] } : Eff) [k]) = fun i => if i = j then k else i := by
    funext i
    unfold sig
    by_cases h : i = j
    · subst h; simp
    · rw [if_neg h]
      show (if j ≤ i then _ else i) = i
      split
      · have : i - j ≠ 0 := by omega
        simp [this]
      · rfl
  have hup : ∀ i, (s2 i ∨ i = j) → (({ v := v, r := r, w := w, j := j, a := [⟨false, e, cs⟩] } : Eff).sn s2) i := fun i hi => by
    rcases hi with hi | rfl
    · exact .inl hi
    · exact .inr ⟨Nat.le_refl _, by simp⟩
  refine ⟨rfl, by simpa using hk, by simp, by rw [hsig]; exact hv, fun i b hi => ?_, fun i hi => ?_, hdom, hold, SVT.imp hup hsv, ?_, fun p hp c hc => SV1.imp hup (hsvw p hp c hc)⟩
  · cases i with
    | zero => simp at hi; subst hi; exact ⟨k, rfl, by rw [hgk, renB_plain hp]⟩
    | succ i => simp at hi
  · obtain ⟨b, h1, h2⟩ := hw i hi
    exact ⟨b, h1, by rw [hsig]; exact h2⟩
  · intro b hb c hc
    simp at hb
    subst hb
    exact SV1_plain (hp c hc)

/-- One written block whose cells are old, and a new one of plain cells. -/
theorem fin_wa1 {v : Value} {r : List Nat} {j k p : Nat} {b : Blk} {e : TypeId} {cs : List Value} (hv : v' = renT (fun i => if i = j then k else i) v) (hsv : SVT (fun i => s2 i ∨ i = j) v) (hk : n ≤ k) (hgk : g' k = some ⟨false, e, cs⟩) (hp : ∀ c ∈ cs, plain c = true)
    (hj : ¬ s2 j) (hdom : (g2 p).isSome = true) (hw : g' p = some b) (hsvw : ∀ c ∈ b.cells, SV1 s2 c) (hold : ∀ i b, i ≠ p → g2 i = some b → g' i = some b) :
    Abs.Fin { v := v, r := r, w := [(p, b)], j := j, a := [⟨false, e, cs⟩] } [k] s2 g2 n g' v' := by
  refine fin_wa hv hsv hk hgk hp hj (fun i hi => ?_) (fun i hi => ?_) (fun q hq c hc => ?_) (fun i b' hi => hold i b' ?_)
  · simp at hi; subst hi; exact hdom
  · simp at hi; subst hi
    refine ⟨b, by simp [setAll], ?_⟩
    rw [renB_old (s := s2) (fun i hi => if_neg (fun (e : i = j) => hj (by rw [← e]; exact hi))) hsvw]
    exact hw
  · simp at hq; subst hq; exact SV1.imp (fun _ => .inl) (hsvw c hc)
  · simpa using hi
end

/-- A part of a slice. -/
def slV (v : Value) (l k : Nat) : Value := match v with
  | .slice none _ _ => .slice none 0 0
  | .slice (some a) _ esz => if l = k then .slice (some ⟨0, 0, none⟩) 0 esz else .slice (some { a with off := a.off + l * esz }) (k - l) esz
  | v => v

theorem src_slV {P : Program} {g : Heap} {v : Value} {m : Nat} {cs : List Value} {T e : TypeId} (h : Src g v 1 m cs) (ht : P.underlying T = some (.slice e)) (hs : tsize P e = some 1) (lo hi : Option Value) (l k : Nat)
    (hl : boundOf lo 0 = some (l : Int)) (hh : boundOf hi (m : Int) = some (k : Int)) (h1 : l ≤ k) (h2 : k ≤ m) :
    stepSlice P T v lo hi = some { v := slV v l k } ∧ Src g (slV v l k) 1 (k - l) ((cs.drop l).take (k - l)) ∧ (∀ i ∈ srcBlk (slV v l k), i ∈ srcBlk v) ∧ ∀ s, SV1 s v → SV1 s (slV v l k) := by
  obtain ⟨v', e1, e2, e3, e4⟩ := h.slice (P := P) ht hs lo hi l k hl hh h1 h2
  have hv : v' = slV v l k := by
    rcases h with ⟨rfl, rfl, rfl⟩ | ⟨a, rfl, rfl, rfl⟩ | ⟨a, b, rfl, h0, hb, hcs, hle⟩
    · simp only [stepSlice, ht] at e1
      rw [hh, hl] at e1
      simp only [hs] at e1
      split at e1
      · split at e1 <;> cases e1; rfl
      · cases e1
    · have : l = 0 := by omega
      have : k = 0 := by omega
      subst l k
      simp only [stepSlice, ht] at e1
      rw [hh, hl] at e1
      simp [hs] at e1
      simp [slV, e1]
    · simp only [stepSlice, ht] at e1
      rw [hh, hl] at e1
      simp only [hs, if_true] at e1
      rw [if_pos (by omega)] at e1
      by_cases e0 : l = k
      · subst e0
        simp at e1
        simp [slV, e1]
      · rw [if_neg (by omega)] at e1
        simp only [Option.some.injEq] at e1
        have := congrArg Eff.v e1
        simp only [Int.toNat_natCast] at this
        rw [← this, slV, if_neg e0]
        congr 1
        omega
  subst hv
  refine ⟨e1, by simpa using e2, e3, fun s hsv => ?_⟩
  have hsh : ∀ x, (∃ a m e, x = Value.slice a m e) → SVT s x = SV1 s x := by
    rintro x ⟨a, m, e, rfl⟩; rfl
  have := e4 s
  obtain ⟨a1, q1, hv1⟩ := h.shape
  obtain ⟨a2, q2, hv2⟩ := e2.shape
  rw [hsh _ ⟨_, _, _, hv1⟩, hsh _ ⟨_, _, _, hv2⟩] at this
  exact this hsv
end Go.Proofs.Ytokmmcfnpobldaa

namespace Go.Proofs.Ytokmmcfnpobldaa.Abs
open Go Go.RowKit
set_option linter.unusedSimpArgs false
set_option linter.unusedVariables false

/-- A row of structs of m ints that came in. -/
def RowS (m : Nat) (w : World) (a : Option Addr) (len cap : Nat) (zs : List Int) : Prop :=
  (a = none ∧ len = 0 ∧ cap = 0 ∧ zs = []) ∨
  ∃ x, a = some x ∧ len ≤ cap ∧ cap ≤ maxLen ∧ zs.length = len * m ∧ (∀ i, i < zs.length → w.cell? (x.add i) = some (.int .i64 (zs.getD i 0))) ∧ ∀ n ∈ zs, (Lit.int .i64 n).wf = true

theorem trod_int {H : Type} {enc : TypeId × Value → H} {P : Program} {w : World} {base : Nat} {sp : Nat → Bool} {held : Bool} {fuel : Nat} {t : TypeId} {k : IntKind} {cs : List Value} {y : DataW H × List MemPlace} (ht : P.underlying t = some (.int k))
    (h : DataW.trod enc P w base sp held fuel t cs = some y) : ∃ n, cs = [.int k n] ∧ (Lit.int k n).wf = true := by
  cases fuel with
  | zero => simp [DataW.trod] at h
  | succ f =>
    unfold DataW.trod at h
    rw [ht] at h
    split at h <;> simp_all

theorem trod_struct {H : Type} {enc : TypeId × Value → H} {P : Program} {w : World} {base : Nat} {sp : Nat → Bool} {held : Bool} {fuel : Nat} {t : TypeId} {fs : Array Field} {cs : List Value} {y : DataW H × List MemPlace} (ht : P.underlying t = some (.struct fs))
    (h : DataW.trod enc P w base sp held fuel t cs = some y) : ∃ n, ∀ (q : Nat) (f : Field), fs[q]? = some f → ∃ z, DataW.trod enc P w base sp held n f.type ((cs.drop f.offset).take (P.cellsOf f.type)) = some z := by
  cases fuel with
  | zero => simp [DataW.trod] at h
  | succ n =>
    unfold DataW.trod at h
    rw [ht] at h
    split at h <;> first | (simp at *; done) | skip
    rename_i heq
    simp only [Option.some.injEq, TypeDesc.struct.injEq] at heq
    subst heq
    split at h
    · simp only [Option.map_eq_some_iff] at h
      obtain ⟨xs, hx, _⟩ := h
      refine ⟨n, fun q f hq => ?_⟩
      have hq' : fs.toList[q]? = some f := by simpa using hq
      have h1 := mapM_some_get hx q f hq'
      have hlen := mapM_some_length hx
      have hlt : q < xs.length := by rw [hlen]; exact (List.getElem?_eq_some_iff.1 hq').1
      exact ⟨xs[q], by rw [h1, List.getElem?_eq_getElem hlt]⟩
    · cases h

theorem open_structs {H : Type} {enc : TypeId × Value → H} {P : Program} {w : World} {base : Nat} {sp : Nat → Bool} {held : Bool} {fuel m : Nat} {t e : TypeId} {fs : Array Field} {a : Option Addr} {len cap : Nat} {x : DataW H × List MemPlace} (ht : P.underlying t = some (.slice e))
    (he : P.underlying e = some (.struct fs)) (hc : P.cellsOf e = m) (hm : 0 < m) (hf : ∀ q, q < m → ∃ f : Field, fs[q]? = some f ∧ f.offset = q ∧ P.underlying f.type = some (.int .i64) ∧ P.cellsOf f.type = 1)
    (h : DataW.trod enc P w base sp held fuel t [.slice a len cap] = some x) : ∃ zs, RowS m w a len cap zs := by
  rcases DataW.trod_slice ht h with ⟨h0, _⟩ | ⟨x0, l0, c0, elems, rest, n, _, hcs, _, _, hl, hcm, hlen, hel, _, _⟩
  · simp at h0
    obtain ⟨rfl, rfl, rfl⟩ := h0
    exact ⟨[], .inl ⟨rfl, rfl, rfl, rfl⟩⟩
  · simp at hcs
    obtain ⟨rfl, rfl, rfl⟩ := hcs
    have key : ∀ i q, i < len → q < m → ∃ z, w.cell? ((x0.add (i * m)).add q) = some (.int .i64 z) ∧ (Lit.int .i64 z).wf = true := by
      intro i q hi hq
      have h1 := hel i hi
      rw [List.getElem?_eq_getElem (by omega), hc] at h1
      simp only [Option.bind_eq_some_iff] at h1
      obtain ⟨cs, hcells, htr⟩ := h1
      obtain ⟨n', hn⟩ := trod_struct he htr
      obtain ⟨f, hf1, hf2, hf3, hf4⟩ := hf q hq
      obtain ⟨z, hz⟩ := hn q f hf1
      obtain ⟨v, hv, hwf⟩ := trod_int hf3 hz
      obtain ⟨_, hcl, hcell⟩ := World.cells?_some hcells
      refine ⟨v, ?_, hwf⟩
      rw [hcell q hq]
      rw [hf2, hf4] at hv
      have := congrArg (fun l => l[0]?) hv
      simp at this
      simpa using this
    refine ⟨(List.range (len * m)).map fun j => match w.cell? (x0.add j) with | some (.int _ z) => z | _ => 0, .inr ⟨x0, rfl, hl, hcm, by simp, ?_, ?_⟩⟩
    all_goals
      have all : ∀ j, j < len * m → ∃ z, w.cell? (x0.add j) = some (.int .i64 z) ∧ (Lit.int .i64 z).wf = true := by
        intro j hj
        have hi : j / m < len := by rw [Nat.div_lt_iff_lt_mul hm]; exact hj
        have h0 : 0 < len := Nat.lt_of_le_of_lt (Nat.zero_le _) hi
        have hsp : x0.spot = none := by
          obtain ⟨z, hz, _⟩ := key 0 0 h0 hm
          have e : (x0.add (0 * m)).add 0 = x0.add 0 := by simp [Addr.add]
          rw [e] at hz
          exact (cell_plain hz).1
        obtain ⟨z, hz, hw⟩ := key (j / m) (j % m) hi (Nat.mod_lt _ hm)
        refine ⟨z, ?_, hw⟩
        rw [add_plain hsp] at hz ⊢
        rw [add_plain rfl] at hz
        have : x0.off + j / m * m + j % m = x0.off + j := by have := Nat.div_add_mod j m; rw [Nat.mul_comm] at this; omega
        simpa [this] using hz
    · intro i hi
      simp at hi
      obtain ⟨z, hz, _⟩ := all i hi
      rw [hz]
      simp [List.getD, hi, hz]
    · intro v hv
      simp only [List.mem_map, List.mem_range] at hv
      obtain ⟨j, hj, rfl⟩ := hv
      obtain ⟨z, hz, hw⟩ := all j hj
      rw [hz]
      exact hw

/-- What a walk is handed. -/
theorem row_argS {m : Nat} (hm : 0 < m) {w : World} {a : Option Addr} {len cap : Nat} {zs : List Int} (h : RowS m w a len cap zs) (e : TypeId) : zs.length = len * m ∧ EntIn w (argE a len e (zs.map (Value.int .i64))) ∧
    (∀ (L : List Ent) (i : Nat), L[i]? = some (argE a len e (zs.map (Value.int .i64))) → Src (gOf L) (argV i a len m) m len (zs.map (Value.int .i64)) ∧ ∀ s : Nat → Prop, s i → VV (rOf L) (gOf L) s (argV i a len m) (.slice a len cap)) ∧ ∀ x ∈ zs, -9223372036854775808 ≤ x ∧ x ≤ 9223372036854775807 := by
  rcases h with ⟨rfl, rfl, rfl, rfl⟩ | ⟨x, rfl, h1, h2, h3, h4, h5⟩
  · refine ⟨by simp, trivial, fun L i hL => ⟨argV_src hL (by simp) (fun _ => rfl), fun s hs => argV_VV (e := e) hL hs (by simp) (Nat.le_refl _) (Nat.zero_le _) (fun _ => ⟨rfl, rfl⟩) (w := w) trivial⟩, by simp⟩
  · have hE : EntIn w (argE (some x) len e (zs.map (Value.int .i64))) := by
      unfold argE
      by_cases h0 : len = 0
      · simp only [h0, if_true]; trivial
      · simp only [h0, if_false]
        refine ⟨fun hh => ?_, fun c hc => ?_, fun i c hc => ?_⟩
        · simp only [List.map_eq_nil_iff] at hh
          rw [hh] at h3
          have := Nat.mul_pos (Nat.pos_of_ne_zero h0) hm
          simp at h3
          omega
        · obtain ⟨z, _, rfl⟩ := List.mem_map.1 hc; rfl
        · simp only [List.getElem?_map, Option.map_eq_some_iff] at hc
          obtain ⟨z, hz, rfl⟩ := hc
          obtain ⟨hi, e⟩ := List.getElem?_eq_some_iff.1 hz
          rw [h4 i hi]
          simp [List.getD, List.getElem?_eq_getElem hi, e]
    refine ⟨h3, hE, fun L i hL => ⟨argV_src hL (by simpa using h3) (fun e => by cases e), fun s hs => argV_VV hL hs (by simpa using h3) h1 h2 (fun e => by cases e) hE⟩, fun z hz => ?_⟩
    have := h5 z hz
    simp [Lit.wf, IntKind.min, IntKind.max, IntKind.signed, IntKind.bits] at this
    omega

/-- Field f of element i, a struct of m ints: its address and what is read there. -/
theorem Src.atS {P : Program} {g : Heap} {v : Value} {m len : Nat} {cs : List Value} {T S I : TypeId} (h : Src g v m len cs) {i f : Nat} {c : Value} (hi : i < len) (hf : f < m) (hc : cs[i * m + f]? = some c) (ht : P.underlying T = some (.slice S)) (hs : tsize P S = some m) (ho : foff P S f = some f) (ha : aggT P I = some false) :
    ∃ p q, (∀ k, stepIndex P T v (.int k (i : Int)) = some { v := .pointer (some p) }) ∧ stepField P S (.pointer (some p)) f = some { v := .pointer (some q) } ∧ stepLoad P I (.pointer (some q)) g = some { v := c, r := [q.block] } ∧ q.block ∈ srcBlk v := by
  rcases h with ⟨_, rfl, _⟩ | ⟨a, _, rfl, _⟩ | ⟨a, b, rfl, h0, hb, hcs, hle⟩
  · omega
  · omega
  · obtain ⟨h1, h2⟩ := rd_spec hb
    refine ⟨{ a with off := a.off + i * m }, { a with off := a.off + i * m + f }, fun k => ?_, by simp [stepField, ho], ?_, by simp [srcBlk]; omega⟩
    · simp [stepIndex, ht, h1, hs, hi]
    · have hb' : rd g { a with off := a.off + i * m + f } = some b := hb
      have hcell : b.cells[a.off + i * m + f]? = some c := by
        rw [hcs, List.getElem?_take] at hc
        split at hc
        · rw [List.getElem?_drop] at hc
          rw [← hc]; congr 1; omega
        · cases hc
      simp [stepLoad, hb', ha, hcell]
end Go.Proofs.Ytokmmcfnpobldaa.Abs
