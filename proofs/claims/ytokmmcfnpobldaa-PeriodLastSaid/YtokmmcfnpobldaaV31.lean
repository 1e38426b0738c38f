import Derived.Test.YtokmmcfnpobldaaV30
namespace Go.Proofs.Ytokmmcfnpobldaa
open Go Abs
set_option linter.unusedSimpArgs false
set_option linter.unusedVariables false

/-- p is a period. -/
def per (s : List Nat) (p : Nat) : Prop := ∀ i, i + p < s.length → byt s i = byt s (i + p)

theorem brd_per {s : List Nat} {p : Nat} (h1 : 1 ≤ p) (h2 : p ≤ s.length) : brd s s.length (s.length - p) ↔ per s p := by
  constructor
  · rintro ⟨_, h⟩ i hi
    have := h i (by omega)
    rwa [show s.length - (s.length - p) + i = i + p by omega] at this
  · intro h
    refine ⟨by omega, fun i hi => ?_⟩
    rw [show s.length - (s.length - p) + i = i + p by omega]
    exact h i (by omega)

theorem least_per {s : List Nat} (h : s.length ≠ 0) : per s (least s) := by
  have h1 := least_pos s h
  have h2 := mx_brd (s := s) (n := s.length) (by omega)
  rw [least, if_neg h] at h1 ⊢
  have h3 := h2.1
  refine (brd_per h1.1 h1.2).1 ?_
  rwa [show s.length - (s.length - mx s s.length) = mx s s.length by omega]

theorem least_min {s : List Nat} {q : Nat} (h1 : 1 ≤ q) (h2 : q ≤ s.length) (h : per s q) : least s ≤ q := by
  have := mx_max ((brd_per h1 h2).2 h)
  rw [least, if_neg (by omega)]
  omega

theorem per_sub {s : List Nat} {p q : Nat} (hp : per s p) (hq : per s q) (hlt : p < q) (hs : p + q ≤ s.length) : per s (q - p) := by
  intro i hi
  by_cases h : i + q < s.length
  · have a := hq i h
    have b := hp (i + (q - p)) (by omega)
    rw [show i + (q - p) + p = i + q by omega] at b
    rw [a, b]
  · have a := hp (i - p) (by omega)
    have b := hq (i - p) (by omega)
    rw [show i - p + p = i by omega] at a
    rw [show i - p + q = i + (q - p) by omega] at b
    rw [← a, b]

theorem per_gcd {s : List Nat} : ∀ (m p q : Nat), p + q ≤ m → 0 < p → 0 < q → per s p → per s q → p + q ≤ s.length → per s (Nat.gcd p q) := by
  intro m
  induction m with
  | zero => intro p q h1 h2 h3; omega
  | succ m ih =>
    intro p q h1 h2 h3 hp hq hs
    rcases Nat.lt_trichotomy p q with h | h | h
    · have := ih p (q - p) (by omega) h2 (by omega) hp (per_sub hp hq h hs) (by omega)
      rwa [Nat.gcd_sub_self_right (by omega)] at this
    · subst h; rwa [Nat.gcd_self]
    · have := ih (p - q) q (by omega) (by omega) h3 (per_sub hq hp h (by omega)) hq (by omega)
      rwa [Nat.gcd_sub_self_left (by omega)] at this

theorem rootLen_dvd (s : List Nat) : rootLen s ∣ s.length := by
  unfold rootLen
  split
  · exact Nat.dvd_of_mod_eq_zero (by assumption)
  · exact Nat.dvd_refl _

theorem rootLen_per {s : List Nat} (h : s.length ≠ 0) : per s (rootLen s) := by
  unfold rootLen
  split
  · exact least_per h
  · intro i hi; omega

theorem dvd_half {q n : Nat} (h : q ∣ n) (h0 : q < n) : 2 * q ≤ n := by
  obtain ⟨k, rfl⟩ := h
  rcases k with _ | _ | k
  · omega
  · omega
  · have := Nat.mul_le_mul_left q (show 2 ≤ k + 1 + 1 by omega)
    omega

theorem rootLen_min {s : List Nat} {q : Nat} (h : s.length ≠ 0) (h1 : 1 ≤ q) (hd : q ∣ s.length) (hq : per s q) : rootLen s ≤ q := by
  have hq2 : q ≤ s.length := Nat.le_of_dvd (by omega) hd
  have hl := least_min h1 hq2 hq
  have hp := least_pos s h
  unfold rootLen
  split
  · exact hl
  · rename_i hn
    rcases Nat.lt_or_ge q s.length with hlt | hge
    · exfalso
      have h2 := dvd_half hd hlt
      have hg := per_gcd _ _ _ (Nat.le_refl _) (by omega) (by omega) (least_per h) hq (by omega)
      have h3 : 0 < Nat.gcd (least s) q := Nat.gcd_pos_of_pos_left _ (by omega)
      have h4 : Nat.gcd (least s) q ≤ least s := Nat.gcd_le_left _ (by omega)
      have h5 := least_min (by omega) (by omega) hg
      have h6 : Nat.gcd (least s) q = least s := by omega
      have h7 : least s ∣ q := by rw [← h6]; exact Nat.gcd_dvd_right _ _
      exact hn (Nat.mod_eq_zero_of_dvd (Nat.dvd_trans h7 hd))
    · exact hge

theorem byt_mod {s : List Nat} {q : Nat} (hq : 0 < q) (h : per s q) : ∀ (m i : Nat), i ≤ m → i < s.length → byt s i = byt s (i % q) := by
  intro m
  induction m with
  | zero => intro i hi _; have : i = 0 := by omega
            subst this; simp
  | succ m ih =>
    intro i hi hl
    by_cases hlt : i < q
    · rw [Nat.mod_eq_of_lt hlt]
    · have a := h (i - q) (by omega)
      rw [show i - q + q = i by omega] at a
      rw [← a, ih (i - q) (by omega) (by omega)]
      congr 1
      rw [show i % q = (i - q + q) % q by rw [show i - q + q = i by omega], Nat.add_mod_right]

/-- So many times the same. -/
def times (w : List Nat) : Nat → List Nat
  | 0 => []
  | k + 1 => times w k ++ w

theorem times_len (w : List Nat) (k : Nat) : (times w k).length = k * w.length := by
  induction k with
  | zero => simp [times]
  | succ k ih => rw [times, List.length_append, ih, Nat.succ_mul]

theorem times_byt (w : List Nat) (k : Nat) : ∀ i, i < k * w.length → byt (times w k) i = byt w (i % w.length) := by
  induction k with
  | zero => intro i hi; omega
  | succ k ih =>
    intro i hi
    rw [Nat.succ_mul] at hi
    have hl := times_len w k
    by_cases h : i < k * w.length
    · rw [← ih i h]
      unfold byt
      rw [times, List.getElem?_append_left (by omega)]
    · unfold byt
      rw [times, List.getElem?_append_right (by omega), hl]
      congr 2
      have : i = i - k * w.length + k * w.length := by omega
      rw [this, Nat.add_mul_mod_self_right, Nat.mod_eq_of_lt (by omega)]
      omega

/-- A text that repeats w has the periods that divide w's length and are w's. -/
theorem rep_per {s w : List Nat} {q : Nat} (hq : 0 < q) (hd : q ∣ w.length) (hw : 0 < w.length) (hs : ∀ i, i < s.length → byt s i = byt w (i % w.length)) (h : per w q) : per s q := by
  have key : ∀ i, i < s.length → byt s i = byt w (i % q) := by
    intro i hi
    rw [hs i hi, byt_mod hq h _ (i % w.length) (Nat.le_refl _) (Nat.mod_lt _ hw), Nat.mod_mod_of_dvd _ hd]
  intro i hi
  rw [key i (by omega), key (i + q) hi, Nat.add_mod_right]

theorem pre_per {s w : List Nat} {p : Nat} (hl : w.length ≤ s.length) (hs : ∀ i, i < w.length → byt s i = byt w i) (h : per s p) : per w p := by
  intro i hi
  rw [← hs i (by omega), ← hs (i + p) hi]
  exact h i (by omega)

theorem times_root {w : List Nat} {k : Nat} (hw : w.length ≠ 0) (hk : 1 ≤ k) : rootLen (times w k) = rootLen w := by
  rcases Nat.lt_or_ge k 2 with h2 | h2
  · have : k = 1 := by omega
    subst this
    simp [times]
  · have hl := times_len w k
    have hge : 2 * w.length ≤ k * w.length := Nat.mul_le_mul_right _ h2
    have hs0 : (times w k).length ≠ 0 := by omega
    have hb := times_byt w k
    have hQ := rootLen_pos w hw
    have hQd := rootLen_dvd w
    have hdv : w.length ∣ (times w k).length := by rw [hl]; exact Nat.dvd_mul_left _ _
    have h1 : rootLen (times w k) ≤ rootLen w := rootLen_min hs0 hQ.1 (Nat.dvd_trans hQd hdv) (rep_per (by omega) hQd (by omega) (fun i hi => hb i (by omega)) (rootLen_per hw))
    have hP := rootLen_pos (times w k) hs0
    have hPd := rootLen_dvd (times w k)
    have hPp := rootLen_per hs0
    have hQs : per (times w k) (rootLen w) := rep_per (by omega) hQd (by omega) (fun i hi => hb i (by omega)) (rootLen_per hw)
    have hg := per_gcd _ _ _ (Nat.le_refl _) (by omega) (by omega) hPp hQs (by omega)
    have g1 : 0 < Nat.gcd (rootLen (times w k)) (rootLen w) := Nat.gcd_pos_of_pos_left _ (by omega)
    have g2 : Nat.gcd (rootLen (times w k)) (rootLen w) ≤ rootLen (times w k) := Nat.gcd_le_left _ (by omega)
    have g3 := rootLen_min hs0 (by omega) (Nat.dvd_trans (Nat.gcd_dvd_left _ _) hPd) hg
    have g4 : Nat.gcd (rootLen (times w k)) (rootLen w) = rootLen (times w k) := by omega
    have g5 : rootLen (times w k) ∣ rootLen w := by rw [← g4]; exact Nat.gcd_dvd_right _ _
    have h3 : rootLen w ≤ rootLen (times w k) := rootLen_min hw hP.1 (Nat.dvd_trans g5 hQd) (pre_per (by omega) (fun i hi => by rw [hb i (by omega), Nat.mod_eq_of_lt hi]) hPp)
    omega

theorem byt_take {s : List Nat} {q i : Nat} (h : i < q) : byt (s.take q) i = byt s i := by
  unfold byt
  rw [List.getElem?_take, if_pos h]

theorem root_root {s : List Nat} (h : s.length ≠ 0) : rootLen (s.take (rootLen s)) = rootLen s := by
  have hQ := rootLen_pos s h
  have hlt : (s.take (rootLen s)).length = rootLen s := by simp; omega
  have hr0 : (s.take (rootLen s)).length ≠ 0 := by omega
  have hP := rootLen_pos _ hr0
  have hPd := rootLen_dvd (s.take (rootLen s))
  have hPp := rootLen_per hr0
  have hs : ∀ i, i < s.length → byt s i = byt (s.take (rootLen s)) (i % (s.take (rootLen s)).length) := by
    intro i hi
    rw [hlt, byt_take (Nat.mod_lt _ (by omega)), byt_mod (by omega) (rootLen_per h) _ i (Nat.le_refl _) hi]
  have h2 : per s (rootLen (s.take (rootLen s))) := rep_per (by omega) hPd (by omega) hs hPp
  have h3 := rootLen_min h hP.1 (Nat.dvd_trans (by rw [hlt] at hPd; exact hPd) (rootLen_dvd s)) h2
  omega

theorem times_take {w : List Nat} {k : Nat} (hk : 1 ≤ k) {q : Nat} (hq : q ≤ w.length) : (times w k).take q = w.take q := by
  induction k with
  | zero => omega
  | succ k ih =>
    rcases Nat.eq_zero_or_pos k with h | h
    · subst h; simp [times]
    · rw [times, List.take_append_of_le_length (by rw [times_len]; have := Nat.mul_le_mul_right w.length h; omega)]
      exact ih h

theorem borders_last {s : List Nat} (h : s.length ≠ 0) : (borders s)[s.length - 1]? = some (mx s s.length) := by
  unfold borders
  rw [List.getElem?_map, List.getElem?_range (by omega), Option.map_some]
  rw [show s.length - 1 + 1 = s.length by omega]
end Go.Proofs.Ytokmmcfnpobldaa
