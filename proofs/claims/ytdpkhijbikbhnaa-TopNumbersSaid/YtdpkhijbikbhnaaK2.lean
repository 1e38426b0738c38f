import Derived.Test.YtdpkhijbikbhnaaK1
/- Plain: how much endings have alike; a row sorted by laying in. -/
namespace Go.Proofs.Ytdpkhijbikbhnaa.Plain

/-- How much two rows have alike. -/
def cp : List Nat → List Nat → Nat
  | a :: l, b :: m => if a = b then cp l m + 1 else 0
  | _, _ => 0
theorem cp_nil_r (l : List Nat) : cp l [] = 0 := by cases l <;> rfl
theorem cp_comm : ∀ (a b : List Nat), cp a b = cp b a
  | [], [] => rfl
  | [], _ :: _ => rfl
  | _ :: _, [] => rfl
  | a :: l, b :: m => by
    rw [cp, cp, cp_comm l m]
    by_cases h : a = b
    · rw [if_pos h, if_pos h.symm]
    · rw [if_neg h, if_neg (fun e => h e.symm)]
theorem cp_le : ∀ (a b : List Nat), cp a b ≤ a.length
  | [], [] => by simp [cp]
  | [], _ :: _ => by simp [cp]
  | _ :: _, [] => by simp [cp]
  | a :: l, b :: m => by
    rw [cp]
    split
    · have := cp_le l m; simp; omega
    · omega
/-- What stands nearer has more alike. -/
theorem cp_mono : ∀ {a b c : List Nat}, (lx a b = true ∨ a = b) → lx b c = true → cp a c ≤ cp b c
  | [], b, c, _, _ => by cases c <;> simp [cp]
  | x :: a, [], c, h, _ => by rcases h with h | h <;> simp [lx] at h
  | x :: a, y :: b, [], _, h2 => by simp [lx] at h2
  | x :: a, y :: b, z :: c, h, h2 => by
    rcases h with h | h
    · rw [lx] at h h2
      rw [cp, cp]
      by_cases xz : x = z
      · subst xz
        rw [if_pos rfl]
        by_cases yx : y = x
        · subst yx
          rw [if_pos rfl]
          rw [if_neg (by omega), if_neg (by omega)] at h h2
          have := cp_mono (.inl h) h2
          omega
        · exfalso
          by_cases xy : x < y
          · rw [if_neg (by omega), if_pos (by omega)] at h2; cases h2
          · rw [if_neg xy, if_pos (by omega)] at h; cases h
      · rw [if_neg xz]; omega
    · rw [h]; exact Nat.le_refl _

theorem cp_drop {s : List Nat} {i j : Nat} : cp (s.drop i) (s.drop j) = if i < s.length ∧ j < s.length ∧ nth s i = nth s j then cp (s.drop (i + 1)) (s.drop (j + 1)) + 1 else 0 := by
  by_cases hi : i < s.length
  · by_cases hj : j < s.length
    · rw [drop_nth hi, drop_nth hj, cp]
      by_cases h : nth s i = nth s j
      · rw [if_pos h, if_pos ⟨hi, hj, h⟩]
      · rw [if_neg h, if_neg (fun e => h e.2.2)]
    · rw [List.drop_eq_nil_of_le (show s.length ≤ j by omega), cp_nil_r, if_neg (fun e => hj e.2.1)]
  · rw [List.drop_eq_nil_of_le (show s.length ≤ i by omega), cp_comm, cp_nil_r, if_neg (fun e => hi e.1)]
theorem cp_more {s : List Nat} : ∀ {n i j : Nat}, n ≤ cp (s.drop i) (s.drop j) → cp (s.drop i) (s.drop j) = n + cp (s.drop (i + n)) (s.drop (j + n))
  | 0, i, j, _ => by simp
  | n + 1, i, j, h => by
    rw [cp_drop] at h ⊢
    split at h
    · rename_i h1
      rw [if_pos h1]
      have := cp_more (s := s) (n := n) (i := i + 1) (j := j + 1) (by omega)
      rw [this, show i + 1 + n = i + (n + 1) by omega, show j + 1 + n = j + (n + 1) by omega]
      omega
    · omega
theorem cp_step {s : List Nat} {n i j : Nat} (h : n ≤ cp (s.drop i) (s.drop j)) : n < cp (s.drop i) (s.drop j) ↔ (i + n < s.length ∧ j + n < s.length ∧ nth s (i + n) = nth s (j + n)) := by
  rw [cp_more h, cp_drop]
  split
  · rename_i h1; exact ⟨fun _ => h1, fun _ => by omega⟩
  · rename_i h1; exact ⟨fun h => by omega, fun e => absurd e h1⟩

section
variable {s a : List Nat}
theorem SA.len (h : SA s a) : a.length = s.length := by simpa using h.perm.length_eq
theorem SA.nd (h : SA s a) : a.Nodup := h.perm.nodup_iff.2 List.nodup_range
theorem SA.mem (h : SA s a) {x : Nat} (hx : x < s.length) : x ∈ a := h.perm.mem_iff.2 (by simpa using hx)
theorem SA.lt (h : SA s a) {i : Nat} (hi : i < a.length) : nth a i < s.length := by
  have : nth a i ∈ a := by rw [nth_get hi]; exact List.getElem_mem hi
  simpa using h.perm.mem_iff.1 this
theorem SA.at_lt (h : SA s a) {i j : Nat} (hij : i < j) (hj : j < a.length) : lx (s.drop (nth a i)) (s.drop (nth a j)) = true := by
  have := List.pairwise_iff_getElem.1 h.srt i j (by omega) hj hij
  rwa [← nth_get, ← nth_get] at this
theorem SA.rk_lt (h : SA s a) {x y : Nat} (hx : x < s.length) (hy : y < s.length) (hl : lx (s.drop x) (s.drop y) = true) : a.idxOf x < a.idxOf y := by
  have hxm := List.idxOf_lt_length_of_mem (h.mem hx)
  have hym := List.idxOf_lt_length_of_mem (h.mem hy)
  rcases Nat.lt_trichotomy (a.idxOf x) (a.idxOf y) with h1 | h1 | h1
  · exact h1
  · have e1 := nth_idx (h.mem hx)
    rw [h1, nth_idx (h.mem hy)] at e1
    rw [e1, lx_irr] at hl
    cases hl
  · have := h.at_lt h1 hxm
    rw [nth_idx (h.mem hx), nth_idx (h.mem hy)] at this
    have := lx_asym this
    rw [hl] at this
    cases this

/-- What a place has alike with the one ahead of it in the row. -/
def al (s a : List Nat) (i : Nat) : Nat := cp (s.drop i) (s.drop (nth a (a.idxOf i - 1)))
/-- One place on there is at most one less alike. -/
theorem kasai (h : SA s a) {i : Nat} (hi : i + 1 < s.length) (hr : 0 < a.idxOf i) (hr2 : 0 < a.idxOf (i + 1)) : al s a i - 1 ≤ al s a (i + 1) := by
  unfold al
  have hri := List.idxOf_lt_length_of_mem (h.mem (show i < s.length by omega))
  have hj := h.lt (show a.idxOf i - 1 < a.length by omega)
  have hji := h.at_lt (show a.idxOf i - 1 < a.idxOf i by omega) hri
  rw [nth_idx (h.mem (by omega))] at hji
  generalize nth a (a.idxOf i - 1) = j at *
  rw [cp_drop]
  split
  · rename_i h1
    obtain ⟨_, _, e⟩ := h1
    rw [Nat.add_sub_cancel]
    rw [lx_drop hj (by omega), if_neg (by omega), if_neg (by omega)] at hji
    by_cases hj1 : j + 1 < s.length
    · have hlt := h.rk_lt hj1 hi hji
      have hr1 := List.idxOf_lt_length_of_mem (h.mem hi)
      have hk := h.at_lt (show a.idxOf (i + 1) - 1 < a.idxOf (i + 1) by omega) hr1
      rw [nth_idx (h.mem hi)] at hk
      rw [cp_comm, cp_comm (s.drop (i + 1))]
      refine cp_mono ?_ hk
      by_cases he : a.idxOf (j + 1) = a.idxOf (i + 1) - 1
      · rw [← he, nth_idx (h.mem hj1)]; exact .inr rfl
      · have := h.at_lt (show a.idxOf (j + 1) < a.idxOf (i + 1) - 1 by omega) (by omega)
        rw [nth_idx (h.mem hj1)] at this
        exact .inl this
    · rw [List.drop_eq_nil_of_le (show s.length ≤ j + 1 by omega), cp_nil_r]; omega
  · omega

/-- What neighbours have alike. -/
def lcpL (s a : List Nat) : List Nat := (List.range a.length).map fun k => if k = 0 then 0 else cp (s.drop (nth a (k - 1))) (s.drop (nth a k))
theorem lcpL_len (s a : List Nat) : (lcpL s a).length = a.length := by simp [lcpL]
theorem lcpL_at {k : Nat} (h : k < a.length) : nth (lcpL s a) k = if k = 0 then 0 else cp (s.drop (nth a (k - 1))) (s.drop (nth a k)) := by
  rw [nth_get (by rw [lcpL_len]; exact h)]
  simp [lcpL]
end

/-- Where a place is laid in, from the end. -/
def ipos (s out : List Nat) (i : Nat) : Nat → Nat
  | 0 => 0
  | j + 1 => if lx (s.drop i) (s.drop (nth out j)) then ipos s out i j else j + 1
def insL (s out : List Nat) (i : Nat) : List Nat := out.take (ipos s out i out.length) ++ i :: out.drop (ipos s out i out.length)
def ordL (s : List Nat) : Nat → List Nat
  | 0 => []
  | i + 1 => insL s (ordL s i) i
theorem ipos_le (s out : List Nat) (i : Nat) : ∀ j, ipos s out i j ≤ j
  | 0 => Nat.le_refl _
  | j + 1 => by
    rw [ipos]
    split
    · have := ipos_le s out i j; omega
    · exact Nat.le_refl _
theorem ipos_hi (s out : List Nat) (i : Nat) : ∀ j k, ipos s out i j ≤ k → k < j → lx (s.drop i) (s.drop (nth out k)) = true
  | 0, k, _, h => by omega
  | j + 1, k, h1, h2 => by
    rw [ipos] at h1
    split at h1
    · rename_i h
      by_cases e : k = j
      · rw [e]; exact h
      · exact ipos_hi s out i j k h1 (by omega)
    · omega
theorem ipos_lo (s out : List Nat) (i : Nat) : ∀ j, 0 < ipos s out i j → lx (s.drop i) (s.drop (nth out (ipos s out i j - 1))) = false
  | 0, h => by simp [ipos] at h
  | j + 1, h => by
    rw [ipos] at h ⊢
    split at h
    · rename_i h1
      rw [if_pos h1]
      exact ipos_lo s out i j h
    · rename_i h1
      rw [if_neg h1, Nat.add_sub_cancel]
      simpa using h1

theorem drop_ne {s : List Nat} {i j : Nat} (hi : i < s.length) (hj : j < s.length) (h : s.drop i = s.drop j) : i = j := by
  have := congrArg List.length h
  simp at this
  omega

theorem ordL_ok {s : List Nat} : ∀ i, i ≤ s.length → (ordL s i).Perm (List.range i) ∧ (ordL s i).Pairwise fun x y => lx (s.drop x) (s.drop y) = true
  | 0, _ => ⟨by simp [ordL], by simp [ordL]⟩
  | i + 1, hi => by
    obtain ⟨hp, hs⟩ := ordL_ok (s := s) i (by omega)
    rw [ordL, insL]
    have hle := ipos_le s (ordL s i) i (ordL s i).length
    have hhi := ipos_hi s (ordL s i) i (ordL s i).length
    have hlo := ipos_lo s (ordL s i) i (ordL s i).length
    generalize ipos s (ordL s i) i (ordL s i).length = j at *
    generalize ordL s i = out at *
    have hlen : out.length = i := by simpa using hp.length_eq
    have hlt : ∀ k, k < out.length → nth out k < i := fun k hk => by
      have : nth out k ∈ out := by rw [nth_get hk]; exact List.getElem_mem hk
      simpa using hp.mem_iff.1 this
    have hat := List.pairwise_iff_getElem.1 hs
    refine ⟨?_, ?_⟩
    · rw [List.range_succ]
      refine List.perm_middle.trans ?_
      rw [List.take_append_drop]
      exact (List.Perm.cons i hp).trans (List.perm_append_singleton i _).symm
    · rw [List.pairwise_append]
      refine ⟨hs.sublist (List.take_sublist j out), ?_, ?_⟩
      · rw [List.pairwise_cons]
        refine ⟨fun x hx => ?_, hs.sublist (List.drop_sublist j out)⟩
        obtain ⟨k, hk, rfl⟩ := List.mem_iff_getElem.1 hx
        rw [List.length_drop] at hk
        rw [List.getElem_drop]
        have h1 := hhi (j + k) (by omega) (by omega)
        rw [nth_get (by omega)] at h1
        exact h1
      · intro x hx y hy
        obtain ⟨p, hp1, rfl⟩ := List.mem_iff_getElem.1 hx
        rw [List.length_take] at hp1
        rw [List.getElem_take]
        have hj0 : 0 < j := by omega
        -- the one before the gap is less than i
        have hb : lx (s.drop (nth out (j - 1))) (s.drop i) = true := by
          have h1 := hlo hj0
          have h2 := hlt (j - 1) (by omega)
          rcases lx_tri (s.drop (nth out (j - 1))) (s.drop i) with h3 | h3 | h3
          · exact h3
          · have := drop_ne (by omega) (by omega) h3; omega
          · rw [h1] at h3; cases h3
        have hx1 : lx (s.drop out[p]) (s.drop i) = true := by
          by_cases e : p = j - 1
          · subst e
            rw [nth_get (by omega)] at hb
            exact hb
          · have := hat p (j - 1) (by omega) (by omega) (by omega)
            rw [nth_get (by omega)] at hb
            exact lx_trans this hb
        rcases List.mem_cons.1 hy with rfl | hy
        · exact hx1
        · obtain ⟨k, hk, rfl⟩ := List.mem_iff_getElem.1 hy
          rw [List.length_drop] at hk
          rw [List.getElem_drop]
          exact hat p (j + k) (by omega) (by omega) (by omega)
/-- The document's order. -/
theorem ordL_SA (s : List Nat) : SA s (ordL s s.length) := ⟨(ordL_ok _ (Nat.le_refl _)).1, (ordL_ok _ (Nat.le_refl _)).2⟩
end Go.Proofs.Ytdpkhijbikbhnaa.Plain
