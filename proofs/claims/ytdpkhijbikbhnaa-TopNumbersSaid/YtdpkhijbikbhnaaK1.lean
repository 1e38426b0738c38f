/- Plain: endings in order, and how it is seen by ranks. -/
namespace Go.Proofs.Ytdpkhijbikbhnaa.Plain

def nth (l : List Nat) (i : Nat) : Nat := l.getD i 0
theorem nth_get {l : List Nat} {i : Nat} (h : i < l.length) : nth l i = l[i] := by simp [nth, h]

/-- One row of numbers stands before another. -/
def lx : List Nat → List Nat → Bool
  | _, [] => false
  | [], _ :: _ => true
  | a :: l, b :: m => if a < b then true else if b < a then false else lx l m

theorem lx_irr : ∀ l : List Nat, lx l l = false
  | [] => rfl
  | a :: l => by rw [lx, if_neg (by omega), if_neg (by omega)]; exact lx_irr l
theorem lx_trans : ∀ {a b c : List Nat}, lx a b = true → lx b c = true → lx a c = true
  | a, b, [], _, h2 => by cases b <;> simp [lx] at h2
  | [], b, z :: c, _, _ => rfl
  | x :: a, [], z :: c, h1, _ => by simp [lx] at h1
  | x :: a, y :: b, z :: c, h1, h2 => by
    rw [lx] at h1 h2 ⊢
    by_cases xy : x < y
    · by_cases yz : y < z
      · rw [if_pos (by omega)]
      · rw [if_neg yz] at h2
        split at h2
        · cases h2
        · rw [if_pos (by omega)]
    · rw [if_neg xy] at h1
      split at h1
      · cases h1
      · by_cases yz : y < z
        · rw [if_pos (by omega)]
        · rw [if_neg yz] at h2
          split at h2
          · cases h2
          · rw [if_neg (by omega), if_neg (by omega)]
            exact lx_trans h1 h2
theorem lx_tri : ∀ (a b : List Nat), lx a b = true ∨ a = b ∨ lx b a = true
  | [], [] => .inr (.inl rfl)
  | [], _ :: _ => .inl rfl
  | _ :: _, [] => .inr (.inr rfl)
  | x :: a, y :: b => by
    rw [lx, lx]
    by_cases h : x < y
    · exact .inl (if_pos h)
    · by_cases h2 : y < x
      · exact .inr (.inr (if_pos h2))
      · rw [if_neg h, if_neg h2, if_neg h2, if_neg h]
        rcases lx_tri a b with h3 | h3 | h3
        · exact .inl h3
        · exact .inr (.inl (by rw [h3, show x = y by omega]))
        · exact .inr (.inr h3)
theorem lx_asym {a b : List Nat} (h : lx a b = true) : lx b a = false := by
  cases h2 : lx b a with
  | false => rfl
  | true => have := lx_trans h h2; rw [lx_irr] at this; cases this

theorem drop_nth {l : List Nat} {i : Nat} (h : i < l.length) : l.drop i = nth l i :: l.drop (i + 1) := by
  rw [List.drop_eq_getElem_cons h, nth_get h]
theorem lx_drop {s : List Nat} {i j : Nat} (hi : i < s.length) (hj : j < s.length) : lx (s.drop i) (s.drop j) = if nth s i < nth s j then true else if nth s j < nth s i then false else lx (s.drop (i + 1)) (s.drop (j + 1)) := by
  rw [drop_nth hi, drop_nth hj, lx]

/-- All places in order of their endings. -/
structure SA (s a : List Nat) : Prop where
  perm : a.Perm (List.range s.length)
  srt : a.Pairwise fun i j => lx (s.drop i) (s.drop j) = true

theorem SA.uniq {s a b : List Nat} (ha : SA s a) (hb : SA s b) : a = b :=
  List.Perm.eq_of_pairwise (fun x y _ _ h1 h2 => by have := lx_asym h1; rw [h2] at this; cases this) ha.srt hb.srt (ha.perm.trans hb.perm.symm)

/-- Where a number stands; behind all: before the first. -/
def rkI (a : List Nat) (x : Nat) : Int := if x < a.length then (a.idxOf x : Int) else -1

def bad (s a : List Nat) (x y : Nat) : Prop := nth s y < nth s x ∨ (nth s x = nth s y ∧ rkI a (y + 1) < rkI a (x + 1))
instance (s a : List Nat) (x y : Nat) : Decidable (bad s a x y) := by unfold bad; infer_instance
/-- What the checker looks at. -/
def chk (s a : List Nat) : Bool := decide (∀ i, i < a.length → 0 < i → ¬ bad s a (nth a (i - 1)) (nth a i))

section
variable {s a : List Nat}
theorem idx_nth (hn : a.Nodup) {i : Nat} (h : i < a.length) : a.idxOf (nth a i) = i := by
  rw [nth_get h]
  exact List.Nodup.idxOf_getElem hn i h

theorem nth_idx {x : Nat} (h : x ∈ a) : nth a (a.idxOf x) = x := by
  have h1 := List.idxOf_lt_length_of_mem h
  rw [nth_get h1]
  exact List.getElem_idxOf h1

theorem chk_srt (hp : a.Perm (List.range s.length)) (hc : chk s a = true) : a.Pairwise fun i j => lx (s.drop i) (s.drop j) = true := by
  have hc := of_decide_eq_true hc
  have hlen : a.length = s.length := by simpa using hp.length_eq
  have hnd : a.Nodup := hp.nodup_iff.2 List.nodup_range
  have hmem : ∀ x, x < s.length → x ∈ a := fun x hx => hp.mem_iff.2 (by simpa using hx)
  have hlt : ∀ i, i < a.length → nth a i < s.length := fun i hi => by
    have : nth a i ∈ a := by rw [nth_get hi]; exact List.getElem_mem hi
    simpa using hp.mem_iff.1 this
  -- along the row
  have chain : ∀ d p, p + d < a.length → 0 < d → nth s (nth a p) < nth s (nth a (p + d)) ∨ (nth s (nth a p) = nth s (nth a (p + d)) ∧ rkI a (nth a p + 1) ≤ rkI a (nth a (p + d) + 1)) := by
    intro d
    induction d with
    | zero => intro p _ h; omega
    | succ d ih =>
      intro p hp2 _
      have h1 := hc (p + (d + 1)) hp2 (by omega)
      rw [show p + (d + 1) - 1 = p + d by omega] at h1
      unfold bad at h1
      have h3 : nth s (nth a (p + d)) < nth s (nth a (p + (d + 1))) ∨ (nth s (nth a (p + d)) = nth s (nth a (p + (d + 1))) ∧ rkI a (nth a (p + d) + 1) ≤ rkI a (nth a (p + (d + 1)) + 1)) := by omega
      rcases Nat.eq_zero_or_pos d with h0 | h0
      · subst h0; exact h3
      · have h2 := ih p (by omega) h0
        omega
  have rinj : ∀ x y, x ≤ s.length → y ≤ s.length → rkI a x = rkI a y → x = y := by
    intro x y hx hy h
    unfold rkI at h
    split at h
    · rename_i h1
      split at h
      · rename_i h2
        have h3 : a.idxOf x = a.idxOf y := by omega
        have e1 := nth_idx (hmem x (by omega))
        rw [h3, nth_idx (hmem y (by omega))] at e1
        exact e1.symm
      · omega
    · split at h <;> omega
  have key : ∀ m x y, x < s.length → y < s.length → (s.length - x) + (s.length - y) ≤ m → a.idxOf x < a.idxOf y → lx (s.drop x) (s.drop y) = true := by
    intro m
    induction m with
    | zero => intro x y hx hy hm _; omega
    | succ m ih =>
      intro x y hx hy hm hlt2
      have hxm := List.idxOf_lt_length_of_mem (hmem x hx)
      have hym := List.idxOf_lt_length_of_mem (hmem y hy)
      have h1 := chain (a.idxOf y - a.idxOf x) (a.idxOf x) (by omega) (by omega)
      rw [show a.idxOf x + (a.idxOf y - a.idxOf x) = a.idxOf y by omega, nth_idx (hmem x hx), nth_idx (hmem y hy)] at h1
      rw [lx_drop hx hy]
      rcases h1 with h1 | ⟨h1, h2⟩
      · rw [if_pos h1]
      · rw [if_neg (by omega), if_neg (by omega)]
        have hxy : x ≠ y := fun e => by subst e; omega
        have h3 : rkI a (x + 1) ≠ rkI a (y + 1) := fun e => hxy (by have := rinj (x + 1) (y + 1) (by omega) (by omega) e; omega)
        have h4 : rkI a (x + 1) < rkI a (y + 1) := by omega
        have hy1 : y + 1 < s.length := by
          apply Classical.byContradiction
          intro hh
          have : rkI a (y + 1) = -1 := by unfold rkI; rw [if_neg (by omega)]
          have : -1 ≤ rkI a (x + 1) := by unfold rkI; split <;> omega
          omega
        by_cases hx1 : x + 1 < s.length
        · refine ih (x + 1) (y + 1) hx1 hy1 (by omega) ?_
          unfold rkI at h4
          rw [if_pos (by omega), if_pos (by omega)] at h4
          omega
        · rw [List.drop_eq_nil_of_le (by omega), drop_nth hy1]
          rfl
  rw [List.pairwise_iff_getElem]
  intro i j hi hj hij
  have e1 := idx_nth hnd hi
  have e2 := idx_nth hnd hj
  have := key _ (nth a i) (nth a j) (hlt i hi) (hlt j hj) (Nat.le_refl _) (by omega)
  rwa [nth_get hi, nth_get hj] at this

theorem chk_of (h : SA s a) : chk s a = true := by
  obtain ⟨hp, hs⟩ := h
  have hlen : a.length = s.length := by simpa using hp.length_eq
  have hnd : a.Nodup := hp.nodup_iff.2 List.nodup_range
  have hmem : ∀ x, x < s.length → x ∈ a := fun x hx => hp.mem_iff.2 (by simpa using hx)
  have hlt : ∀ i, i < a.length → nth a i < s.length := fun i hi => by
    have : nth a i ∈ a := by rw [nth_get hi]; exact List.getElem_mem hi
    simpa using hp.mem_iff.1 this
  rw [List.pairwise_iff_getElem] at hs
  have hord : ∀ x y, x < s.length → y < s.length → a.idxOf x < a.idxOf y → lx (s.drop x) (s.drop y) = true := by
    intro x y hx hy h
    have hxm := List.idxOf_lt_length_of_mem (hmem x hx)
    have hym := List.idxOf_lt_length_of_mem (hmem y hy)
    have := hs _ _ hxm hym h
    rwa [List.getElem_idxOf hxm, List.getElem_idxOf hym] at this
  refine decide_eq_true fun i hi h0 hb => ?_
  have hx := hlt (i - 1) (by omega)
  have hy := hlt i hi
  have h1 := hs (i - 1) i (by omega) hi (by omega)
  rw [← nth_get (by omega : i - 1 < a.length), ← nth_get hi] at h1
  generalize nth a (i - 1) = x at *
  generalize nth a i = y at *
  rw [lx_drop hx hy] at h1
  rcases hb with hb | ⟨hb1, hb2⟩
  · rw [if_neg (by omega), if_pos hb] at h1; cases h1
  · rw [if_neg (by omega), if_neg (by omega)] at h1
    have hx1 : x + 1 < s.length := by
      apply Classical.byContradiction
      intro hh
      have : rkI a (x + 1) = -1 := by unfold rkI; rw [if_neg (by omega)]
      have : -1 ≤ rkI a (y + 1) := by unfold rkI; split <;> omega
      omega
    have hy1 : y + 1 < s.length := by
      apply Classical.byContradiction
      intro hh
      rw [List.drop_eq_nil_of_le (show s.length ≤ y + 1 by omega)] at h1
      cases hd : s.drop (x + 1) <;> rw [hd] at h1 <;> simp [lx] at h1
    unfold rkI at hb2
    rw [if_pos (by omega), if_pos (by omega)] at hb2
    have := lx_asym (hord (y + 1) (x + 1) hy1 hx1 (by omega))
    rw [h1] at this
    cases this
theorem chk_iff (hp : a.Perm (List.range s.length)) : chk s a = true ↔ SA s a := ⟨fun h => ⟨hp, chk_srt hp h⟩, chk_of⟩
end
end Go.Proofs.Ytdpkhijbikbhnaa.Plain
