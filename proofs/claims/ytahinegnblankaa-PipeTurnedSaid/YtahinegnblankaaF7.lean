import Derived.Test.YtahinegnblankaaF6
namespace Go.Proofs.Ytahinegnblankaa
open Go Abs
set_option linter.unusedSimpArgs false
set_option linter.unusedVariables false

abbrev zs (l : List Nat) : List Int := l.map fun (b : Nat) => (b : Int)

/-- A run's number. -/
def rval : List Nat → Nat
  | [] => 0
  | d :: ds => d + 1 + 2 * rval ds

theorem told_rval {ds : List Nat} (h : ∀ d ∈ ds, d < 2) : told (rval ds) = ds := by
  induction ds with
  | nil => exact told_zero
  | cons d ds ih =>
    have hd := h d (by simp)
    rw [rval, told_pos (by omega), show (d + 1 + 2 * rval ds - 1) % 2 = d by omega, show (d + 1 + 2 * rval ds - 1) / 2 = rval ds by omega, ih fun x hx => h x (by simp [hx])]

theorem told_dig (n : Nat) : ∀ d ∈ told n, d < 2 := by
  induction n using Nat.strongRecOn with
  | _ n ih =>
    intro d hd
    by_cases h : n = 0
    · subst h; simp [told_zero] at hd
    · rw [told_pos h] at hd
      rcases List.mem_cons.1 hd with rfl | hd
      · omega
      · exact ih _ (by omega) d hd

theorem rval_told (n : Nat) : rval (told n) = n := by
  induction n using Nat.strongRecOn with
  | _ n ih =>
    by_cases h : n = 0
    · subst h; rw [told_zero]; rfl
    · rw [told_pos h, rval, ih _ (by omega)]; omega

theorem rval_snoc (ds : List Nat) (d : Nat) : rval (ds ++ [d]) = rval ds + (d + 1) * 2 ^ ds.length := by
  induction ds with
  | nil => simp [rval]
  | cons x ds ih =>
    rw [List.cons_append, rval, ih, rval, List.length_cons, Nat.pow_succ, Nat.mul_add]
    have : (d + 1) * (2 ^ ds.length * 2) = 2 * ((d + 1) * 2 ^ ds.length) := by rw [← Nat.mul_assoc, Nat.mul_comm]
    omega

/-- What was read is told by what was read. -/
theorem tell_rback {most : Nat} : ∀ (l : List Int) (pre ds out : List Nat), (∀ d ∈ ds, d < 2) → rback l most (pre ++ List.replicate (rval ds) 0) (2 ^ ds.length) = some out →
    ∃ rest, out = pre ++ rest ∧ zs (tell rest 0) = zs ds ++ l := by
  intro l
  induction l with
  | nil =>
    intro pre ds out hd h
    simp [rback] at h
    refine ⟨List.replicate (rval ds) 0, h.symm, ?_⟩
    have := tell_zeros [] (rval ds) 0
    rw [List.append_nil] at this
    rw [this, tell, Nat.zero_add, told_rval hd, List.append_nil]
  | cons x l ih =>
    intro pre ds out hd h
    rw [rback] at h
    split at h
    · cases h
    · rename_i hx
      obtain ⟨u, rfl⟩ : ∃ u : Nat, x = u := ⟨x.toNat, by omega⟩
      split at h
      · rename_i h2
        split at h
        · cases h
        · rw [show ((u : Int) - 1).toNat = u - 1 by omega] at h
          obtain ⟨rest, h3, h4⟩ := ih (pre ++ List.replicate (rval ds) 0 ++ [u - 1]) [] out (by simp) (by simpa [rval] using h)
          refine ⟨List.replicate (rval ds) 0 ++ (u - 1) :: rest, by rw [h3]; simp, ?_⟩
          rw [tell_zeros, tell, if_neg (by omega), Nat.zero_add, told_rval hd, show u - 1 + 1 = u by omega]
          simp only [zs, List.map_append, List.map_cons, List.map_nil, List.nil_append] at h4 ⊢
          rw [h4]
      · rename_i h2
        split at h
        · cases h
        · rw [show ((u : Int) + 1).toNat = u + 1 by omega] at h
          have hd' : ∀ d ∈ ds ++ [u], d < 2 := fun d hm => by
            simp at hm
            rcases hm with hm | rfl
            · exact hd d hm
            · omega
          obtain ⟨rest, h3, h4⟩ := ih pre (ds ++ [u]) out hd' (by
            rw [rval_snoc, List.length_append, List.length_singleton, Nat.pow_succ, ← List.replicate_append_replicate, ← List.append_assoc]
            exact h)
          exact ⟨rest, h3, by rw [h4]; simp [zs]⟩

theorem tell_rback0 {most : Nat} {l : List Int} {out : List Nat} (h : rback l most [] 1 = some out) : zs (tell out 0) = l := by
  obtain ⟨rest, h1, h2⟩ := tell_rback l [] [] out (by simp) (by simpa [rval] using h)
  simp at h1
  subst h1
  simpa using h2

theorem rback_dig {most : Nat} (l : List Int) : ∀ (ds pre : List Nat) (p : Nat), (∀ d ∈ ds, d < 2) → 1 ≤ p → pre.length ≤ most →
    rback (zs ds ++ l) most pre p = if most < pre.length + rval ds * p then none else rback l most (pre ++ List.replicate (rval ds * p) 0) (p * 2 ^ ds.length) := by
  intro ds
  induction ds with
  | nil => intro pre p _ _ hp; simp [rval]; omega
  | cons d ds ih =>
    intro pre p hd hp1 hp
    have h0 := hd d (by simp)
    simp only [zs, List.map_cons, List.cons_append]
    rw [rback, if_neg (by omega), if_neg (by omega), show ((d : Int) + 1).toNat = d + 1 by omega, rval]
    have hle : p ≤ (d + 1) * p := Nat.le_mul_of_pos_left _ (by omega)
    have hsum : (d + 1 + 2 * rval ds) * p = (d + 1) * p + rval ds * (p * 2) := by
      rw [Nat.add_mul]; congr 1
      rw [Nat.mul_comm 2, Nat.mul_assoc, Nat.mul_comm 2 p]
    by_cases hc : most < pre.length + (d + 1) * p
    · rw [if_pos (.inr hc), if_pos (by omega)]
    · have := ih (pre ++ List.replicate ((d + 1) * p) 0) (p * 2) (fun x hx => hd x (by simp [hx])) (by omega) (by simp; omega)
      simp only [zs] at this
      rw [if_neg (by omega), this, List.length_append, List.length_replicate, hsum, List.length_cons, Nat.pow_succ, List.append_assoc, List.replicate_append_replicate, Nat.mul_assoc p 2, Nat.mul_comm 2 (2 ^ ds.length), Nat.add_assoc]

theorem rback_tell {most : Nat} : ∀ (b pre : List Nat) (z : Nat), (∀ x ∈ b, x < 256) → pre.length ≤ most →
    rback (zs (tell b z)) most pre 1 = if most < pre.length + z + b.length then none else some (pre ++ List.replicate z 0 ++ b) := by
  intro b
  induction b with
  | nil =>
    intro pre z _ hp
    have := rback_dig (most := most) [] (told z) pre 1 (told_dig z) (by omega) hp
    rw [List.append_nil, rval_told, Nat.mul_one] at this
    rw [tell, this]
    simp [rback]
  | cons c b ih =>
    intro pre z hb hp
    rw [tell]
    by_cases hc : c = 0
    · rw [if_pos hc, ih pre (z + 1) (fun x hx => hb x (by simp [hx])) hp, List.length_cons, show pre.length + (z + 1) + b.length = pre.length + z + (b.length + 1) by omega, hc, List.replicate_succ']
      simp
    · rw [if_neg hc]
      have := rback_dig (most := most) (zs ((c + 1) :: tell b 0)) (told z) pre 1 (told_dig z) (by omega) hp
      simp only [zs, List.map_append] at this ⊢
      rw [this, rval_told, Nat.mul_one, List.map_cons, List.length_cons]
      by_cases h1 : most < pre.length + z
      · rw [if_pos h1, if_pos (by omega)]
      · have hcb := hb c (by simp)
        rw [if_neg h1, rback, if_neg (by omega), if_pos (by omega), List.length_append, List.length_replicate]
        by_cases h2 : most < pre.length + z + 1
        · rw [if_pos h2, if_pos (by omega)]
        · have := ih (pre ++ List.replicate z 0 ++ [c]) 0 (fun x hx => hb x (by simp [hx])) (by simp; omega)
          simp only [zs] at this
          rw [if_neg h2, show (((c + 1 : Nat) : Int) - 1).toNat = c by omega, this]
          simp
          congr 1
          rw [eq_iff_iff]
          omega

theorem rback_bad {most : Nat} {s : Int} (hs : s < 0 ∨ 257 ≤ s) (l' : List Int) : ∀ (l : List Int) (b : List Nat) (p : Nat), rback (l ++ s :: l') most b p = none := by
  intro l
  induction l with
  | nil => intro b p; rw [List.nil_append, rback, if_pos hs]
  | cons x l ih =>
    intro b p
    rw [List.cons_append, rback, ih, ih]
    simp
end Go.Proofs.Ytahinegnblankaa
