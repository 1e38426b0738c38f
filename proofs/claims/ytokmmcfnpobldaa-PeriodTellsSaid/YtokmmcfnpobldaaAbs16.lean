/-
  The abstract machine, part 16: statements whose order is open, the reading parts of them.
-/
import Derived.Test.YtokmmcfnpobldaaAbs15
namespace Go.Proofs.Ytokmmcfnpobldaa.Abs
open Go Go.RowKit

section
variable {P : Program} {ops : Array Oper} {bf : Array Nat} {K : (Nat → Value) → Heap → Nat → Prop}

/-- k operations that at most read, where nothing was written so far. -/
theorem d_reads (k : Nat) : ∀ {l : List Oper} {idx : Nat} {acc : List FP} {t : Nat → Value} {g : Heap} {n : Nat} {s : St}, (∀ p ∈ acc, p.2.2 = []) → runR P ops (l.take k) ⟨t, g, n⟩ = some s →
    (∀ acc' : List FP, (∀ p ∈ acc', p.2.2 = []) → awpD P ops bf K (l.drop k) (idx + (l.take k).length) acc' s.t s.g s.n) → awpD P ops bf K l idx acc t g n := by
  induction k with
  | zero => intro l idx acc t g n s ha h hk; simp only [List.take_zero, runR, Option.some.injEq] at h; subst h; simpa using hk acc ha
  | succ k ih =>
    intro l idx acc t g n s ha h hk
    cases l with
    | nil => simp only [List.take_nil, runR, Option.some.injEq] at h; subst h; simpa using hk acc ha
    | cons o rest =>
      simp only [List.take_succ_cons, runR] at h
      have hk' : ∀ acc' : List FP, (∀ p ∈ acc', p.2.2 = []) → awpD P ops bf K (rest.drop k) (idx + 1 + (rest.take k).length) acc' s.t s.g s.n := fun acc' h' => by
        have := hk acc' h'
        simp only [List.drop_succ_cons, List.take_succ_cons, List.length_cons] at this
        rwa [show idx + ((rest.take k).length + 1) = idx + 1 + (rest.take k).length by omega] at this
      split at h
      · rename_i hw
        split at h
        · rename_i f hf
          split at h
          · rename_i he
            simp only [Bool.and_eq_true] at he
            obtain ⟨h3, h4⟩ := wr_nil he.1 he.2
            have h5 : f.a.length = 0 := by have := he.2; simp only [List.isEmpty_iff] at this; simp [this]
            refine ⟨true, hw, f, .inl hf, fun p hp => .inr ⟨by rw [ha p hp]; simp, by rw [h3]; simp⟩, ?_⟩
            rw [h4, h5]
            refine ih ?_ h hk'
            intro p hp
            split at hp
            · exact ha p hp
            · rcases List.mem_cons.1 hp with rfl | hp
              · exact h3
              · exact ha p hp
          · cases h
        · cases h
      · rename_i hw
        exact ⟨false, hw, ih ha h hk'⟩
      · cases h

/-- What writes nothing meets nothing, where nothing was written so far. -/
theorem d_free {acc : List FP} {i : Nat} {f : Eff} (ha : ∀ p ∈ acc, p.2.2 = []) (hf : f.wr = []) : ∀ p ∈ acc, (bf.getD i 0).testBit p.1 = true ∨ ((∀ x ∈ p.2.2, x ∉ f.r ∧ x ∉ f.wr) ∧ ∀ x ∈ p.2.1, x ∉ f.wr) :=
  fun p hp => .inr ⟨by rw [ha p hp]; simp, by rw [hf]; simp⟩
end
end Go.Proofs.Ytokmmcfnpobldaa.Abs
