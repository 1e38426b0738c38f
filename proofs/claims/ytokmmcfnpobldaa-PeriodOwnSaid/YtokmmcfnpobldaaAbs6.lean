/-
  The abstract machine, part 6: what an operation looks at; calls; code; a function's contract out of its body.
-/
import Derived.Test.YtokmmcfnpobldaaAbs5
import Derived.Tactics
namespace Go.Proofs.Ytokmmcfnpobldaa.Abs
open Go Go.RowKit

-- An operation's effect hangs on the blocks that it names alone.
theorem rd_congr {g g' : Heap} {a : Addr} (h : g' a.block = g a.block) : rd g' a = rd g a := by
  unfold rd
  rw [h]

theorem srcCells_congr {g g' : Heap} {y : Value} {esz : Nat} (h : ∀ i ∈ srcBlk y, g' i = g i) : srcCells y g' esz = srcCells y g esz := by
  unfold srcCells
  split
  · rfl
  · rename_i a m e
    split
    · rfl
    · rename_i hm
      rw [rd_congr (h a.block (by simp [srcBlk, hm]))]
  · rfl

section
variable {P : Program} {g g' : Heap} {f : Eff} {j : Nat}

theorem load_local {T : TypeId} {x : Value} (h : stepLoad P T x g = some f) (hg : ∀ i ∈ f.fp, g' i = g i) : stepLoad P T x g' = some f := by
  unfold stepLoad at h ⊢
  split at h
  · rename_i a
    have key : f.r = [a.block] := by
      split at h
      · split at h
        · split at h
          · split at h
            · cases h; rfl
            · cases h
          · cases h
        · split at h
          · cases h; rfl
          · cases h
        · cases h
      · cases h
    have hr : rd g' a = rd g a := rd_congr (hg _ (by simp [Eff.fp, key]))
    simp only [hr]
    exact h
  · cases h

theorem store_local {T : TypeId} {x y : Value} (h : stepStore P T x y g = some f) (hg : ∀ i ∈ f.fp, g' i = g i) : stepStore P T x y g' = some f := by
  unfold stepStore at h ⊢
  split at h
  · rename_i a
    have key : f.r = [a.block] := by
      split at h
      · split at h
        · cases h; rfl
        · cases h
      · cases h
    have hr : rd g' a = rd g a := rd_congr (hg _ (by simp [Eff.fp, key]))
    simp only [hr]
    exact h
  · cases h

theorem conv_local {S D : TypeId} {x : Value} (h : stepConv P S D x g = some f) (hg : ∀ i ∈ f.fp, g' i = g i) : stepConv P S D x g' = some f := by
  unfold stepConv at h ⊢
  split at h
  · exact h
  · exact h
  · split at h
    · split at h
      · exact h
      · rename_i a
        split at h
        · rename_i h0
          simp only [h0, if_true]
          exact h
        · rename_i h0
          have key : f.r = [a.block] := by
            split at h
            · split at h
              · split at h
                · cases h; rfl
                · cases h
              · cases h
            · cases h
          have hr : rd g' a = rd g a := rd_congr (hg _ (by simp [Eff.fp, key]))
          simp only [h0, if_false, hr]
          exact h
    · cases h
  · rename_i a _ _ _ _
    split at h
    · have key : f.r = [a.block] := by
        split at h
        · split at h
          · cases h; rfl
          · cases h
        · cases h
      have hr : rd g' a = rd g a := rd_congr (hg _ (by simp [Eff.fp, key]))
      simp only [hr]
      exact h
    · cases h
  · cases h

theorem append_local {T T' : TypeId} {x y : Value} (h : stepAppend P T T' x y g j = some f) (hg : ∀ i ∈ f.fp, g' i = g i) : stepAppend P T T' x y g' j = some f := by
  unfold stepAppend at h ⊢
  split at h
  · rename_i hT
    rw [if_pos hT]
    split at h
    · split at h
      · rename_i zs esz bytes hti
        split at h
        · rename_i m news hsrc
          have hm0 : m = 0 → srcBlk y = [] := by
            intro h0
            unfold srcCells at hsrc
            split at hsrc
            · rfl
            · split at hsrc
              · rename_i hm; simp [srcBlk, hm]
              · rename_i hm
                split at hsrc
                · split at hsrc
                  · cases hsrc; exact absurd h0 hm
                  · cases hsrc
                · cases hsrc
            · cases hsrc
          split at h
          · split at h
            · rename_i hm
              rw [srcCells_congr (g := g) (by rw [hm0 hm]; simp), hsrc]
              simp only [hm, if_true] at h ⊢
              exact h
            · rename_i hm
              split at h
              · rename_i hc
                cases h
                rw [srcCells_congr (g := g) (fun i hi => hg i (by simp [Eff.fp, hi])), hsrc]
                simp only [hm, if_false, hc, and_self, if_true]
              · cases h
          · rename_i a n esz'
            split at h
            · rename_i b hb
              split at h
              · rename_i hc
                cases h
                rw [srcCells_congr (g := g) (fun i hi => hg i (by simp [Eff.fp, hi])), hsrc]
                have hr : rd g' a = rd g a := rd_congr (hg _ (by simp [Eff.fp]))
                simp only [hr, hb]
                rw [if_pos hc]
              · cases h
            · cases h
          · cases h
        · cases h
      · cases h
    · cases h
  · cases h

theorem copy_local {T : TypeId} {x y : Value} (h : stepCopy P T x y g = some f) (hg : ∀ i ∈ f.fp, g' i = g i) : stepCopy P T x y g' = some f := by
  unfold stepCopy at h ⊢
  split at h
  · rename_i e a n esz hu
    split at h
    · rename_i hc
      rw [if_pos hc]
      split at h
      · rename_i m cs hsrc
        split at h
        · rename_i h0
          cases h
          rw [srcCells_congr (g := g) (fun i hi => hg i (by simp [Eff.fp, hi])), hsrc]
          simp only [h0, if_true]
        · rename_i h0
          split at h
          · rename_i b hb
            split at h
            · rename_i hro
              cases h
              rw [srcCells_congr (g := g) (fun i hi => hg i (by simp [Eff.fp, hi])), hsrc]
              have hr : rd g' a = rd g a := rd_congr (hg _ (by simp [Eff.fp]))
              simp only [h0, if_false, hr, hb, hro, if_true]
            · cases h
          · cases h
      · cases h
    · cases h
  · cases h

theorem call_local {c : Call} {ev : Operand → Value} (h : stepCall P c ev g j = some f) (hg : ∀ i ∈ f.fp, g' i = g i) : stepCall P c ev g' j = some f := by
  unfold stepCall at h ⊢
  split at h
  · split at h
    · exact h
    · exact h
    · exact append_local h hg
    · exact copy_local h hg
    · cases h
  · cases h

theorem step_local {o : Op} {ev : Operand → Value} (h : astep P o ev g j = some f) (hg : ∀ i ∈ f.fp, g' i = g i) : astep P o ev g' j = some f := by
  cases o <;> simp only [astep, reduceCtorEq] at h ⊢
  case load => exact load_local h hg
  case store => exact store_local h hg
  case convert => exact conv_local h hg
  case call => exact call_local h hg
  all_goals exact h

theorem step_j {o : Op} {ev : Operand → Value} (h : astep P o ev g j = some f) (ha : f.a ≠ []) : f.j = j := by
  cases o <;> simp only [astep, reduceCtorEq] at h
  case move => cases h; exact absurd rfl ha
  case assign => cases h; exact absurd rfl ha
  case pick => unfold stepPick at h; split at h <;> cases h; exact absurd rfl ha
  case load =>
    unfold stepLoad at h
    split at h <;> try (cases h; done)
    split at h <;> try (cases h; done)
    split at h <;> try (cases h; done)
    · split at h <;> try (cases h; done)
      split at h <;> cases h
      exact absurd rfl ha
    · split at h <;> cases h
      exact absurd rfl ha
  case store =>
    unfold stepStore at h
    split at h <;> try (cases h; done)
    split at h <;> try (cases h; done)
    split at h <;> cases h
    exact absurd rfl ha
  case nilCheck => unfold stepNilCheck at h; split at h <;> cases h; exact absurd rfl ha
  case fieldAddr => unfold stepField at h; split at h <;> cases h; exact absurd rfl ha
  case indexAddr =>
    unfold stepIndex at h
    split at h <;> try (cases h; done)
    split at h <;> try (cases h; done)
    · split at h <;> try (cases h; done)
      split at h <;> cases h
      exact absurd rfl ha
    · split at h <;> try (cases h; done)
      split at h <;> cases h
      exact absurd rfl ha
  case index =>
    unfold stepIdx at h
    split at h <;> try (cases h; done)
    split at h <;> cases h
    exact absurd rfl ha
  case slice T x lo hi mx =>
    cases mx with
    | some m => cases h
    | none =>
      simp only at h
      unfold stepSlice at h
      split at h <;> try (cases h; done)
      split at h <;> try (cases h; done)
      split at h <;> try (cases h; done)
      split at h
      · split at h <;> cases h
        exact absurd rfl ha
      · split at h <;> cases h
        exact absurd rfl ha
  case binOp => unfold stepBin at h; split at h <;> cases h; exact absurd rfl ha
  case unOp => unfold stepUn at h; split at h <;> cases h <;> exact absurd rfl ha
  case extract =>
    unfold stepExtract at h
    split at h <;> try (cases h; done)
    split at h <;> cases h
    exact absurd rfl ha
  case convert =>
    have key : f.a = [] := by
      unfold stepConv at h
      split at h
      · cases h; rfl
      · cases h; rfl
      · split at h
        · split at h
          · cases h; rfl
          · split at h
            · cases h; rfl
            · split at h
              · split at h
                · split at h <;> cases h; rfl
                · cases h
              · cases h
        · cases h
      · split at h
        · split at h
          · split at h <;> cases h; rfl
          · cases h
        · cases h
      · cases h
    exact absurd key ha
  case box => unfold stepBox at h; split at h <;> cases h; rfl
  case alloc => unfold stepAlloc at h; split at h <;> cases h; rfl
  case build =>
    unfold stepBuild at h
    split at h <;> try (cases h; done)
    split at h <;> cases h
    exact absurd rfl ha
  case buildSlice =>
    unfold stepBuildSlice at h
    split at h <;> try (cases h; done)
    split at h <;> try (cases h; done)
    split at h <;> try (cases h; done)
    split at h <;> cases h
    rfl
  case makeSlice =>
    unfold stepMake at h
    split at h <;> try (cases h; done)
    split at h <;> try (cases h; done)
    split at h <;> cases h
    rfl
  case call =>
    unfold stepCall at h
    split at h <;> try (cases h; done)
    split at h
    · unfold stepLen at h; split at h <;> cases h <;> exact absurd rfl ha
    · unfold stepMin at h; split at h <;> cases h; exact absurd rfl ha
    · unfold stepAppend at h
      split at h <;> try (cases h; done)
      split at h <;> try (cases h; done)
      split at h <;> try (cases h; done)
      split at h <;> try (cases h; done)
      split at h
      · split at h
        · cases h; exact absurd rfl ha
        · split at h <;> cases h; rfl
      · split at h <;> try (cases h; done)
        split at h <;> cases h
        exact absurd rfl ha
      · cases h
    · unfold stepCopy at h
      split at h <;> try (cases h; done)
      split at h <;> try (cases h; done)
      split at h <;> try (cases h; done)
      split at h
      · cases h; exact absurd rfl ha
      · split at h <;> try (cases h; done)
        split at h <;> cases h
        exact absurd rfl ha
    · cases h

theorem step_ev {o : Op} {ev ev' : Operand → Value} (he : ∀ x ∈ o.operands, ev' x = ev x) : astep P o ev' g j = astep P o ev g j := by
  have pairs : ∀ ps : Array (Nat × Operand), (∀ x ∈ (ps.toList.map (·.2)).toArray, ev' x = ev x) → (ps.toList.map fun p => (p.1, ev' p.2)) = ps.toList.map fun p => (p.1, ev p.2) := fun ps hp =>
    List.map_congr_left fun p hm => by rw [hp p.2 (by simp only [List.mem_toArray, List.mem_map]; exact ⟨p, hm, rfl⟩)]
  cases o <;> simp only [astep]
  case slice T x lo hi mx =>
    cases mx with
    | some m => rfl
    | none =>
      simp only [Op.operands] at he
      have h1 : lo.map ev' = lo.map ev := by cases lo with
        | none => rfl
        | some l => simp [he l (by simp)]
      have h2 : hi.map ev' = hi.map ev := by cases hi with
        | none => rfl
        | some l => simp [he l (by simp)]
      simp only [h1, h2, he x (by simp)]
  case build T ps => rw [pairs ps (by simpa [Op.operands] using he)]
  case buildSlice T n ps => rw [pairs ps (by simpa [Op.operands] using he)]
  case call c =>
    obtain ⟨callee, args, argTypes⟩ := c
    unfold stepCall
    cases callee with
    | builtin b =>
      simp only [Op.operands, Call.operands] at he
      simp only
      rcases ha : args.toList with _ | ⟨x, _ | ⟨y, _ | ⟨z, l⟩⟩⟩
      · cases b <;> rfl
      · have hx := he x (by have : x ∈ args.toList := by simp [ha]
                            simpa using this)
        cases b <;> first | rfl | simp only [hx] | (split <;> simp_all)
      · have hx := he x (by have : x ∈ args.toList := by simp [ha]
                            simpa using this)
        have hy := he y (by have : y ∈ args.toList := by simp [ha]
                            simpa using this)
        cases b <;> first | rfl | simp only [hx, hy] | simp only [hx] | (split <;> simp_all)
      · cases b <;> rfl
    | _ => rfl
  all_goals first | rfl | (simp [Op.operands] at he; simp only [he])
end

end Go.Proofs.Ytokmmcfnpobldaa.Abs
