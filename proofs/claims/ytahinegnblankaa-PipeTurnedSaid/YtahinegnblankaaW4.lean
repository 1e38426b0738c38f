import Derived.Test.YtahinegnblankaaP4
namespace Go.Proofs.Ytahinegnblankaa
open Go Abs
set_option linter.unusedSimpArgs false
set_option linter.unusedVariables false

theorem ren1_id (c : Value) : ren1 (fun i => i) c = c := by
  cases c with
  | pointer a => cases a <;> rfl
  | slice a l e => cases a with
    | none => rfl
    | some a => simp only [ren1]; split <;> rfl
  | _ => rfl

theorem renA_id (c : Value) : renA (fun i => i) c = c := by
  cases c with
  | agg cs =>
    simp only [renA]
    congr 1
    apply Array.toList_inj.1
    simp only [Array.toList_map]
    exact (List.map_congr_left (g := id) fun c _ => ren1_id c).trans (by simp)
  | pointer a => exact ren1_id (.pointer a)
  | slice a l e => exact ren1_id (.slice a l e)
  | _ => rfl

theorem renT_id (c : Value) : renT (fun i => i) c = c := by
  cases c with
  | tuple cs =>
    simp only [renT]
    congr 1
    apply Array.toList_inj.1
    simp only [Array.toList_map]
    exact (List.map_congr_left (g := id) fun c _ => renA_id c).trans (by simp)
  | agg cs => exact renA_id (.agg cs)
  | pointer a => exact ren1_id (.pointer a)
  | slice a l e => exact ren1_id (.slice a l e)
  | _ => rfl

theorem renB_id (b : Blk) : renB (fun i => i) b = b := by
  unfold renB
  have : b.cells.map (ren1 fun i => i) = b.cells := (List.map_congr_left (g := id) fun c _ => ren1_id c).trans (by simp)
  rw [this]

theorem renB_old {σ : Nat → Nat} {s : Nat → Prop} {b : Blk} (hσ : ∀ i, s i → σ i = i) (hb : ∀ c ∈ b.cells, SV1 s c) : renB σ b = b := by
  unfold renB
  have : b.cells.map (ren1 σ) = b.cells := (List.map_congr_left (g := id) fun c hc => ren1_old hσ (hb c hc)).trans (by simp)
  rw [this]

section
variable {s2 : Nat → Prop} {g2 g' : Heap} {n : Nat} {v' : Value}

/-- Written blocks, nothing new. -/
theorem fin_w {v : Value} {r : List Nat} {j : Nat} {w : List (Nat × Blk)} (hv : v' = v) (hsv : SVT s2 v) (hdom : ∀ i, i ∈ w.map (·.1) → (g2 i).isSome = true) (hw : ∀ i, i ∈ w.map (·.1) → ∃ b, setAll g2 w i = some b ∧ g' i = some b)
    (hsvw : ∀ p ∈ w, ∀ c ∈ p.2.cells, SV1 s2 c) (hold : ∀ i b, i ∉ w.map (·.1) → g2 i = some b → g' i = some b) :
    Abs.Fin { v := v, r := r, w := w, j := j } [] s2 g2 n g' v' := by
  have hσ : sig ({ v := v, r := r, w := w, j := j } : Eff) [] = fun i => i := funext fun i => by unfold sig; split <;> simp
  refine ⟨rfl, by simp, by simp, by rw [hσ, renT_id]; exact hv, by simp, fun i hi => ?_, hdom, hold, SVT.imp (fun _ => .inl) hsv, by simp, fun p hp c hc => SV1.imp (fun _ => .inl) (hsvw p hp c hc)⟩
  obtain ⟨b, h1, h2⟩ := hw i hi
  exact ⟨b, h1, by rw [hσ, renB_id]; exact h2⟩

/-- One written block, nothing new. -/
theorem fin_w1 {v : Value} {r : List Nat} {j p : Nat} {b : Blk} (hv : v' = v) (hsv : SVT s2 v) (hdom : (g2 p).isSome = true) (hw : g' p = some b) (hsvw : ∀ c ∈ b.cells, SV1 s2 c) (hold : ∀ i b, i ≠ p → g2 i = some b → g' i = some b) :
    Abs.Fin { v := v, r := r, w := [(p, b)], j := j } [] s2 g2 n g' v' := by
  refine fin_w hv hsv (fun i hi => ?_) (fun i hi => ?_) (fun q hq => ?_) (fun i b' hi => hold i b' ?_)
  · simp at hi; subst hi; exact hdom
  · simp at hi; subst hi; exact ⟨b, by simp [setAll], hw⟩
  · simp at hq; subst hq; exact hsvw
  · simpa using hi

/-- Written blocks and a new one of plain cells. -/
theorem fin_wa {v : Value} {r : List Nat} {j k : Nat} {w : List (Nat × Blk)} {e : TypeId} {cs : List Value} (hv : v' = renT (fun i => if i = j then k else i) v) (hsv : SVT (fun i => s2 i ∨ i = j) v) (hk : n ≤ k) (hgk : g' k = some ⟨false, e, cs⟩) (hp : ∀ c ∈ cs, plain c = true)
    (hj : ¬ s2 j) (hdom : ∀ i, i ∈ w.map (·.1) → (g2 i).isSome = true) (hw : ∀ i, i ∈ w.map (·.1) → ∃ b, setAll g2 w i = some b ∧ g' i = some (renB (fun i => if i = j then k else i) b)) (hsvw : ∀ p ∈ w, ∀ c ∈ p.2.cells, SV1 (fun i => s2 i ∨ i = j) c) (hold : ∀ i b, i ∉ w.map (·.1) → g2 i = some b → g' i = some b) :
    Abs.Fin { v := v, r := r, w := w, j := j, a := [⟨false, e, cs⟩] } [k] s2 g2 n g' v' := by
  have hsig : (sig ({ v := v, r := r, w := w, j := j, a := [⟨false, e, cs⟩] } : Eff) [k]) = fun i => if i = j then k else i := by
    funext i
    unfold sig
    by_cases h : i = j
    · subst h; simp
    · rw [if_neg h]
      show (if j ≤ i then _ else i) = i
      split
      · have : i - j ≠ 0 := by omega
        simp [this]
      · rfl
  have hup : ∀ i, (s2 i ∨ i = j) → (({ v := v, r := r, w := w, j := j, a := [⟨false, e, cs⟩] } : Eff).sn s2) i := fun i hi => by
    rcases hi with hi | rfl
    · exact .inl hi
    · exact .inr ⟨Nat.le_refl _, by simp⟩
  refine ⟨rfl, by simpa using hk, by simp, by rw [hsig]; exact hv, fun i b hi => ?_, fun i hi => ?_, hdom, hold, SVT.imp hup hsv, ?_, fun p hp c hc => SV1.imp hup (hsvw p hp c hc)⟩
  · cases i with
    | zero => simp at hi; subst hi; exact ⟨k, rfl, by rw [hgk, renB_plain hp]⟩
    | succ i => simp at hi
  · obtain ⟨b, h1, h2⟩ := hw i hi
    exact ⟨b, h1, by rw [hsig]; exact h2⟩
  · intro b hb c hc
    simp at hb
    subst hb
    exact SV1_plain (hp c hc)

/-- One written block whose cells are old, and a new one of plain cells. -/
theorem fin_wa1 {v : Value} {r : List Nat} {j k p : Nat} {b : Blk} {e : TypeId} {cs : List Value} (hv : v' = renT (fun i => if i = j then k else i) v) (hsv : SVT (fun i => s2 i ∨ i = j) v) (hk : n ≤ k) (hgk : g' k = some ⟨false, e, cs⟩) (hp : ∀ c ∈ cs, plain c = true)
    (hj : ¬ s2 j) (hdom : (g2 p).isSome = true) (hw : g' p = some b) (hsvw : ∀ c ∈ b.cells, SV1 s2 c) (hold : ∀ i b, i ≠ p → g2 i = some b → g' i = some b) :
    Abs.Fin { v := v, r := r, w := [(p, b)], j := j, a := [⟨false, e, cs⟩] } [k] s2 g2 n g' v' := by
  refine fin_wa hv hsv hk hgk hp hj (fun i hi => ?_) (fun i hi => ?_) (fun q hq c hc => ?_) (fun i b' hi => hold i b' ?_)
  · simp at hi; subst hi; exact hdom
  · simp at hi; subst hi
    refine ⟨b, by simp [setAll], ?_⟩
    rw [renB_old (s := s2) (fun i hi => if_neg (fun (e : i = j) => hj (by rw [← e]; exact hi))) hsvw]
    exact hw
  · simp at hq; subst hq; exact SV1.imp (fun _ => .inl) (hsvw c hc)
  · simpa using hi
end

/-- A part of a slice. -/
def slV (v : Value) (l k : Nat) : Value := match v with
  | .slice none _ _ => .slice none 0 0
  | .slice (some a) _ esz => if l = k then .slice (some ⟨0, 0, none⟩) 0 esz else .slice (some { a with off := a.off + l * esz }) (k - l) esz
  | v => v

theorem src_slV {P : Program} {g : Heap} {v : Value} {m : Nat} {cs : List Value} {T e : TypeId} (h : Src g v 1 m cs) (ht : P.underlying T = some (.slice e)) (hs : tsize P e = some 1) (lo hi : Option Value) (l k : Nat)
    (hl : boundOf lo 0 = some (l : Int)) (hh : boundOf hi (m : Int) = some (k : Int)) (h1 : l ≤ k) (h2 : k ≤ m) :
    stepSlice P T v lo hi = some { v := slV v l k } ∧ Src g (slV v l k) 1 (k - l) ((cs.drop l).take (k - l)) ∧ (∀ i ∈ srcBlk (slV v l k), i ∈ srcBlk v) ∧ ∀ s, SV1 s v → SV1 s (slV v l k) := by
  obtain ⟨v', e1, e2, e3, e4⟩ := h.slice (P := P) ht hs lo hi l k hl hh h1 h2
  have hv : v' = slV v l k := by
    rcases h with ⟨rfl, rfl, rfl⟩ | ⟨a, rfl, rfl, rfl⟩ | ⟨a, b, rfl, h0, hb, hcs, hle⟩
    · simp only [stepSlice, ht] at e1
      rw [hh, hl] at e1
      simp only [hs] at e1
      split at e1
      · split at e1 <;> cases e1; rfl
      · cases e1
    · have : l = 0 := by omega
      have : k = 0 := by omega
      subst l k
      simp only [stepSlice, ht] at e1
      rw [hh, hl] at e1
      simp [hs] at e1
      simp [slV, e1]
    · simp only [stepSlice, ht] at e1
      rw [hh, hl] at e1
      simp only [hs, if_true] at e1
      rw [if_pos (by omega)] at e1
      by_cases e0 : l = k
      · subst e0
        simp at e1
        simp [slV, e1]
      · rw [if_neg (by omega)] at e1
        simp only [Option.some.injEq] at e1
        have := congrArg Eff.v e1
        simp only [Int.toNat_natCast] at this
        rw [← this, slV, if_neg e0]
        congr 1
        omega
  subst hv
  refine ⟨e1, by simpa using e2, e3, fun s hsv => ?_⟩
  have hsh : ∀ x, (∃ a m e, x = Value.slice a m e) → SVT s x = SV1 s x := by
    rintro x ⟨a, m, e, rfl⟩; rfl
  have := e4 s
  obtain ⟨a1, q1, hv1⟩ := h.shape
  obtain ⟨a2, q2, hv2⟩ := e2.shape
  rw [hsh _ ⟨_, _, _, hv1⟩, hsh _ ⟨_, _, _, hv2⟩] at this
  exact this hsv
end Go.Proofs.Ytahinegnblankaa
