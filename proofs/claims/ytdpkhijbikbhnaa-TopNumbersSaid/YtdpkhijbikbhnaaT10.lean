import Derived.Test.YtdpkhijbikbhnaaT9
namespace Go.Proofs.Ytdpkhijbikbhnaa
open Go Abs Plain
set_option linter.unusedSimpArgs false
set_option linter.unusedVariables false

theorem srcL {g : Heap} {v : Value} {l : List Nat} (h : Src g v 1 l.length (ints l)) : Src g v 1 (ints l).length (ints l) := by rw [List.length_map]; exact h
theorem ints_drop (l : List Nat) (i k : Nat) : ((ints l).drop i).take k = ints ((l.drop i).take k) := by simp [ints]
/-- A part of a row of numbers. -/
theorem sliceN {g : Heap} {v : Value} {l : List Nat} (h : Src g v 1 l.length (ints l)) (lo hi : Option Value) (a b : Nat) (hl : boundOf lo 0 = some (a : Int)) (hh : boundOf hi (l.length : Int) = some (b : Int)) (h1 : a ≤ b) (h2 : b ≤ l.length) :
    stepSlice Try.prog 22 v lo hi = some { v := slV v a b } ∧ Src g (slV v a b) 1 ((l.drop a).take (b - a)).length (ints ((l.drop a).take (b - a))) ∧ ∀ i ∈ srcBlk (slV v a b), i ∈ srcBlk v := by
  obtain ⟨e1, e2, e3, _⟩ := src_slV (P := Try.prog) h Try.underlying22 tsize3 lo hi a b hl hh h1 h2
  refine ⟨e1, ?_, e3⟩
  rw [ints_drop] at e2
  have : ((l.drop a).take (b - a)).length = b - a := by simp; omega
  rw [this]; exact e2
theorem sliceLo {g : Heap} {v : Value} {l : List Nat} (h : Src g v 1 l.length (ints l)) {a : Nat} (ha : a ≤ l.length) :
    stepSlice Try.prog 22 v (some (.int .i64 (a : Int))) none = some { v := slV v a l.length } ∧ Src g (slV v a l.length) 1 (l.drop a).length (ints (l.drop a)) ∧ ∀ i ∈ srcBlk (slV v a l.length), i ∈ srcBlk v := by
  have := sliceN h (some (.int .i64 (a : Int))) none a l.length (by simp [boundOf]) (by simp [boundOf]) ha (Nat.le_refl _)
  rwa [List.take_of_length_le (by simp)] at this
theorem sliceHi {g : Heap} {v : Value} {l : List Nat} (h : Src g v 1 l.length (ints l)) {b : Nat} (hb : b ≤ l.length) :
    stepSlice Try.prog 22 v none (some (.int .i64 (b : Int))) = some { v := slV v 0 b } ∧ Src g (slV v 0 b) 1 (l.take b).length (ints (l.take b)) ∧ ∀ i ∈ srcBlk (slV v 0 b), i ∈ srcBlk v := by
  have := sliceN h none (some (.int .i64 (b : Int))) 0 b (by simp [boundOf]) (by simp [boundOf]) (Nat.zero_le _) hb
  simpa using this
theorem OwnB.toOwn {e : TypeId} {g : Heap} {v : Value} {l : List Value} {k n n' : Nat} (h : OwnB e g v l k) (h0 : l.length ≠ 0) (h1 : n ≤ k) (h2 : k < n') : Own e g v l n n' :=
  ⟨some k, .inr ⟨k, rfl, h.1, h.2, by simp⟩, fun q hq => by cases hq; exact ⟨h1, h2, h0⟩⟩

theorem ordL_len (s : List Nat) : ∀ i, (ordL s i).length = i
  | 0 => rfl
  | i + 1 => by
    have ih := ordL_len s i
    have := ipos_le s (ordL s i) i (ordL s i).length
    rw [ordL, insL]
    simp
    omega
theorem ordL_mem {s : List Nat} {i : Nat} (hi : i ≤ s.length) {k : Nat} (hk : k < i) : byt (ordL s i) k < i := by
  have hl := ordL_len s i
  have hm : byt (ordL s i) k ∈ ordL s i := by rw [byt_eq (by omega)]; exact List.getElem_mem (by omega)
  simpa using (ordL_ok i hi).1.mem_iff.1 hm

end Go.Proofs.Ytdpkhijbikbhnaa
