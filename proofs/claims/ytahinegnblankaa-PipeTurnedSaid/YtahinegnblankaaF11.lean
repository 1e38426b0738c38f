import Derived.Test.YtahinegnblankaaF8
import Derived.Laws.Externs
namespace Go.Proofs.Ytahinegnblankaa
open Go Abs Go.RowKit
set_option linter.unusedSimpArgs false
set_option linter.unusedVariables false

/-- Where a byte first stands. -/
def idx : List Nat → Nat → Nat
  | [], _ => 0
  | x :: l, c => if x = c then 0 else idx l c + 1

theorem idx_lt {l : List Nat} {c : Nat} (h : c ∈ l) : idx l c < l.length := by
  induction l with
  | nil => simp at h
  | cons x l ih =>
    rw [idx]
    split
    · simp
    · rename_i hx
      have := ih (by
        rcases List.mem_cons.1 h with h | h
        · exact absurd h.symm hx
        · exact h)
      simp; omega

theorem byt_cons (x : Nat) (l : List Nat) (i : Nat) : byt (x :: l) (i + 1) = byt l i := by simp [byt]
theorem byt_zero (x : Nat) (l : List Nat) : byt (x :: l) 0 = x := by simp [byt]

theorem idx_byt {l : List Nat} {c : Nat} (h : c ∈ l) : byt l (idx l c) = c := by
  induction l with
  | nil => simp at h
  | cons x l ih =>
    rw [idx]
    split
    · rename_i e; rw [byt_zero, e]
    · rename_i hx
      rw [byt_cons]
      exact ih (by
        rcases List.mem_cons.1 h with h | h
        · exact absurd h.symm hx
        · exact h)

theorem idx_before {l : List Nat} {c : Nat} : ∀ {i : Nat}, i < idx l c → byt l i ≠ c := by
  induction l with
  | nil => intro i h; simp [idx] at h
  | cons x l ih =>
    intro i h
    rw [idx] at h
    split at h
    · omega
    · rename_i hx
      cases i with
      | zero => rw [byt_zero]; exact hx
      | succ i => rw [byt_cons]; exact ih (by omega)

theorem run_load_bytes {P : Program} {w : World} : ∀ (l : List Nat) (a : Addr) (acc : ByteArray), (∀ (j : Nat) (x : Nat), l[j]? = some x → w.cell? (a.add j) = some (.int .u8 (x : Int))) →
    ∃ b : ByteArray, (Extern.Bytes.loadBytes a l.length acc).run P w = .ok b w ∧ b.data.toList = acc.data.toList ++ l.map UInt8.ofNat := by
  intro l
  induction l with
  | nil => intro a acc _; exact ⟨acc, by simp [Extern.Bytes.loadBytes], by simp⟩
  | cons x l ih =>
    intro a acc h
    have h0 := h 0 x rfl
    have h00 : w.cell? a = some (.int .u8 (x : Int)) := by simpa [Addr.add] using h0
    obtain ⟨b, hb, hd⟩ := ih (a.add 1) (acc.push (x : Int).toNat.toUInt8) (fun j y hy => by
      have := h (j + 1) y (by simpa using hy)
      rw [show (a.add 1).add j = a.add (j + 1) by
        have : ∀ a : Addr, a.spot = none → (a.add 1).add j = a.add (j + 1) := fun a ha => by rw [add_plain ha, add_plain ha, add_plain rfl]; simp; omega
        exact this a (cell_plain (by simpa using h0)).1]
      exact this)
    refine ⟨b, ?_, ?_⟩
    · simp only [List.length_cons, Extern.Bytes.loadBytes, Sem.run_bind, run_load, h00, Result.andThen_ok]
      exact hb
    · rw [hd]
      simp [ByteArray.data_push]

theorem find_idx {l : List Nat} {c : Nat} (b : ByteArray) (hb : b.data.toList = l.map UInt8.ofNat) (hl : ∀ x ∈ l, x < 256) (hc : c ∈ l) : (List.range b.size).find? (fun i => b[i]! == c.toUInt8) = some (idx l c) := by
  have hsz : b.size = l.length := by
    have := congrArg List.length hb
    simpa using this
  have hlt := idx_lt hc
  have hget : ∀ i, i < l.length → b[i]! = UInt8.ofNat (byt l i) := by
    intro i hi
    have h1 : b.data.toList[i]? = some (UInt8.ofNat (byt l i)) := by rw [hb]; simp [byt, hi]
    have h2 : b.data[i]? = some (UInt8.ofNat (byt l i)) := by simpa using h1
    have h3 : i < b.size := by omega
    rw [getElem!_pos b i h3]
    have h4 := (Array.getElem?_eq_some_iff.1 h2).2
    rw [← h4]
    rfl
  have hcl := hl c hc
  rw [hsz]
  apply List.find?_eq_some_iff_append.2
  refine ⟨?_, List.range (idx l c), (List.range' (idx l c + 1) (l.length - idx l c - 1)), ?_, ?_⟩
  · rw [hget _ hlt, idx_byt hc]; simp
  · have h1 := List.range'_append_1 (s := 0) (m := idx l c) (n := l.length - idx l c)
    rw [show idx l c + (l.length - idx l c) = (idx l c + (l.length - idx l c - 1)) + 1 by omega] at h1
    have h2 : l.length - idx l c = (l.length - idx l c - 1) + 1 := by omega
    rw [List.range_eq_range', List.range_eq_range']
    have h3 := List.range'_append_1 (s := 0) (m := idx l c) (n := l.length - idx l c)
    rw [show idx l c + (l.length - idx l c) = l.length by omega] at h3
    rw [← h3, h2, List.range'_succ]
    simp
  · intro i hi
    have hi' := List.mem_range.1 hi
    rw [hget i (by omega)]
    have hne := idx_before hi'
    have hbl := byt_lt hl i
    simp only [Bool.not_eq_true', beq_eq_false_iff_ne, ne_eq]
    intro e
    apply hne
    have := congrArg UInt8.toNat e
    simp at this
    omega
end Go.Proofs.Ytahinegnblankaa
