/-
  The abstract machine, part 15: cells of an owned slice, written.
-/
import Derived.Test.YtokmmcfnpobldaaAbs14
namespace Go.Proofs.Ytokmmcfnpobldaa.Abs
open Go Go.RowKit

theorem own_at {P : Program} {T e : TypeId} {g : Heap} {k : Nat} {l : List Value} (h : g k = some ⟨false, e, l⟩) {i : Nat} {c : Value} (hc : l[i]? = some c) (ht : P.underlying T = some (.slice e)) (hs : tsize P e = some 1) (ha : aggT P e = some false) :
    (∀ q, stepIndex P T (.slice (some ⟨k, 0, some l.length⟩) l.length 1) (.int q (i : Int)) = some { v := .pointer (some ⟨k, i, some l.length⟩) }) ∧
    stepLoad P e (.pointer (some ⟨k, i, some l.length⟩)) g = some { v := c, r := [k] } ∧
    ∀ q x, stepStore P e (.pointer (some ⟨k, i, some l.length⟩)) (.int q x) g = some { v := undef, r := [k], w := [(k, ⟨false, e, l.set i (.int q x)⟩)] } := by
  have hlt := (List.getElem?_eq_some_iff.1 hc).1
  have hr : rd g ⟨k, i, some l.length⟩ = some ⟨false, e, l⟩ := by simp [rd, h]
  refine ⟨fun q => ?_, ?_, fun q x => ?_⟩
  · simp [stepIndex, ht, hs, hlt]
  · simp [stepLoad, hr, ha, hc]
  · simp [stepStore, hr, isTup, hs, Value.cells, putAll]
    omega
end Go.Proofs.Ytokmmcfnpobldaa.Abs
