import Derived.Test.YtokmmcfnpobldaaV4
import Derived.Laws.Strings
namespace Go.Proofs.Ytokmmcfnpobldaa
open Go Abs
set_option linter.unusedSimpArgs false
set_option linter.unusedVariables false

/-- The string of bytes. -/
def nstr (l : List Nat) : ByteArray := bstr (l.map fun (b : Nat) => (b : Int))

theorem bs_ints (l : List Nat) : bs l = (l.map fun (b : Nat) => (b : Int)).map (Value.int .u8) := by simp

theorem foldl_push (l : List Int) (a : ByteArray) : (l.foldl (fun r n => r.push (UInt8.ofNat n.toNat)) a).data.toList = a.data.toList ++ l.map fun n => UInt8.ofNat n.toNat := by
  induction l generalizing a with
  | nil => simp
  | cons x l ih =>
    rw [List.foldl_cons, ih]
    simp [ByteArray.data_push]

theorem nstr_data (l : List Nat) : (nstr l).data.toList = l.map UInt8.ofNat := by
  rw [nstr, bstr, foldl_push, show (ByteArray.empty).data.toList = [] from rfl, List.nil_append, List.map_map]
  rfl

theorem nstr_inj {a b : List Nat} (ha : ∀ x ∈ a, x < 256) (hb : ∀ x ∈ b, x < 256) (h : nstr a = nstr b) : a = b := by
  have h1 := congrArg (fun s : ByteArray => s.data.toList.map UInt8.toNat) h
  simp only [nstr_data, List.map_map] at h1
  have key : ∀ l : List Nat, (∀ x ∈ l, x < 256) → l.map (UInt8.toNat ∘ UInt8.ofNat) = l := by
    intro l hl
    refine (List.map_congr_left (g := id) fun x hx => ?_).trans (by simp)
    simp [Nat.mod_eq_of_lt (hl x hx)]
  rwa [key a ha, key b hb] at h1

theorem toList_inj {a b : ByteArray} (h : a.toList = b.toList) : a = b := by
  rw [ByteArray.toList_eq, ByteArray.toList_eq] at h
  exact ByteArray.ext (Array.toList_inj.mp h)

theorem nstr_beq {a b : List Nat} (ha : ∀ x ∈ a, x < 256) (hb : ∀ x ∈ b, x < 256) : ((nstr a).toList == (nstr b).toList) = decide (a = b) := by
  by_cases h : a = b
  · subst h; simp
  · rw [decide_eq_false h, beq_eq_false_iff_ne]
    exact fun e => h (nstr_inj ha hb (toList_inj e))
end Go.Proofs.Ytokmmcfnpobldaa
