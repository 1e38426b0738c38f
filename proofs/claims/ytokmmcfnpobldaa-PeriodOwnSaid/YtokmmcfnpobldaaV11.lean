import Derived.Test.YtokmmcfnpobldaaV10
import Derived.Test.YtokmmcfnpobldaaAbs14
namespace Go.Proofs.Ytokmmcfnpobldaa
open Go Abs
set_option linter.unusedSimpArgs false
set_option linter.unusedVariables false

theorem wf_u64 {a : Int} (h : (Lit.int .u64 a).wf = true) : ∃ n : Nat, a = n ∧ n < 2 ^ 64 := by
  have h1 : 0 ≤ a ∧ a < 2 ^ 64 := by
    simp [Lit.wf, IntKind.min, IntKind.max, IntKind.signed, IntKind.bits] at h
    omega
  exact ⟨a.toNat, by omega, by omega⟩

theorem wf_u8 {a : Int} (h : (Lit.int .u8 a).wf = true) : ∃ n : Nat, a = n ∧ n < 256 := by
  have h1 : 0 ≤ a ∧ a < 256 := by
    simp [Lit.wf, IntKind.min, IntKind.max, IntKind.signed, IntKind.bits] at h
    omega
  exact ⟨a.toNat, by omega, by omega⟩

theorem row_bytes {w : World} {a : Option Addr} {len cap : Nat} {zs : List Int} (h : Row .u8 w a len cap zs) : ∃ l : List Nat, l.length = len ∧ (∀ x ∈ l, x < 256) ∧ (zs.take len).map (Value.int .u8) = bs l := by
  have hl := (row_in h 0).2.2.2.2
  have hz : ∀ n ∈ zs.take len, ∃ m : Nat, n = m ∧ m < 256 := by
    intro n hn
    rcases h with ⟨_, _, _, rfl⟩ | ⟨x, _, _, _, _, _, h5⟩
    · simp at hn
    · exact wf_u8 (h5 n (List.mem_of_mem_take hn))
  refine ⟨(zs.take len).map Int.toNat, by simpa using hl, ?_, ?_⟩
  · intro x hx
    obtain ⟨n, hn, rfl⟩ := List.mem_map.1 hx
    obtain ⟨m, rfl, hm⟩ := hz n hn
    simpa using hm
  · unfold bs
    rw [List.map_map]
    refine List.map_congr_left fun n hn => ?_
    obtain ⟨m, rfl, hm⟩ := hz n hn
    simp

/-- A row of bytes that came in: what a walk is handed. -/
theorem row_arg {w : World} {a : Option Addr} {len cap : Nat} {zs : List Int} (h : Row .u8 w a len cap zs) : ∃ l : List Nat, (∀ x ∈ l, x < 256) ∧ EntIn w (argE a len 5 (bs l)) ∧ l.length = len ∧
    (∀ (L : List Ent) (i : Nat), L[i]? = some (argE a len 5 (bs l)) → Src (gOf L) (argV i a len 1) 1 l.length (bs l) ∧ ∀ s : Nat → Prop, s i → VV (rOf L) (gOf L) s (argV i a len 1) (.slice a len cap)) := by
  obtain ⟨hE, h1, h2, hn, hl⟩ := row_in h 5
  obtain ⟨l, hl1, hl2, hl3⟩ := row_bytes h
  rw [hl3] at hE hl
  refine ⟨l, hl2, hE, hl1, fun L i hL => ⟨?_, fun s hs => argV_VV hL hs (by simpa using hl) h1 h2 hn hE⟩⟩
  rw [hl1]
  exact argV_src hL (by simpa using hl) (fun e => (hn e).1)
end Go.Proofs.Ytokmmcfnpobldaa
