import Derived.Test.YtahinegnblankaaP32
import Derived.ChangeSlices
import Derived.DataReads
namespace Go.Proofs.Ytahinegnblankaa.Abs
open Go Go.RowKit
set_option linter.unusedSimpArgs false
set_option linter.unusedVariables false

/-- A row of structs of m ints that came in. -/
def RowS (m : Nat) (w : World) (a : Option Addr) (len cap : Nat) (zs : List Int) : Prop :=
  (a = none ∧ len = 0 ∧ cap = 0 ∧ zs = []) ∨
  ∃ x, a = some x ∧ len ≤ cap ∧ cap ≤ maxLen ∧ zs.length = len * m ∧ (∀ i, i < zs.length → w.cell? (x.add i) = some (.int .i64 (zs.getD i 0))) ∧ ∀ n ∈ zs, (Lit.int .i64 n).wf = true

theorem trod_int {H : Type} {enc : TypeId × Value → H} {P : Program} {w : World} {base : Nat} {sp : Nat → Bool} {held : Bool} {fuel : Nat} {t : TypeId} {k : IntKind} {cs : List Value} {y : DataW H × List MemPlace} (ht : P.underlying t = some (.int k))
    (h : DataW.trod enc P w base sp held fuel t cs = some y) : ∃ n, cs = [.int k n] ∧ (Lit.int k n).wf = true := by
  cases fuel with
  | zero => simp [DataW.trod] at h
  | succ f =>
    unfold DataW.trod at h
    rw [ht] at h
    split at h <;> simp_all

theorem trod_struct {H : Type} {enc : TypeId × Value → H} {P : Program} {w : World} {base : Nat} {sp : Nat → Bool} {held : Bool} {fuel : Nat} {t : TypeId} {fs : Array Field} {cs : List Value} {y : DataW H × List MemPlace} (ht : P.underlying t = some (.struct fs))
    (h : DataW.trod enc P w base sp held fuel t cs = some y) : ∃ n, ∀ (q : Nat) (f : Field), fs[q]? = some f → ∃ z, DataW.trod enc P w base sp held n f.type ((cs.drop f.offset).take (P.cellsOf f.type)) = some z := by
  cases fuel with
  | zero => simp [DataW.trod] at h
  | succ n =>
    unfold DataW.trod at h
    rw [ht] at h
    split at h <;> first | (simp at *; done) | skip
    rename_i heq
    simp only [Option.some.injEq, TypeDesc.struct.injEq] at heq
    subst heq
    split at h
    · simp only [Option.map_eq_some_iff] at h
      obtain ⟨xs, hx, _⟩ := h
      refine ⟨n, fun q f hq => ?_⟩
      have hq' : fs.toList[q]? = some f := by simpa using hq
      have h1 := mapM_some_get hx q f hq'
      have hlen := mapM_some_length hx
      have hlt : q < xs.length := by rw [hlen]; exact (List.getElem?_eq_some_iff.1 hq').1
      exact ⟨xs[q], by rw [h1, List.getElem?_eq_getElem hlt]⟩
    · cases h

theorem open_structs {H : Type} {enc : TypeId × Value → H} {P : Program} {w : World} {base : Nat} {sp : Nat → Bool} {held : Bool} {fuel m : Nat} {t e : TypeId} {fs : Array Field} {a : Option Addr} {len cap : Nat} {x : DataW H × List MemPlace} (ht : P.underlying t = some (.slice e))
    (he : P.underlying e = some (.struct fs)) (hc : P.cellsOf e = m) (hm : 0 < m) (hf : ∀ q, q < m → ∃ f : Field, fs[q]? = some f ∧ f.offset = q ∧ P.underlying f.type = some (.int .i64) ∧ P.cellsOf f.type = 1)
    (h : DataW.trod enc P w base sp held fuel t [.slice a len cap] = some x) : ∃ zs, RowS m w a len cap zs := by
  rcases DataW.trod_slice ht h with ⟨h0, _⟩ | ⟨x0, l0, c0, elems, rest, n, _, hcs, _, _, hl, hcm, hlen, hel, _, _⟩
  · simp at h0
    obtain ⟨rfl, rfl, rfl⟩ := h0
    exact ⟨[], .inl ⟨rfl, rfl, rfl, rfl⟩⟩
  · simp at hcs
    obtain ⟨rfl, rfl, rfl⟩ := hcs
    have key : ∀ i q, i < len → q < m → ∃ z, w.cell? ((x0.add (i * m)).add q) = some (.int .i64 z) ∧ (Lit.int .i64 z).wf = true := by
      intro i q hi hq
      have h1 := hel i hi
      rw [List.getElem?_eq_getElem (by omega), hc] at h1
      simp only [Option.bind_eq_some_iff] at h1
      obtain ⟨cs, hcells, htr⟩ := h1
      obtain ⟨n', hn⟩ := trod_struct he htr
      obtain ⟨f, hf1, hf2, hf3, hf4⟩ := hf q hq
      obtain ⟨z, hz⟩ := hn q f hf1
      obtain ⟨v, hv, hwf⟩ := trod_int hf3 hz
      obtain ⟨_, hcl, hcell⟩ := World.cells?_some hcells
      refine ⟨v, ?_, hwf⟩
      rw [hcell q hq]
      rw [hf2, hf4] at hv
      have := congrArg (fun l => l[0]?) hv
      simp at this
      simpa using this
    refine ⟨(List.range (len * m)).map fun j => match w.cell? (x0.add j) with | some (.int _ z) => z | _ => 0, .inr ⟨x0, rfl, hl, hcm, by simp, ?_, ?_⟩⟩
    all_goals
      have all : ∀ j, j < len * m → ∃ z, w.cell? (x0.add j) = some (.int .i64 z) ∧ (Lit.int .i64 z).wf = true := by
        intro j hj
        have hi : j / m < len := by rw [Nat.div_lt_iff_lt_mul hm]; exact hj
        have h0 : 0 < len := Nat.lt_of_le_of_lt (Nat.zero_le _) hi
        have hsp : x0.spot = none := by
          obtain ⟨z, hz, _⟩ := key 0 0 h0 hm
          have e : (x0.add (0 * m)).add 0 = x0.add 0 := by simp [Addr.add]
          rw [e] at hz
          exact (cell_plain hz).1
        obtain ⟨z, hz, hw⟩ := key (j / m) (j % m) hi (Nat.mod_lt _ hm)
        refine ⟨z, ?_, hw⟩
        rw [add_plain hsp] at hz ⊢
        rw [add_plain rfl] at hz
        have : x0.off + j / m * m + j % m = x0.off + j := by have := Nat.div_add_mod j m; rw [Nat.mul_comm] at this; omega
        simpa [this] using hz
    · intro i hi
      simp at hi
      obtain ⟨z, hz, _⟩ := all i hi
      rw [hz]
      simp [List.getD, hi, hz]
    · intro v hv
      simp only [List.mem_map, List.mem_range] at hv
      obtain ⟨j, hj, rfl⟩ := hv
      obtain ⟨z, hz, hw⟩ := all j hj
      rw [hz]
      exact hw

/-- What a walk is handed. -/
theorem row_argS {m : Nat} (hm : 0 < m) {w : World} {a : Option Addr} {len cap : Nat} {zs : List Int} (h : RowS m w a len cap zs) (e : TypeId) : zs.length = len * m ∧ EntIn w (argE a len e (zs.map (Value.int .i64))) ∧
    (∀ (L : List Ent) (i : Nat), L[i]? = some (argE a len e (zs.map (Value.int .i64))) → Src (gOf L) (argV i a len m) m len (zs.map (Value.int .i64)) ∧ ∀ s : Nat → Prop, s i → VV (rOf L) (gOf L) s (argV i a len m) (.slice a len cap)) ∧ ∀ x ∈ zs, -9223372036854775808 ≤ x ∧ x ≤ 9223372036854775807 := by
  rcases h with ⟨rfl, rfl, rfl, rfl⟩ | ⟨x, rfl, h1, h2, h3, h4, h5⟩
  · refine ⟨by simp, trivial, fun L i hL => ⟨argV_src hL (by simp) (fun _ => rfl), fun s hs => argV_VV (e := e) hL hs (by simp) (Nat.le_refl _) (Nat.zero_le _) (fun _ => ⟨rfl, rfl⟩) (w := w) trivial⟩, by simp⟩
  · have hE : EntIn w (argE (some x) len e (zs.map (Value.int .i64))) := by
      unfold argE
      by_cases h0 : len = 0
      · simp only [h0, if_true]; trivial
      · simp only [h0, if_false]
        refine ⟨fun hh => ?_, fun c hc => ?_, fun i c hc => ?_⟩
        · simp only [List.map_eq_nil_iff] at hh
          rw [hh] at h3
          have := Nat.mul_pos (Nat.pos_of_ne_zero h0) hm
          simp at h3
          omega
        · obtain ⟨z, _, rfl⟩ := List.mem_map.1 hc; rfl
        · simp only [List.getElem?_map, Option.map_eq_some_iff] at hc
          obtain ⟨z, hz, rfl⟩ := hc
          obtain ⟨hi, e⟩ := List.getElem?_eq_some_iff.1 hz
          rw [h4 i hi]
          simp [List.getD, List.getElem?_eq_getElem hi, e]
    refine ⟨h3, hE, fun L i hL => ⟨argV_src hL (by simpa using h3) (fun e => by cases e), fun s hs => argV_VV hL hs (by simpa using h3) h1 h2 (fun e => by cases e) hE⟩, fun z hz => ?_⟩
    have := h5 z hz
    simp [Lit.wf, IntKind.min, IntKind.max, IntKind.signed, IntKind.bits] at this
    omega

/-- Field f of element i, a struct of m ints: its address and what is read there. -/
theorem Src.atS {P : Program} {g : Heap} {v : Value} {m len : Nat} {cs : List Value} {T S I : TypeId} (h : Src g v m len cs) {i f : Nat} {c : Value} (hi : i < len) (hf : f < m) (hc : cs[i * m + f]? = some c) (ht : P.underlying T = some (.slice S)) (hs : tsize P S = some m) (ho : foff P S f = some f) (ha : aggT P I = some false) :
    ∃ p q, (∀ k, stepIndex P T v (.int k (i : Int)) = some { v := .pointer (some p) }) ∧ stepField P S (.pointer (some p)) f = some { v := .pointer (some q) } ∧ stepLoad P I (.pointer (some q)) g = some { v := c, r := [q.block] } ∧ q.block ∈ srcBlk v := by
  rcases h with ⟨_, rfl, _⟩ | ⟨a, _, rfl, _⟩ | ⟨a, b, rfl, h0, hb, hcs, hle⟩
  · omega
  · omega
  · obtain ⟨h1, h2⟩ := rd_spec hb
    refine ⟨{ a with off := a.off + i * m }, { a with off := a.off + i * m + f }, fun k => ?_, by simp [stepField, ho], ?_, by simp [srcBlk]; omega⟩
    · simp [stepIndex, ht, h1, hs, hi]
    · have hb' : rd g { a with off := a.off + i * m + f } = some b := hb
      have hcell : b.cells[a.off + i * m + f]? = some c := by
        rw [hcs, List.getElem?_take] at hc
        split at hc
        · rw [List.getElem?_drop] at hc
          rw [← hc]; congr 1; omega
        · cases hc
      simp [stepLoad, hb', ha, hcell]
end Go.Proofs.Ytahinegnblankaa.Abs
