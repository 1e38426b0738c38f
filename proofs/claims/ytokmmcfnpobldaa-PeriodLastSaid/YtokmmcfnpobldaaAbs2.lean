/-
  The abstract machine, part 2: what one operation does, as a plain function; and that the model's operation does it.
-/
import Derived.Test.YtokmmcfnpobldaaAbs1
import Derived.Laws.Small
import Derived.Laws.Pointers
import Derived.Laws.Slices
import Derived.Laws.Tables
import Derived.Laws.AppendOwn
import Derived.Laws.AppendOwnNone
import Derived.Lib.SliceRun
import Derived.WalkSpells
namespace Go.Proofs.Ytokmmcfnpobldaa.Abs
open Go Go.RowKit

/-- What an operation does: its value; the blocks it looks at; the blocks it writes, as they are behind it; new blocks, numbered from j on. -/
structure Eff where
  v : Value
  r : List Nat := []
  w : List (Nat × Blk) := []
  j : Nat := 0
  a : List Blk := []

def setAll (g : Heap) : List (Nat × Blk) → Heap
  | [] => g
  | (i, b) :: l => setAll (upd g i (some b)) l

def addAll (g : Heap) (j : Nat) : List Blk → Heap
  | [] => g
  | b :: l => addAll (upd g j (some b)) (j + 1) l

def Eff.ap (f : Eff) (g : Heap) : Heap := addAll (setAll g f.w) f.j f.a
def Eff.sn (f : Eff) (s : Nat → Prop) : Nat → Prop := fun i => s i ∨ (f.j ≤ i ∧ i < f.j + f.a.length)
def Eff.fp (f : Eff) : List Nat := f.r ++ f.w.map (·.1)

def VV (ρ : Ren) (g : Heap) (s : Nat → Prop) (v v' : Value) : Prop := VT ρ g v v' ∧ SVT s v

def OpSim (P : Program) (o : Oper) (ev : Operand → Value) (g : Heap) (s : Nat → Prop) (f : Eff) : Prop :=
  ∀ (base : Nat) (w0 : World) (ρ : Ren) (w : World) (a : Act) (K : Act → World → Prop) (Q : Exit → Act → World → Prop), HR base w0 ρ g s w →
    (∀ x ∈ o.op.operands, VV ρ g s (ev x) (a.eval x)) →
    (∀ ρ' w' v', HR base w0 ρ' (f.ap g) (f.sn s) w' → Mono ρ g s ρ' (f.ap g) → VV ρ' (f.ap g) (f.sn s) f.v v' → K (a.put o.dst v') w') → o.wp P a w K Q

theorem HR.sn0 {base : Nat} {w0 : World} {ρ : Ren} {g : Heap} {s : Nat → Prop} {w : World} (h : HR base w0 ρ g s w) (f : Eff) : HR base w0 ρ g (f.sn s) w := by
  refine h.seenMore (fun i hi => .inl hi) ?_
  obtain ⟨n, hn⟩ := h.fin
  refine ⟨max n (f.j + f.a.length), fun i hi => ?_⟩
  rcases hi with hi | hi
  · have := hn i hi; omega
  · omega

theorem VV.imp {ρ : Ren} {g : Heap} {s s' : Nat → Prop} {v v' : Value} (h : VV ρ g s v v') (hs : ∀ i, s i → s' i) : VV ρ g s' v v' := ⟨h.1, SVT.imp hs h.2⟩

section
variable {P : Program} {o : Oper} {a : Act} {w : World} {K : Act → World → Prop} {Q : Exit → Act → World → Prop}

theorem wp_of_run {v' : Value} {w' : World} (h : (execOp a.eval o).run P w = .ok (.value v') w') (hk : K (a.put o.dst v') w') : o.wp P a w K Q := by
  unfold Oper.wp
  rw [h]
  exact hk
end

section
variable {P : Program} {o : Oper} {ev : Operand → Value} {g : Heap} {s : Nat → Prop}

/-- An operation that leaves memory alone. -/
theorem sim_pure (r : List Nat) (v : Value) (h : ∀ (base : Nat) (w0 : World) (ρ : Ren) (w : World) (a : Act), HR base w0 ρ g s w →
      (∀ x ∈ o.op.operands, VV ρ g s (ev x) (a.eval x)) → ∃ v', (execOp a.eval o).run P w = .ok (.value v') w ∧ VV ρ g s v v') :
    OpSim P o ev g s { v := v, r := r } := by
  intro base w0 ρ w a K Q hR hv hk
  obtain ⟨v', hr, hvv⟩ := h base w0 ρ w a hR hv
  exact wp_of_run hr (hk ρ w v' (hR.sn0 _) (Mono.refl _ _ _) (hvv.imp fun i hi => .inl hi))
end

/-- A value that names no memory. -/
def plain : Value → Bool
  | .bool _ | .int _ _ | .string _ | .nilFunc | .nilIface | .pointer none => true
  | .slice none l c => l == 0 && c == 0
  | _ => false

theorem VR_plain {ρ : Ren} {g : Heap} {v : Value} (h : plain v = true) : VR ρ g v v := by
  cases v with
  | pointer a => cases a with
    | none => rfl
    | some a => simp [plain] at h
  | slice a l c => cases a with
    | none => simp [plain] at h; obtain ⟨rfl, rfl⟩ := h; exact ⟨rfl, rfl, rfl⟩
    | some a => simp [plain] at h
  | _ => first | rfl | (simp [plain] at h; done)

theorem SV1_plain {s : Nat → Prop} {v : Value} (h : plain v = true) : SV1 s v := by
  cases v with
  | pointer a => cases a with
    | none => exact trivial
    | some a => simp [plain] at h
  | slice a l c => cases a with
    | none => exact trivial
    | some a => simp [plain] at h
  | _ => exact trivial

theorem VV_int {ρ : Ren} {g : Heap} {s : Nat → Prop} {k : IntKind} {n : Int} {v' : Value} : VV ρ g s (.int k n) v' ↔ v' = .int k n := by
  simp [VV, VT, VA, VR, SVT, SVA, SV1]
theorem VV_bool {ρ : Ren} {g : Heap} {s : Nat → Prop} {b : Bool} {v' : Value} : VV ρ g s (.bool b) v' ↔ v' = .bool b := by
  simp [VV, VT, VA, VR, SVT, SVA, SV1]
theorem VV_string {ρ : Ren} {g : Heap} {s : Nat → Prop} {b : ByteArray} {v' : Value} : VV ρ g s (.string b) v' ↔ v' = .string b := by
  simp [VV, VT, VA, VR, SVT, SVA, SV1]
theorem VV_undef {ρ : Ren} {g : Heap} {s : Nat → Prop} : VV ρ g s undef undef := by
  simp [VV, undef, VT, SVT, All2]
theorem VV_func {ρ : Ren} {g : Heap} {s : Nat → Prop} {f : Fn} {x y : Array Value} {v' : Value} : VV ρ g s (.func f x y) v' ↔ v' = .func f x y := by
  simp [VV, VT, VA, VR, SVT, SVA, SV1]
theorem VV_nilptr {ρ : Ren} {g : Heap} {s : Nat → Prop} {v' : Value} : VV ρ g s (.pointer none) v' ↔ v' = .pointer none := by
  simp [VV, VT, VA, VR, SVT, SVA, SV1]
theorem VV_ptr {ρ : Ren} {g : Heap} {s : Nat → Prop} {a : Addr} {v' : Value} : VV ρ g s (.pointer (some a)) v' ↔ VR ρ g (.pointer (some a)) v' ∧ s a.block := by
  simp only [VV, VT, VA, SVT, SVA, SV1]
theorem VV_slice {ρ : Ren} {g : Heap} {s : Nat → Prop} {a : Option Addr} {l c : Nat} {v' : Value} : VV ρ g s (.slice a l c) v' ↔ VR ρ g (.slice a l c) v' ∧ SV1 s (.slice a l c) := by
  simp only [VV, VT, VA, SVT, SVA]
theorem VR_ptr {ρ : Ren} {g : Heap} {a : Addr} {v' : Value} (h : VR ρ g (.pointer (some a)) v') : ∃ ver, a.spot = some ver ∧ ∃ a', v' = .pointer (some a') ∧ ∀ b, g a.block = some b →
      ver ≤ b.cells.length ∧ (b.cells.length = ver → a' = ⟨(ρ a.block).blk, (ρ a.block).off + a.off, none⟩) := h
theorem VR_slice {ρ : Ren} {g : Heap} {a : Addr} {len esz : Nat} {v' : Value} (h : VR ρ g (.slice (some a) len esz) v') : ∃ a' cap', v' = .slice (some a') len cap' ∧ len ≤ cap' ∧ cap' ≤ maxLen ∧ (a.spot = none → len = 0) ∧
      ∀ ver b, a.spot = some ver → g a.block = some b → ver ≤ b.cells.length ∧ (b.cells.length = ver →
        a' = ⟨(ρ a.block).blk, (ρ a.block).off + a.off, none⟩ ∧ a.off + len * esz ≤ ver ∧ (b.ro = false → a.off + cap' * esz = (ρ a.block).K)) := h
theorem VR_nilslice {ρ : Ren} {g : Heap} {len esz : Nat} {v' : Value} (h : VR ρ g (.slice none len esz) v') : v' = .slice none 0 0 ∧ len = 0 ∧ esz = 0 := h

/-- The block that an address names, if the address is alive. -/
def rd (g : Heap) (a : Addr) : Option Blk :=
  match a.spot with
  | some ver => match g a.block with
    | some b => if b.cells.length = ver then some b else none
    | none => none
  | none => none

theorem rd_spec {g : Heap} {a : Addr} {b : Blk} (h : rd g a = some b) : a.spot = some b.cells.length ∧ g a.block = some b := by
  unfold rd at h
  cases hs : a.spot with
  | none => simp [hs] at h
  | some ver =>
    cases hg : g a.block with
    | none => simp [hs, hg] at h
    | some b' =>
      simp [hs, hg] at h
      obtain ⟨h1, rfl⟩ := h
      exact ⟨by rw [h1], rfl⟩

theorem VR_ptr_live {ρ : Ren} {g : Heap} {a : Addr} {b : Blk} {v' : Value} (hb : rd g a = some b) (h : VR ρ g (.pointer (some a)) v') : v' = .pointer (some ⟨(ρ a.block).blk, (ρ a.block).off + a.off, none⟩) := by
  obtain ⟨h1, h2⟩ := rd_spec hb
  obtain ⟨ver, hv, a', rfl, hk⟩ := VR_ptr h
  rw [hv] at h1
  cases h1
  rw [(hk b h2).2 rfl]

theorem VR_slice_live {ρ : Ren} {g : Heap} {a : Addr} {b : Blk} {len esz : Nat} {v' : Value} (hb : rd g a = some b) (h : VR ρ g (.slice (some a) len esz) v') :
    ∃ cap', v' = .slice (some ⟨(ρ a.block).blk, (ρ a.block).off + a.off, none⟩) len cap' ∧ len ≤ cap' ∧ cap' ≤ maxLen ∧ a.off + len * esz ≤ b.cells.length ∧ (b.ro = false → a.off + cap' * esz = (ρ a.block).K) := by
  obtain ⟨h1, h2⟩ := rd_spec hb
  obtain ⟨a', cap', rfl, q1, q2, _, hk⟩ := VR_slice h
  obtain ⟨k1, k2⟩ := hk _ b h1 h2
  obtain ⟨e, k3, k4⟩ := k2 rfl
  exact ⟨cap', by rw [e], q1, q2, k3, k4⟩

theorem HR.cell {base : Nat} {w0 : World} {ρ : Ren} {g : Heap} {s : Nat → Prop} {w : World} (h : HR base w0 ρ g s w) {i : Nat} {b : Blk} (hi : g i = some b) {k : Nat} {c : Value} (hk : b.cells[k]? = some c) :
    ∃ c', w.cell? ⟨(ρ i).blk, (ρ i).off + k, none⟩ = some c' ∧ VR ρ g c c' := by
  cases hr : b.ro with
  | true => exact (h.ro i b hi hr).2 k c hk
  | false =>
    obtain ⟨_, h0, cur, hc, _, hh⟩ := h.own i b hi hr
    obtain ⟨c', hc', hv⟩ := hh k c hk
    exact ⟨c', by rw [h0, Nat.zero_add, cell_of_row w _ k cur _ _ hc]; exact hc', hv⟩

theorem addr_add (b o n : Nat) : (⟨b, o, none⟩ : Addr).add n = ⟨b, o + n, none⟩ := by unfold Addr.add; split <;> simp_all

/-- A stretch of cells, read. -/
theorem HR.cells {base : Nat} {w0 : World} {ρ : Ren} {g : Heap} {s : Nat → Prop} {w : World} (h : HR base w0 ρ g s w) {i : Nat} {b : Blk} (hi : g i = some b) (off n : Nat) (hn : off + n ≤ b.cells.length) :
    ∃ cs : List Value, cs.length = n ∧ (∀ (j : Nat) (v : Value), cs[j]? = some v → w.cell? ((⟨(ρ i).blk, (ρ i).off + off, none⟩ : Addr).add j) = some v) ∧ All2 (VR ρ g) ((b.cells.drop off).take n) cs := by
  induction n generalizing off with
  | zero => exact ⟨[], rfl, by simp, by simp [All2]⟩
  | succ n ih =>
    obtain ⟨cs, h1, h2, h3⟩ := ih (off + 1) (by omega)
    have hlt : off < b.cells.length := by omega
    obtain ⟨c', hc', hv⟩ := h.cell hi (List.getElem?_eq_getElem hlt)
    refine ⟨c' :: cs, by simp [h1], ?_, ?_⟩
    · intro j v hj
      rw [addr_add]
      cases j with
      | zero => simp at hj; subst hj; simpa [Nat.add_assoc] using hc'
      | succ j =>
        simp at hj
        have := h2 j v hj
        rw [addr_add] at this
        rw [← this]
        congr 2
        omega
    · rw [List.drop_eq_getElem_cons hlt, List.take_succ_cons]
      refine ⟨by simp [← h3.1], fun k c hk => ?_⟩
      cases k with
      | zero => simp at hk; subst hk; exact ⟨c', rfl, hv⟩
      | succ k => simp only [List.getElem?_cons_succ] at hk ⊢; exact h3.2 k c hk

theorem run_loadCells_of (P : Program) {w : World} {a : Addr} {cs : List Value} {n : Nat} (hl : cs.length = n) (h : ∀ (j : Nat) (v : Value), cs[j]? = some v → w.cell? (a.add j) = some v) :
    (loadCells a n).run P w = .ok cs.toArray w := by
  rw [← hl]
  exact run_loadCells_list w a cs h

def aggT (P : Program) (t : TypeId) : Option Bool :=
  match P.underlying t with
  | none => none
  | some (.struct _) | some (.array _ _) => some true
  | some _ => some false

def tsize (P : Program) (t : TypeId) : Option Nat := (P.info? t).map (·.size)

theorem run_isAgg_of {P : Program} {t : TypeId} {b : Bool} (h : aggT P t = some b) (w : World) : (isAgg t).run P w = .ok b w := by
  unfold aggT at h
  cases hu : P.underlying t with
  | none => simp [hu] at h
  | some d =>
    cases d <;> simp [hu] at h <;> subst h <;> simp [isAgg, run_underlying hu]

theorem run_sizeOf_of {P : Program} {t : TypeId} {n : Nat} (h : tsize P t = some n) (w : World) : (sizeOf t).run P w = .ok n w := by
  unfold tsize at h
  cases hi : P.info? t with
  | none => simp [hi] at h
  | some i =>
    simp [hi] at h
    subst h
    simp [sizeOf, typeInfo, hi]

def stepLoad (P : Program) (T : TypeId) (x : Value) (g : Heap) : Option Eff :=
  match x with
  | .pointer (some a) => match rd g a with
    | some b => match aggT P T with
      | some true => match tsize P T with
        | some n => if a.off + n ≤ b.cells.length then some { v := .agg ((b.cells.drop a.off).take n).toArray, r := [a.block] } else none
        | none => none
      | some false => match b.cells[a.off]? with
        | some c => some { v := c, r := [a.block] }
        | none => none
      | none => none
    | none => none
  | _ => none

theorem VV_of_VR {ρ : Ren} {g : Heap} {s : Nat → Prop} {c c' : Value} (h : VR ρ g c c') (hs : SV1 s c) : VV ρ g s c c' := by
  cases c <;> first | exact ⟨h, hs⟩ | exact h.elim

section
variable {P : Program} {o : Oper} {ev : Operand → Value} {g : Heap} {s : Nat → Prop} {f : Eff}

theorem sim_load {T : TypeId} {x : Operand} (ho : o.op = .load T x) (h : stepLoad P T (ev x) g = some f) : OpSim P o ev g s f := by
  unfold stepLoad at h
  split at h
  · rename_i a hx
    split at h
    · rename_i b hb
      obtain ⟨hsp, hg⟩ := rd_spec hb
      split at h
      · rename_i hagg
        split at h
        · rename_i n hn
          split at h
          · rename_i hle
            cases h
            refine sim_pure [a.block] _ fun base w0 ρ w act hR hv => ?_
            have hxv := hv x (by simp [ho, Op.operands])
            rw [hx, VV_ptr] at hxv
            have e := VR_ptr_live hb hxv.1
            obtain ⟨cs, h1, h2, h3⟩ := hR.cells hg a.off n hle
            refine ⟨.agg cs.toArray, ?_, ?_⟩
            · simp [execOp, ho, e, Instr.loadAt, Instr.sureAddr, loadVar, run_isAgg_of hagg, run_sizeOf_of hn, run_loadCells_of P h1 h2]
            · refine ⟨⟨_, rfl, by simpa using h3⟩, ?_⟩
              intro c hc
              refine hR.wf _ b hg c ?_
              have : c ∈ (b.cells.drop a.off).take n := by simpa using hc
              exact List.mem_of_mem_drop (List.mem_of_mem_take this)
          · cases h
        · cases h
      · rename_i hagg
        split at h
        · rename_i c hc
          cases h
          refine sim_pure [a.block] _ fun base w0 ρ w act hR hv => ?_
          have hxv := hv x (by simp [ho, Op.operands])
          rw [hx, VV_ptr] at hxv
          have e := VR_ptr_live hb hxv.1
          obtain ⟨c', hc', hvr⟩ := hR.cell hg hc
          refine ⟨c', ?_, VV_of_VR hvr (hR.wf _ b hg c (List.mem_of_getElem? hc))⟩
          simp [execOp, ho, e, Instr.loadAt, Instr.sureAddr, loadVar, run_isAgg_of hagg, hc']
        · cases h
      · cases h
    · cases h
  · cases h

theorem sim_move {x : Operand} (ho : o.op = .move x ∨ o.op = .assign x) : OpSim P o ev g s { v := ev x } := by
  refine sim_pure [] _ fun base w0 ρ w act hR hv => ⟨act.eval x, ?_, hv x ?_⟩
  · rcases ho with ho | ho <;> simp [execOp, ho]
  · rcases ho with ho | ho <;> simp [ho, Op.operands]

def stepPick (c a b : Value) : Option Eff :=
  match c with
  | .bool t => some { v := if t then a else b }
  | _ => none

theorem sim_pick {c x y : Operand} (ho : o.op = .pick c x y) (h : stepPick (ev c) (ev x) (ev y) = some f) : OpSim P o ev g s f := by
  unfold stepPick at h
  split at h
  · rename_i t hc
    cases h
    refine sim_pure [] _ fun base w0 ρ w act hR hv => ?_
    have h0 := hv c (by simp [ho, Op.operands])
    rw [hc, VV_bool] at h0
    refine ⟨if t then act.eval x else act.eval y, ?_, ?_⟩
    · simp [execOp, ho, h0, asBool]
    · cases t
      · exact hv y (by simp [ho, Op.operands])
      · exact hv x (by simp [ho, Op.operands])
  · cases h

def stepNilCheck (x : Value) : Option Eff :=
  match x with
  | .pointer (some a) => some { v := .pointer (some a) }
  | _ => none

theorem sim_nilCheck {x : Operand} (ho : o.op = .nilCheck x) (h : stepNilCheck (ev x) = some f) : OpSim P o ev g s f := by
  unfold stepNilCheck at h
  split at h
  · rename_i a hx
    cases h
    refine sim_pure [] _ fun base w0 ρ w act hR hv => ?_
    have h0 := hv x (by simp [ho, Op.operands])
    have h1 := h0
    rw [hx, VV_ptr] at h0
    obtain ⟨ver, _, a', e, _⟩ := VR_ptr h0.1
    refine ⟨act.eval x, ?_, by rw [← hx]; exact h1⟩
    simp [execOp, ho, e]
  · cases h

def foff (P : Program) (S : TypeId) (f : Nat) : Option Nat :=
  match P.underlying S with
  | some (.struct fields) => match fields[f]? with
    | some fl => match tsize P fl.type with
      | some n => if n = 0 then none else some fl.offset
      | none => none
    | none => none
  | _ => none

def stepField (P : Program) (S : TypeId) (x : Value) (f : Nat) : Option Eff :=
  match x, foff P S f with
  | .pointer (some a), some n => some { v := .pointer (some { a with off := a.off + n }) }
  | _, _ => none

theorem VR_ptr_move {ρ : Ren} {g : Heap} {a a' : Addr} {n : Nat} (h : VR ρ g (.pointer (some a)) (.pointer (some a'))) :
    VR ρ g (.pointer (some { a with off := a.off + n })) (.pointer (some (a'.add n))) := by
  obtain ⟨ver, hs, a1, e, hk⟩ := VR_ptr h
  cases e
  refine ⟨ver, hs, _, rfl, fun b hb => ⟨(hk b hb).1, fun e => ?_⟩⟩
  rw [(hk b hb).2 e, addr_add]
  simp [Nat.add_assoc]

theorem sim_field {S : TypeId} {x : Operand} {n : Nat} (ho : o.op = .fieldAddr S x n) (h : stepField P S (ev x) n = some f) : OpSim P o ev g s f := by
  unfold stepField at h
  split at h
  · rename_i a off hx hf
    cases h
    refine sim_pure [] _ fun base w0 ρ w act hR hv => ?_
    have h0 := hv x (by simp [ho, Op.operands])
    rw [hx, VV_ptr] at h0
    obtain ⟨ver, _, a', e, _⟩ := VR_ptr h0.1
    refine ⟨.pointer (some (a'.add off)), ?_, ?_⟩
    · unfold foff at hf
      cases hu : P.underlying S with
      | none => simp [hu] at hf
      | some d =>
        cases d <;> simp only [hu, reduceCtorEq] at hf
        rename_i fields
        cases hfl : fields[n]? with
        | none => simp [hfl] at hf
        | some fl =>
          simp only [hfl] at hf
          cases hts : tsize P fl.type with
          | none => simp [hts] at hf
          | some k =>
            simp only [hts] at hf
            by_cases hk : k = 0
            · simp [hk] at hf
            · rw [if_neg hk] at hf
              cases hf
              simp [execOp, ho, e, Instr.fieldAt, run_underlying hu, hfl, Instr.sureAddr, fieldPlace, run_sizeOf_of hts, hk]
    · rw [VV_ptr]
      rw [e] at h0
      exact ⟨VR_ptr_move h0.1, h0.2⟩
  · cases h

def stepIndex (P : Program) (T : TypeId) (x ix : Value) : Option Eff :=
  match ix with
  | .int _ i => match P.underlying T, x with
    | some (.slice e), .slice (some a) len esz => match a.spot with
      | some _ => if 0 ≤ i ∧ i < len ∧ tsize P e = some esz then some { v := .pointer (some { a with off := a.off + i.toNat * esz }) } else none
      | none => none
    | some (.array len e), .pointer (some a) => match tsize P e with
      | some esz => if 0 ≤ i ∧ i < len then some { v := .pointer (some { a with off := a.off + i.toNat * esz }) } else none
      | none => none
    | _, _ => none
  | _ => none

theorem sim_index {T : TypeId} {x ix : Operand} (ho : o.op = .indexAddr T x ix) (h : stepIndex P T (ev x) (ev ix) = some f) : OpSim P o ev g s f := by
  unfold stepIndex at h
  split at h
  · rename_i k i hix
    split at h
    · rename_i e a len esz hu hx
      split at h
      · rename_i ver hsp
        split at h
        · rename_i hc
          obtain ⟨h1, h2, h3⟩ := hc
          cases h
          refine sim_pure [] _ fun base w0 ρ w act hR hv => ?_
          have h0 := hv x (by simp [ho, Op.operands])
          have h4 := hv ix (by simp [ho, Op.operands])
          rw [hix, VV_int] at h4
          rw [hx, VV_slice] at h0
          obtain ⟨a', cap', e', _, _, _, hk⟩ := VR_slice h0.1
          refine ⟨.pointer (some (a'.add (i.toNat * esz))), ?_, ?_⟩
          · simp [execOp, ho, e', h4, Instr.indexAt, asIntOf, run_underlying hu, h1, h2, run_sizeOf_of h3]
          · rw [VV_ptr]
            refine ⟨⟨ver, hsp, _, rfl, fun b hb => ?_⟩, ?_⟩
            · obtain ⟨k1, k2⟩ := hk ver b hsp hb
              refine ⟨k1, fun e => ?_⟩
              rw [(k2 e).1, addr_add]
              simp [Nat.add_assoc]
            · rcases h0.2 with h0' | h0'
              · rw [h0'] at hsp; cases hsp
              · exact h0'
        · cases h
      · cases h
    · rename_i len e a hu hx
      split at h
      · rename_i esz hts
        split at h
        · rename_i hc
          obtain ⟨h1, h2⟩ := hc
          cases h
          refine sim_pure [] _ fun base w0 ρ w act hR hv => ?_
          have h0 := hv x (by simp [ho, Op.operands])
          have h4 := hv ix (by simp [ho, Op.operands])
          rw [hix, VV_int] at h4
          rw [hx, VV_ptr] at h0
          obtain ⟨ver, _, a', e', _⟩ := VR_ptr h0.1
          refine ⟨.pointer (some (a'.add (i.toNat * esz))), ?_, ?_⟩
          · simp [execOp, ho, e', h4, Instr.indexAt, Instr.sureAddr, asIntOf, run_underlying hu, h1, h2, run_sizeOf_of hts]
          · rw [VV_ptr]
            rw [e'] at h0
            exact ⟨VR_ptr_move h0.1, h0.2⟩
        · cases h
      · cases h
    · cases h
  · cases h

def boundOf (v : Option Value) (d : Int) : Option Int :=
  match v with
  | none => some d
  | some (.int _ x) => some x
  | _ => none

def stepSlice (P : Program) (T : TypeId) (x : Value) (lo hi : Option Value) : Option Eff :=
  match P.underlying T, x with
  | some (.slice e), .slice a len esz =>
    match boundOf hi (len : Int), boundOf lo 0 with
    | some h, some l =>
      if 0 ≤ l ∧ l ≤ h ∧ h ≤ len then
        match a with
        | none => if (tsize P e).isSome then some { v := .slice none 0 0 } else none
        | some a => if tsize P e = some esz then some { v := if l = h then .slice (some ⟨0, 0, none⟩) 0 esz else .slice (some { a with off := a.off + l.toNat * esz }) (h - l).toNat esz } else none
      else none
    | _, _ => none
  | _, _ => none
end

theorem run_sliceBounds_of {P : Program} {w : World} {len cap : Nat} {lo hi : Option Value} {h l : Int}
    (hh : boundOf hi (len : Int) = some h) (hl : boundOf lo 0 = some l)
    (h0 : 0 ≤ l) (h1 : l ≤ h) (h2 : h ≤ len) (h3 : len ≤ cap) : (Instr.sliceBounds true len cap lo hi none).run P w = .ok (l.toNat, h.toNat, cap) w := by
  have hb : ∀ (k : IntKind) (i : Int) (y : Nat) (c : BoundsCode), 0 ≤ i → i ≤ y → (Instr.sliceBound (.int k i) y c).run P w = .ok i.toNat w := fun k i y c a b => run_sliceBound w k i y c a b
  unfold boundOf at hh hl
  cases hi with
  | none =>
    simp at hh
    subst hh
    cases lo with
    | none => simp at hl; subst hl; simp [Instr.sliceBounds]
    | some v =>
      cases v <;> simp at hl
      subst hl
      simp [Instr.sliceBounds, hb _ _ len _ h0 (by omega)]
  | some u =>
    cases u <;> simp at hh
    subst hh
    rename_i ku nu
    have hA := hb ku nu cap .sliceAcap (by omega) (by omega)
    cases lo with
    | none => simp at hl; subst hl; simp [Instr.sliceBounds, hA]
    | some v =>
      cases v <;> simp at hl
      subst hl
      rename_i kv nv
      have hB := hb kv nv nu.toNat .sliceB h0 (by omega)
      simp [Instr.sliceBounds, hA, hB]

section
variable {P : Program} {o : Oper} {ev : Operand → Value} {g : Heap} {s : Nat → Prop} {f : Eff}

theorem int_arg {ρ : Ren} {lo : Option Operand} {act : Act} {l : Int} {d : Int} (hv : ∀ x, lo = some x → VV ρ g s (ev x) (act.eval x))
    (h : boundOf (lo.map ev) d = some l) : boundOf (lo.map act.eval) d = some l := by
  cases lo with
  | none => exact h
  | some x =>
    have hx := hv x rfl
    simp only [Option.map_some, boundOf] at h ⊢
    cases hxe : ev x <;> rw [hxe] at h hx <;> simp at h
    rw [VV_int] at hx
    rw [hx]
    simp [h]

theorem sim_slice {T : TypeId} {x : Operand} {lo hi : Option Operand} (ho : o.op = .slice T x lo hi none) (h : stepSlice P T (ev x) (lo.map ev) (hi.map ev) = some f) : OpSim P o ev g s f := by
  unfold stepSlice at h
  split at h
  · rename_i e a len esz hu hx
    split at h
    · rename_i hh l hhi hlo
      split at h
      · rename_i hc
        obtain ⟨c0, c1, c2⟩ := hc
        have hels : P.underlying T = some (.slice (P.elem T)) := by
          have : P.elem T = e := by simp [Program.elem, hu]
          rw [this]; exact hu
        split at h
        · split at h
          · rename_i hts
            cases h
            refine sim_pure [] _ fun base w0 ρ w act hR hv => ?_
            have h0 := hv x (by simp [ho, Op.operands])
            rw [hx, VV_slice] at h0
            obtain ⟨e1, e2, e3⟩ := VR_nilslice h0.1
            subst e2
            have hlo' := int_arg (ρ := ρ) (act := act) (fun y hy => hv y (by simp [ho, Op.operands, hy])) hlo
            have hhi' := int_arg (ρ := ρ) (act := act) (fun y hy => hv y (by simp [ho, Op.operands, hy])) hhi
            have l0 : l = 0 := by omega
            have h00 : hh = 0 := by omega
            subst l0 h00
            obtain ⟨n, hn⟩ := Option.isSome_iff_exists.1 hts
            refine ⟨.slice none 0 0, ?_, ?_⟩
            · have hb := run_sliceBounds_of (P := P) (w := w) (cap := 0) hhi' hlo' (by omega) (by omega) (by omega) (Nat.le_refl _)
              simp [execOp, ho, run_sliceAt_slice w T _ _ _ _ hels, e1, Instr.slice, run_underlying hu, hb, run_sizeOf_of hn]
            · rw [VV_slice]; exact ⟨⟨rfl, rfl, rfl⟩, trivial⟩
          · cases h
        · rename_i a
          split at h
          · rename_i hts
            cases h
            refine sim_pure [] _ fun base w0 ρ w act hR hv => ?_
            have h0 := hv x (by simp [ho, Op.operands])
            rw [hx, VV_slice] at h0
            obtain ⟨a', cap', e', q1, q2, q3, hk⟩ := VR_slice h0.1
            have hlo' := int_arg (ρ := ρ) (act := act) (fun y hy => hv y (by simp [ho, Op.operands, hy])) hlo
            have hhi' := int_arg (ρ := ρ) (act := act) (fun y hy => hv y (by simp [ho, Op.operands, hy])) hhi
            have hb := run_sliceBounds_of (P := P) (w := w) (cap := cap') hhi' hlo' c0 c1 c2 q1
            refine ⟨.slice (if cap' = l.toNat then some a' else some (a'.add (l.toNat * esz))) (hh.toNat - l.toNat) (cap' - l.toNat), ?_, ?_⟩
            · simp [execOp, ho, run_sliceAt_slice w T _ _ _ _ hels, e', Instr.slice, run_underlying hu, hb, run_sizeOf_of hts]
            · by_cases e : l = hh
              · subst e
                rw [if_pos rfl, VV_slice]
                refine ⟨?_, .inl rfl⟩
                rw [Nat.sub_self]
                by_cases ec : cap' = l.toNat
                · rw [if_pos ec]; exact ⟨_, _, rfl, Nat.zero_le _, by omega, fun _ => rfl, fun ver b hv => by cases hv⟩
                · rw [if_neg ec]; exact ⟨_, _, rfl, Nat.zero_le _, by omega, fun _ => rfl, fun ver b hv => by cases hv⟩
              · rw [if_neg e, VV_slice, if_neg (by omega)]
                refine ⟨⟨_, _, by rw [show (hh - l).toNat = hh.toNat - l.toNat by omega], by omega, by omega, fun hs => by have := q3 hs; omega, fun ver b hs hb => ?_⟩, h0.2⟩
                obtain ⟨k1, k2⟩ := hk ver b hs hb
                refine ⟨k1, fun hl => ?_⟩
                obtain ⟨m1, m2, m3⟩ := k2 hl
                refine ⟨by rw [m1, addr_add]; simp [Nat.add_assoc], ?_, fun hr => ?_⟩
                · have : l.toNat * esz + (hh - l).toNat * esz ≤ len * esz := by rw [← Nat.add_mul]; exact Nat.mul_le_mul_right _ (by omega)
                  simp only
                  omega
                · have : l.toNat * esz + (cap' - l.toNat) * esz = cap' * esz := by rw [← Nat.add_mul]; congr 1; omega
                  have := m3 hr
                  simp only
                  omega
          · cases h
      · cases h
    · cases h
  · cases h
end

end Go.Proofs.Ytokmmcfnpobldaa.Abs
