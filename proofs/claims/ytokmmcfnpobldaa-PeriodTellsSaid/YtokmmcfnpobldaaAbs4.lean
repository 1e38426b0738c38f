/-
  The abstract machine, part 4: operations that write memory and that make it.
-/
import Derived.Test.YtokmmcfnpobldaaAbs3
namespace Go.Proofs.Ytokmmcfnpobldaa.Abs
open Go Go.RowKit

def putAll : List Value → Nat → List Value → List Value
  | l, _, [] => l
  | l, o, c :: cs => putAll (l.set o c) (o + 1) cs

@[simp] theorem length_putAll : ∀ (cs l : List Value) (o : Nat), (putAll l o cs).length = l.length
  | [], _, _ => rfl
  | c :: cs, l, o => by simp [putAll, length_putAll cs]

def arrPut : Array Value → Nat → List Value → Array Value
  | l, _, [] => l
  | l, o, c :: cs => arrPut (l.setIfInBounds o c) (o + 1) cs

theorem size_arrPut : ∀ (cs : List Value) (l : Array Value) (o : Nat), (arrPut l o cs).size = l.size
  | [], _, _ => rfl
  | c :: cs, l, o => by simp [arrPut, size_arrPut cs]

def PreR {α β : Type} (R : α → β → Prop) (l : List α) (l' : Array β) : Prop :=
  ∀ (k : Nat) (c : α), l[k]? = some c → ∃ c', l'[k]? = some c' ∧ R c c'

theorem PreR.len {R : Value → Value → Prop} {l : List Value} {l' : Array Value} (h : PreR R l l') : l.length ≤ l'.size := by
  rcases Nat.lt_or_ge l'.size l.length with hlt | hge
  · obtain ⟨c', hc', _⟩ := h l'.size l[l'.size] (by simp [hlt])
    simp at hc'
  · exact hge

theorem PreR.put {R : Value → Value → Prop} : ∀ {cs cs' : List Value} {l : List Value} {l' : Array Value} {o : Nat}, PreR R l l' → All2 R cs cs' → o + cs.length ≤ l.length →
    PreR R (putAll l o cs) (arrPut l' o cs')
  | [], cs', l, l', o, h, ha, _ => by
    have : cs' = [] := List.eq_nil_of_length_eq_zero (by simpa using ha.1.symm)
    subst this
    exact h
  | c :: cs, cs', l, l', o, h, ha, hl => by
    cases cs' with
    | nil => simp [All2] at ha
    | cons c' cs' =>
      have h0 : R c c' := by
        obtain ⟨b, hb, hr⟩ := ha.2 0 c rfl
        simp at hb
        subst hb
        exact hr
      have hs : All2 R cs cs' := ⟨by simpa using ha.1, fun i a hi => by
        obtain ⟨b, hb, hr⟩ := ha.2 (i + 1) a (by simpa using hi)
        exact ⟨b, by simpa using hb, hr⟩⟩
      have hlen := h.len
      simp at hl
      refine PreR.put (l := l.set o c) (l' := l'.setIfInBounds o c') ?_ hs (by simp; omega)
      intro k d hk
      rw [List.getElem?_set] at hk
      by_cases e : o = k
      · subst e
        rw [if_pos rfl, if_pos (by omega)] at hk
        cases hk
        exact ⟨c', by rw [Array.getElem?_setIfInBounds_self_of_lt (by omega)], h0⟩
      · rw [if_neg e] at hk
        obtain ⟨d', hd', hr⟩ := h k d hk
        exact ⟨d', by rw [Array.getElem?_setIfInBounds_ne e]; exact hd', hr⟩

theorem heap_setCells (b : Nat) (e : TypeId) : ∀ (vs : List Value) (o : Nat) (w : World) (cur : Array Value), w.heap[b]? = some (.cells cur e (0, 0)) →
    (w.setCells b o vs).heap[b]? = some (.cells (arrPut cur o vs) e (0, 0)) ∧ w.grownBy (w.setCells b o vs) (some b)
  | [], _, w, cur, h => ⟨h, rfl, rfl, rfl, Nat.le_refl _, fun _ _ _ => rfl⟩
  | v :: vs, o, w, cur, h => by
    have h1 := heap_setCell_same w b o cur e v h
    obtain ⟨h2, h3⟩ := heap_setCells b e vs (o + 1) (w.setCell ⟨b, o, none⟩ v) (cur.setIfInBounds o v) h1
    refine ⟨h2, h3.os, h3.tape, h3.output, ?_, fun k hk hne => ?_⟩
    · have := h3.size; simpa [World.setCells, World.setCell] using this
    · have hk' : k < (w.setCell ⟨b, o, none⟩ v).heap.size := by simpa [World.setCell] using hk
      rw [World.setCells, h3.block k hk' hne]
      exact heap_setCell_other w _ k v (fun e => hne (by rw [e]))

def isTup : Value → Bool
  | .tuple _ => true
  | _ => false

theorem VR_one {ρ : Ren} {g : Heap} {c c' : Value} (h : VR ρ g c c') : c.oneCell' = true ∧ c'.oneCell' = true := by
  cases c with
  | pointer a => cases a with
    | none => cases h; exact ⟨rfl, rfl⟩
    | some a => obtain ⟨_, _, a', rfl, _⟩ := VR_ptr h; exact ⟨rfl, rfl⟩
  | slice a l e => cases a with
    | none => obtain ⟨rfl, _, _⟩ := VR_nilslice h; exact ⟨rfl, rfl⟩
    | some a => obtain ⟨a', c', rfl, _⟩ := VR_slice h; exact ⟨rfl, rfl⟩
  | _ => first | exact h.elim | (cases h; exact ⟨rfl, rfl⟩)

theorem VR_of_VV {ρ : Ren} {g : Heap} {s : Nat → Prop} {y y' : Value} (h : VV ρ g s y y') (h1 : y.oneCell' = true) : VR ρ g y y' ∧ SV1 s y := by
  cases y <;> first | exact ⟨h.1, h.2⟩ | (simp [Value.oneCell'] at h1; done)

theorem cells_of_one {v : Value} (h : v.oneCell' = true) : v.cells = #[v] := by
  cases v <;> first | rfl | (simp [Value.oneCell'] at h; done)

theorem All2_one {R : Value → Value → Prop} {a b : Value} (h : R a b) : All2 R [a] [b] :=
  ⟨rfl, fun i x hi => by
    cases i with
    | zero => simp at hi; subst hi; exact ⟨b, rfl, h⟩
    | succ i => simp at hi⟩

theorem VV_cells {ρ : Ren} {g : Heap} {s : Nat → Prop} {y y' : Value} (h : VV ρ g s y y') (ht : isTup y = false) :
    All2 (VR ρ g) y.cells.toList y'.cells.toList ∧ (∀ c ∈ y.cells.toList, SV1 s c) ∧ (∀ c ∈ y'.cells.toList, c.oneCell' = true) ∧ y'.cells.size = y.cells.size := by
  have key : All2 (VR ρ g) y.cells.toList y'.cells.toList ∧ (∀ c ∈ y.cells.toList, SV1 s c) := by
    cases hy : y with
    | tuple vs => rw [hy] at ht; simp [isTup] at ht
    | agg cs =>
      rw [hy] at h
      obtain ⟨⟨cs', rfl, ha⟩, hs⟩ := h
      exact ⟨ha, hs⟩
    | _ =>
      rw [hy] at h
      obtain ⟨hv, hs⟩ := VR_of_VV h rfl
      obtain ⟨h1, h2⟩ := VR_one hv
      rw [cells_of_one h2, cells_of_one h1]
      exact ⟨All2_one hv, fun c hc => by simp at hc; subst hc; exact hs⟩
  refine ⟨key.1, key.2, fun c hc => ?_, by have := key.1.1; simpa using this.symm⟩
  obtain ⟨i, hi, hci⟩ := List.mem_iff_getElem.1 hc
  have hi' : i < y.cells.toList.length := by rw [key.1.1]; exact hi
  obtain ⟨b, hb, hr⟩ := key.1.2 i _ (List.getElem?_eq_getElem hi')
  rw [List.getElem?_eq_getElem hi] at hb
  cases hb
  rw [← hci]
  exact (VR_one hr).2

section
variable {P : Program} {o : Oper} {a : Act} {w : World} {K : Act → World → Prop} {Q : Exit → Act → World → Prop}
theorem wp_of_skip {w' : World} (h : (execOp a.eval o).run P w = .ok .skip w') (hk : K (a.put o.dst undef) w') : o.wp P a w K Q := by
  unfold Oper.wp
  rw [h]
  exact hk
end

def stepStore (P : Program) (T : TypeId) (x y : Value) (g : Heap) : Option Eff :=
  match x with
  | .pointer (some a) => match rd g a with
    | some b => if b.ro = false ∧ isTup y = false ∧ tsize P T = some y.cells.size ∧ a.off + y.cells.size ≤ b.cells.length then
        some { v := undef, r := [a.block], w := [(a.block, ⟨false, b.e, putAll b.cells a.off y.cells.toList⟩)] } else none
    | none => none
  | _ => none

theorem mem_putAll : ∀ {cs l : List Value} {o : Nat} {c : Value}, c ∈ putAll l o cs → c ∈ l ∨ c ∈ cs
  | [], l, o, c, h => .inl h
  | d :: cs, l, o, c, h => by
    rcases mem_putAll (cs := cs) (l := l.set o d) h with h | h
    · rcases List.mem_or_eq_of_mem_set h with h | h
      · exact .inl h
      · exact .inr (by simp [h])
    · exact .inr (by simp [h])

section
variable {P : Program} {o : Oper} {ev : Operand → Value} {g : Heap} {s : Nat → Prop} {f : Eff}

theorem sim_store {T : TypeId} {x y : Operand} (ho : o.op = .store T x y) (h : stepStore P T (ev x) (ev y) g = some f) : OpSim P o ev g s f := by
  unfold stepStore at h
  split at h
  · rename_i a hx
    split at h
    · rename_i b hb
      split at h
      · rename_i hc
        obtain ⟨hro, ht, hts, hle⟩ := hc
        cases h
        obtain ⟨hsp, hg⟩ := rd_spec hb
        intro base w0 ρ w act K Q hR hv hk
        have h0 := hv x (by simp [ho, Op.operands])
        have h1 := hv y (by simp [ho, Op.operands])
        rw [hx, VV_ptr] at h0
        have e := VR_ptr_live hb h0.1
        obtain ⟨_, h00, cur, hcur, hK, hh⟩ := hR.own _ b hg hro
        obtain ⟨c1, c2, c3, c4⟩ := VV_cells h1 ht
        have hsz : cur.size ≥ b.cells.length := PreR.len hh
        have hlen : (act.eval y).cells.toList.length = (ev y).cells.size := by simpa using c4
        rw [h00, Nat.zero_add] at e
        have hrun := run_storeCells_cells (P := P) (ρ a.block).blk a.off (act.eval y).cells.toList 0 w
          (fun j hj => by rw [cell_of_row w _ _ cur _ _ hcur]; simp; omega) (fun j hj => frozen_of_row w _ _ cur _ hcur) c3
        obtain ⟨q1, q2⟩ := heap_setCells (ρ a.block).blk b.e (act.eval y).cells.toList a.off w cur hcur
        obtain ⟨r1, r2⟩ := hR.change (ri := ρ a.block) (cs := putAll b.cells a.off (ev y).cells.toList) hg hro q2 (.inl rfl) h00 q1 (by rw [size_arrPut, hK]) (by simp) (fun _ => rfl)
          (PreR.put hh c1 (by simpa using hle)) (fun c hc => by
            rcases mem_putAll hc with hc | hc
            · exact hR.wf _ b hg c hc
            · exact c2 c hc)
        refine wp_of_skip (w' := w.setCells (ρ a.block).blk a.off (act.eval y).cells.toList) ?_ (hk (upd ρ a.block (ρ a.block)) _ undef (r1.sn0 _) r2 VV_undef)
        rw [Nat.add_zero] at hrun
        simp [execOp, ho, e, Instr.storeAt, Instr.sureAddr, storeVar, run_sizeOf_of hts, c4, hrun]
      · cases h
    · cases h
  · cases h

theorem HR.added {base : Nat} {w0 : World} {ρ : Ren} {w : World} (hR : HR base w0 ρ g s w) (v : Value) (r : List Nat) {j : Nat} (hj : ¬ s j) {w' : World} {k0 : Nat} {e : TypeId} {cs : List Value} {cur : Array Value}
    (hg : w.grownBy w' none) (hk0 : w.heap.size ≤ k0) (hcur : w'.heap[k0]? = some (.cells cur e (0, 0)))
    (hcs : PreR (VR ρ g) cs cur) (hsv : ∀ c ∈ cs, SV1 s c) (f : Eff) (hf : f = { v := v, r := r, j := j, a := [⟨false, e, cs⟩] }) :
    HR base w0 (upd ρ j ⟨k0, 0, cur.size⟩) (f.ap g) (f.sn s) w' ∧ Mono ρ g s (upd ρ j ⟨k0, 0, cur.size⟩) (f.ap g) := by
  subst hf
  obtain ⟨h1, h2⟩ := hR.add hj hg hk0 hcur hcs hsv
  refine ⟨h1.seenMore (fun i hi => ?_) ?_, h2⟩
  · rcases hi with rfl | hi
    · exact .inr ⟨Nat.le_refl _, by simp⟩
    · exact .inl hi
  · obtain ⟨n, hn⟩ := hR.fin
    refine ⟨max n (j + 1), fun i hi => ?_⟩
    rcases hi with hi | hi
    · have := hn i hi; omega
    · simp at hi; omega

theorem grown_alloc (w : World) (o : Obj) : w.grownBy (w.alloc o) none := World.grownBy_alloc w o none

theorem All2.pre {R : Value → Value → Prop} {l : List Value} {l' : Array Value} (h : All2 R l l'.toList) : PreR R l l' := fun k c hk => by
  obtain ⟨b, hb, hr⟩ := h.2 k c hk
  exact ⟨b, by simpa using hb, hr⟩

def stepBox (T : TypeId) (x : Value) (j : Nat) : Option Eff :=
  if isTup x = false then some { v := .pointer (some ⟨j, 0, some x.cells.size⟩), j := j, a := [⟨false, T, x.cells.toList⟩] } else none

theorem sim_box {T : TypeId} {x : Operand} {j : Nat} (ho : o.op = .box T x) (h : stepBox T (ev x) j = some f) (hj : f.a ≠ [] → ¬ s j) : OpSim P o ev g s f := by
  unfold stepBox at h
  split at h
  · rename_i ht
    cases h
    intro base w0 ρ w act K Q hR hv hk
    have h1 := hv x (by simp [ho, Op.operands])
    obtain ⟨c1, c2, c3, c4⟩ := VV_cells h1 ht
    obtain ⟨r1, r2⟩ := hR.added (.pointer (some ⟨j, 0, some (ev x).cells.size⟩)) [] (hj (by simp)) (grown_alloc w (.cells (act.eval x).cells T)) (Nat.le_refl _) (heap_alloc_new w _) (All2.pre c1) c2 _ rfl
    refine wp_of_run (v' := .pointer (some ⟨w.heap.size, 0, none⟩)) (w' := w.alloc (.cells (act.eval x).cells T)) ?_ (hk _ _ _ r1 r2 ?_)
    · simp only [execOp, ho, Instr.box, newVar, newRow, Sem.run_bind, run_newObj, Result.andThen_ok, Sem.run_pure]
      rfl
    · rw [VV_ptr]
      refine ⟨⟨_, rfl, _, rfl, fun b hb => ?_⟩, .inr ⟨Nat.le_refl _, by simp⟩⟩
      simp only [Eff.ap, setAll, addAll, upd_self, Option.some.injEq] at hb
      subst hb
      exact ⟨by simp, fun _ => by simp⟩
  · cases h

/-- A type's zero value, cell by cell; its cells' number; its bytes. -/
def tinf (P : Program) (e : TypeId) : Option (List Value × Nat × Nat) :=
  match P.info? e with
  | some i => match i.zero with
    | some z => if z.cells.size = i.size ∧ z.cells.toList.all plain = true then some (z.cells.toList, i.size, i.bytes) else none
    | none => none
  | none => none

theorem tinf_spec {e : TypeId} {zs : List Value} {n b : Nat} (h : tinf P e = some (zs, n, b)) : ∃ i z, P.info? e = some i ∧ i.zero = some z ∧ i.size = n ∧ i.bytes = b ∧ z.cells.toList = zs ∧ z.cells.size = n ∧ zs.length = n ∧ ∀ c ∈ zs, plain c = true := by
  unfold tinf at h
  cases hi : P.info? e with
  | none => simp [hi] at h
  | some i =>
    cases hz : i.zero with
    | none => simp [hi, hz] at h
    | some z =>
      simp only [hi, hz] at h
      split at h
      · rename_i hc
        simp only [Option.some.injEq, Prod.mk.injEq] at h
        obtain ⟨h1, h2, h3⟩ := h
        refine ⟨i, z, rfl, hz, h2, h3, h1, by rw [← h2]; exact hc.1, by rw [← h1, ← h2, ← hc.1]; simp, fun c hcm => ?_⟩
        rw [← h1] at hcm
        exact List.all_eq_true.1 hc.2 c hcm
      · cases h

def stepAlloc (P : Program) (T : TypeId) (j : Nat) : Option Eff :=
  match tinf P T with
  | some (zs, n, _) => some { v := .pointer (some ⟨j, 0, some n⟩), j := j, a := [⟨false, T, zs⟩] }
  | none => none

theorem All2_plain {ρ : Ren} {l : List Value} (h : ∀ c ∈ l, plain c = true) : All2 (VR ρ g) l l :=
  ⟨rfl, fun _ a ha => ⟨a, ha, VR_plain (h a (List.mem_of_getElem? ha))⟩⟩

theorem sim_alloc {T : TypeId} {j : Nat} (ho : o.op = .alloc T) (h : stepAlloc P T j = some f) (hj : f.a ≠ [] → ¬ s j) : OpSim P o ev g s f := by
  unfold stepAlloc at h
  split at h
  · rename_i zs n bb hti
    cases h
    obtain ⟨i, z, hi, hz, h1, h2, h3, h4, h5, h6⟩ := tinf_spec hti
    intro base w0 ρ w act K Q hR hv hk
    obtain ⟨r1, r2⟩ := hR.added (.pointer (some ⟨j, 0, some n⟩)) [] (hj (by simp)) (grown_alloc w (.cells z.cells T)) (Nat.le_refl _) (heap_alloc_new w _) (cs := zs) (All2.pre (by rw [h3]; exact All2_plain h6)) (fun c hc => SV1_plain (h6 c hc)) _ rfl
    refine wp_of_run (v' := .pointer (some ⟨w.heap.size, 0, none⟩)) (w' := w.alloc (.cells z.cells T)) ?_ (hk _ _ _ r1 r2 ?_)
    · simp only [execOp, ho, Instr.alloc, zeroValue, typeInfo, newVar, newRow, Sem.run_bind, run_program, run_newObj, Result.andThen_ok, Sem.run_pure, hi, hz]
      rfl
    · rw [VV_ptr]
      refine ⟨⟨_, rfl, _, rfl, fun b hb => ?_⟩, .inr ⟨Nat.le_refl _, by simp⟩⟩
      simp only [Eff.ap, setAll, addAll, upd_self, Option.some.injEq] at hb
      subst hb
      exact ⟨by simp [h5], fun _ => by simp⟩
  · cases h

/-- A literal's parts, laid into its cells. -/
def fillL (place : Nat → Option (Nat × Nat)) (cells : List Value) : List (Nat × Value) → Option (List Value)
  | [] => some cells
  | (i, v) :: rest =>
    match place i with
    | some (off, size) => if v.cells.size = size ∧ off + size ≤ cells.length ∧ isTup v = false then fillL place (putAll cells off v.cells.toList) rest else none
    | none => none

theorem foldl_put (off : Nat) : ∀ (l : List Value) (k : Nat) (cs : Array Value), (l.zipIdx k).foldl (fun cs (x : Value × Nat) => cs.setIfInBounds (off + x.2) x.1) cs = arrPut cs (off + k) l
  | [], _, _ => rfl
  | v :: l, k, cs => by
    rw [List.zipIdx_cons, List.foldl_cons, foldl_put off l (k + 1)]
    rfl

theorem fill_rel {ρ : Ren} {place : Nat → Option (Nat × Nat)} : ∀ {parts parts' : List (Nat × Value)} {cells : List Value} {cells' : Array Value} {out : List Value},
    PreR (VR ρ g) cells cells' → cells.length = cells'.size → All2 (fun p p' => p.1 = p'.1 ∧ VV ρ g s p.2 p'.2) parts parts' → fillL place cells parts = some out →
    ∃ out', Instr.fill place cells' parts' = some out' ∧ PreR (VR ρ g) out out' ∧ out.length = out'.size ∧ ((∀ c ∈ cells, SV1 s c) → ∀ c ∈ out, SV1 s c)
  | [], parts', cells, cells', out, h, hl, ha, hf => by
    have : parts' = [] := List.eq_nil_of_length_eq_zero (by simpa using ha.1.symm)
    subst this
    simp [fillL] at hf
    subst hf
    exact ⟨cells', rfl, h, hl, id⟩
  | (i, v) :: parts, parts', cells, cells', out, h, hl, ha, hf => by
    cases parts' with
    | nil => simp [All2] at ha
    | cons p' parts' =>
      obtain ⟨i', v'⟩ := p'
      have h0 : i = i' ∧ VV ρ g s v v' := by
        obtain ⟨b, hb, hr⟩ := ha.2 0 (i, v) rfl
        simp at hb
        subst hb
        exact hr
      have hs : All2 (fun p p' => p.1 = p'.1 ∧ VV ρ g s p.2 p'.2) parts parts' := ⟨by simpa using ha.1, fun k a hk => by
        obtain ⟨b, hb, hr⟩ := ha.2 (k + 1) a (by simpa using hk)
        exact ⟨b, by simpa using hb, hr⟩⟩
      obtain ⟨rfl, hvv⟩ := h0
      unfold fillL at hf
      cases hp : place i with
      | none => simp [hp] at hf
      | some os =>
        obtain ⟨off, size⟩ := os
        simp only [hp] at hf
        split at hf
        · rename_i hc
          obtain ⟨k1, k2, k3⟩ := hc
          obtain ⟨c1, c2, c3, c4⟩ := VV_cells hvv k3
          have hput : PreR (VR ρ g) (putAll cells off v.cells.toList) (arrPut cells' off v'.cells.toList) := PreR.put h c1 (by simp; omega)
          obtain ⟨out', q1, q2, q3, q4⟩ := fill_rel (ρ := ρ) (place := place) hput (by simp [size_arrPut, hl]) hs hf
          refine ⟨out', ?_, q2, q3, fun hsv => q4 fun c hc => ?_⟩
          · unfold Instr.fill
            simp only [hp]
            rw [if_neg (by simp; omega), ← Array.foldl_toList, Array.toList_zipIdx, foldl_put]
            exact q1
          · rcases mem_putAll hc with hc | hc
            · exact hsv c hc
            · exact c2 c hc
        · cases hf

theorem parts_rel {ρ : Ren} {act : Act} {parts : Array (Nat × Operand)} (hv : ∀ x ∈ (parts.toList.map (·.2)).toArray, VV ρ g s (ev x) (act.eval x)) :
    All2 (fun (p p' : Nat × Value) => p.1 = p'.1 ∧ VV ρ g s p.2 p'.2) (parts.toList.map fun p => (p.1, ev p.2)) (parts.map fun (i, x) => (i, act.eval x)).toList := by
  refine ⟨by simp, fun i a hi => ?_⟩
  simp only [List.getElem?_map, Option.map_eq_some_iff] at hi
  obtain ⟨p, hp, rfl⟩ := hi
  refine ⟨(p.1, act.eval p.2), ?_, rfl, hv p.2 ?_⟩
  · simp only [Array.toList_map, List.getElem?_map, hp, Option.map_some]
  · simp only [List.mem_toArray, List.mem_map]
    exact ⟨p, List.mem_of_getElem? hp, rfl⟩

/-- A struct type's places and zero cells. -/
def binf (P : Program) (T : TypeId) : Option (List (Nat × Nat) × List Value) :=
  match P.info? T, P.underlying T with
  | some it, some (.struct fields) =>
    match it.zero, fields.toList.mapM (fun f => (P.info? f.type).map fun i => (f.offset, i.size)) with
    | some z, some places => if z.cells.toList.all plain = true then some (places, z.cells.toList) else none
    | _, _ => none
  | _, _ => none

def stepBuild (P : Program) (T : TypeId) (parts : List (Nat × Value)) : Option Eff :=
  match binf P T with
  | some (places, zs) => match fillL (fun i => places[i]?) zs parts with
    | some out => some { v := .agg out.toArray }
    | none => none
  | none => none

theorem sim_build {T : TypeId} {parts : Array (Nat × Operand)} (ho : o.op = .build T parts) (h : stepBuild P T (parts.toList.map fun p => (p.1, ev p.2)) = some f) : OpSim P o ev g s f := by
  unfold stepBuild at h
  split at h
  · rename_i places zs hb
    split at h
    · rename_i out hf
      cases h
      refine sim_pure [] _ fun base w0 ρ w act hR hv => ?_
      have hpr := parts_rel (ev := ev) (g := g) (s := s) (ρ := ρ) (act := act) (parts := parts) (by simpa [ho, Op.operands] using hv)
      unfold binf at hb
      split at hb
      · rename_i it fields hi hu
        split at hb
        · rename_i z pl hz hpl
          split at hb
          · rename_i hpn
            simp only [Option.some.injEq, Prod.mk.injEq] at hb
            obtain ⟨rfl, rfl⟩ := hb
            have hpn' : ∀ c ∈ z.cells.toList, plain c = true := fun c hc => List.all_eq_true.1 hpn c hc
            obtain ⟨out', q1, q2, q3, q4⟩ := fill_rel (ρ := ρ) (s := s) (g := g) (cells' := z.cells) (All2.pre (All2_plain hpn')) (by simp) hpr hf
            refine ⟨.agg out', ?_, ⟨⟨out', rfl, ⟨by simpa using q3, fun i a hia => ?_⟩⟩, ?_⟩⟩
            · have hrun := run_build (P := P) w T (parts.map fun (i, x) => (i, act.eval x)) out' (by
                simp only [Program.built, hi, hu, hz, hpl]
                simpa using q1)
              simp only [execOp, ho, Sem.run_bind, hrun, Result.andThen_ok, Sem.run_pure]
            · obtain ⟨b', hb', hr⟩ := q2 i a (by simpa using hia)
              exact ⟨b', by simpa using hb', hr⟩
            · intro c hc
              exact q4 (fun c hc => SV1_plain (hpn' c hc)) c (by simpa using hc)
          · cases hb
        · cases hb
      · cases hb
    · cases h
  · cases h

def zcells (zs : List Value) (n : Nat) : List Value := (List.range n).map fun i => zs[i % zs.length]?.getD undef

@[simp] theorem zcells_one (z : Value) (n : Nat) : zcells [z] n = List.replicate n z := by
  apply List.ext_getElem?
  intro i
  by_cases hi : i < n
  · simp [zcells, hi, Nat.mod_one]
  · simp [zcells, hi]

@[simp] theorem length_zcells (zs : List Value) (n : Nat) : (zcells zs n).length = n := by simp [zcells]

theorem madeCells_rel {ρ : Ren} {z : Value} {zs : List Value} (h : z.cells.toList = zs) (hp : ∀ c ∈ zs, plain c = true) (n : Nat) (hn : 0 < n → 0 < zs.length) : PreR (VR ρ g) (zcells zs n) (madeCells z.cells n) ∧ ∀ c ∈ zcells zs n, SV1 s c := by
  have key : ∀ (i : Nat) (c : Value), (zcells zs n)[i]? = some c → (madeCells z.cells n)[i]? = some c ∧ plain c = true := by
    intro i c hi
    have hlt : i < n := by
      have := (List.getElem?_eq_some_iff.1 hi).1
      simpa using this
    have hpos := hn (by omega)
    have hmod : i % zs.length < zs.length := Nat.mod_lt _ hpos
    simp only [zcells, List.getElem?_map, List.getElem?_range hlt, Option.map_some, Option.some.injEq] at hi
    rw [List.getElem?_eq_getElem hmod] at hi
    simp only [Option.getD_some] at hi
    have hsz : z.cells.size = zs.length := by rw [← h]; simp
    refine ⟨?_, hp c (by rw [← hi]; exact List.getElem_mem _)⟩
    have hmod' : i % z.cells.size < z.cells.size := by rw [hsz]; exact hmod
    have : z.cells[i % z.cells.size]! = c := by
      rw [getElem!_pos z.cells _ hmod', ← hi]
      simp only [← h, Array.getElem_toList, hsz]
    simp [madeCells, hlt, this]
  refine ⟨fun i c hi => ⟨c, (key i c hi).1, VR_plain (key i c hi).2⟩, fun c hc => ?_⟩
  obtain ⟨i, hi, hci⟩ := List.mem_iff_getElem.1 hc
  exact SV1_plain (key i c (by rw [List.getElem?_eq_getElem hi, hci])).2

def stepBuildSlice (P : Program) (T : TypeId) (len : Nat) (parts : List (Nat × Value)) (j : Nat) : Option Eff :=
  match P.underlying T with
  | some (.slice e) => match tinf P e with
    | some (zs, n, _) => if 0 < n ∧ len * n ≤ 16777216 then match fillL (fun i => some (i * n, n)) (zcells zs (len * n)) parts with
        | some out => some { v := .slice (some ⟨j, 0, some out.length⟩) len n, j := j, a := [⟨false, e, out⟩] }
        | none => none
      else none
    | none => none
  | _ => none

theorem length_fillL {place : Nat → Option (Nat × Nat)} : ∀ {parts : List (Nat × Value)} {cells out : List Value}, fillL place cells parts = some out → out.length = cells.length
  | [], cells, out, h => by simp [fillL] at h; subst h; rfl
  | (i, v) :: parts, cells, out, h => by
    unfold fillL at h
    split at h
    · split at h
      · have := length_fillL h; simpa using this
      · cases h
    · cases h

theorem VV_newSlice {ρ : Ren} {j len n k0 : Nat} {e : TypeId} {cs : List Value} {s' : Nat → Prop} (hs : s' j) (hlen : len * n ≤ cs.length) (cap : Nat) (hcap : len ≤ cap) (hm : cap ≤ maxLen) (K : Nat) (hK : cap * n = K) :
    VV (upd ρ j ⟨k0, 0, K⟩) (upd g j (some ⟨false, e, cs⟩)) s' (.slice (some ⟨j, 0, some cs.length⟩) len n) (.slice (some ⟨k0, 0, none⟩) len cap) := by
  rw [VV_slice]
  refine ⟨⟨_, _, rfl, hcap, hm, fun h => (by cases h), fun ver b hv hb => ?_⟩, .inr hs⟩
  simp only [upd_self, Option.some.injEq] at hb hv
  subst hb hv
  exact ⟨Nat.le_refl _, fun _ => ⟨by simp, by simpa using hlen, fun _ => by simp [hK]⟩⟩

theorem sim_buildSlice {T : TypeId} {len : Nat} {parts : Array (Nat × Operand)} {j : Nat} (ho : o.op = .buildSlice T len parts) (h : stepBuildSlice P T len (parts.toList.map fun p => (p.1, ev p.2)) j = some f) (hj : f.a ≠ [] → ¬ s j) : OpSim P o ev g s f := by
  unfold stepBuildSlice at h
  split at h
  · rename_i e hu
    split at h
    · rename_i zs n bb hti
      split at h
      · rename_i hc
        obtain ⟨hpos, hlim⟩ := hc
        split at h
        · rename_i out hf
          cases h
          obtain ⟨i, z, hi, hz, h1, h2, h3, h4, h5, h6⟩ := tinf_spec hti
          intro base w0 ρ w act K Q hR hv hk
          have hpr := parts_rel (ev := ev) (g := g) (s := s) (ρ := ρ) (act := act) (parts := parts) (by simpa [ho, Op.operands] using hv)
          obtain ⟨m1, m2⟩ := madeCells_rel (ρ := ρ) (g := g) (s := s) h3 h6 (len * n) (fun _ => by omega)
          obtain ⟨out', q1, q2, q3, q4⟩ := fill_rel (ρ := ρ) (s := s) (g := g) m1 (by simp [size_madeCells]) hpr hf
          have hout := length_fillL hf
          rw [length_zcells] at hout
          obtain ⟨r1, r2⟩ := hR.added (.slice (some ⟨j, 0, some out.length⟩) len n) [] (hj (by simp)) (grown_alloc w (.cells out' e)) (Nat.le_refl _) (heap_alloc_new w _) q2 (q4 m2) _ rfl
          have hml : len ≤ maxLen := by
            have : len * 1 ≤ len * n := Nat.mul_le_mul_left _ hpos
            simp only [maxLen]; omega
          refine wp_of_run (v' := .slice (some ⟨w.heap.size, 0, none⟩) len len) (w' := w.alloc (.cells out' e)) ?_ (hk _ _ _ r1 r2 (VV_newSlice (.inr ⟨Nat.le_refl _, by simp⟩) (by omega) len (Nat.le_refl _) hml _ (by omega)))
          have hle : ¬ (len * n > 2 ^ 24) := by omega
          by_cases h0 : len * n = 0
          · have hmk : ((Array.range (len * n)).map ((#[] : Array Value)[· % (#[] : Array Value).size]!)) = madeCells z.cells (len * n) := by simp [h0, madeCells]
            simp only [execOp, ho, Instr.buildSlice, Sem.run_bind, run_underlying hu, Result.andThen_ok, sizeOf, typeInfo, run_program, Sem.run_pure, hi, h1, if_neg hle, if_pos h0, hmk, q1, newRow, Sem.run_bind, run_newObj, Result.andThen_ok, Sem.run_pure]
            rfl
          · have hmk : ((Array.range (len * n)).map (z.cells[· % z.cells.size]!)) = madeCells z.cells (len * n) := rfl
            simp only [execOp, ho, Instr.buildSlice, Sem.run_bind, run_underlying hu, Result.andThen_ok, sizeOf, typeInfo, run_program, Sem.run_pure, hi, h1, if_neg hle, if_neg h0, zeroValue, hz, hmk, q1, newRow, run_newObj]
            rfl
        · cases h
      · cases h
    · cases h
  · cases h

def stepMake (P : Program) (T : TypeId) (l c : Value) (j : Nat) : Option Eff :=
  match P.underlying T, l, c with
  | some (.slice e), .int _ n, .int _ n' => match tinf P e with
    | some (zs, k, bytes) => if 0 < k ∧ n = n' ∧ 0 ≤ n ∧ (bytes : Int) * n ≤ 281474976710656 ∧ n ≤ 281474976710656 then
        some { v := .slice (some ⟨j, 0, some (n.toNat * k)⟩) n.toNat k, j := j, a := [⟨false, e, zcells zs (n.toNat * k)⟩] } else none
    | none => none
  | _, _, _ => none

theorem sim_make {T : TypeId} {l c : Operand} {j : Nat} (ho : o.op = .makeSlice T l c) (h : stepMake P T (ev l) (ev c) j = some f) (hj : f.a ≠ [] → ¬ s j) : OpSim P o ev g s f := by
  unfold stepMake at h
  split at h
  · rename_i e kl n kc n' hu hl hc
    split at h
    · rename_i zs k bytes hti
      split at h
      · rename_i hcc
        obtain ⟨hpos, rfl, h0, hb, hn⟩ := hcc
        cases h
        obtain ⟨i, z, hi, hz, h1, h2, h3, h4, h5, h6⟩ := tinf_spec hti
        intro base w0 ρ w act K Q hR hv hk
        have hv1 := hv l (by simp [ho, Op.operands])
        have hv2 := hv c (by simp [ho, Op.operands])
        rw [hl, VV_int] at hv1
        rw [hc, VV_int] at hv2
        obtain ⟨m1, m2⟩ := madeCells_rel (ρ := ρ) (g := g) (s := s) h3 h6 (n.toNat * k) (fun _ => by omega)
        have hrun := run_make (P := P) w T e i z hu hi hz kl kc n n h0 (Int.le_refl _) (by rw [h2]; exact hb) (by omega)
        rw [h1] at hrun
        obtain ⟨r1, r2⟩ := hR.added (.slice (some ⟨j, 0, some (n.toNat * k)⟩) n.toNat k) [] (hj (by simp)) (grown_alloc w (.cells (madeCells z.cells (n.toNat * k)) e)) (Nat.le_refl _) (heap_alloc_new w _) m1 m2 _ rfl
        refine wp_of_run (v' := .slice (some ⟨w.heap.size, 0, none⟩) n.toNat n.toNat) ?_ (hk _ _ _ r1 r2 ?_)
        · simp only [execOp, ho, hv1, hv2, Sem.run_bind, hrun, Result.andThen_ok, Sem.run_pure]
        · have := VV_newSlice (g := g) (ρ := ρ) (j := j) (len := n.toNat) (n := k) (k0 := w.heap.size) (e := e) (cs := zcells zs (n.toNat * k)) (s' := Eff.sn { v := .slice (some ⟨j, 0, some (n.toNat * k)⟩) n.toNat k, j := j, a := [⟨false, e, zcells zs (n.toNat * k)⟩] } s)
            (.inr ⟨Nat.le_refl _, by simp⟩) (by simp) n.toNat (Nat.le_refl _) (by simp only [maxLen]; omega) (madeCells z.cells (n.toNat * k)).size (by simp [size_madeCells])
          rw [length_zcells] at this
          exact this
      · cases h
    · cases h
  · cases h
end

end Go.Proofs.Ytokmmcfnpobldaa.Abs
