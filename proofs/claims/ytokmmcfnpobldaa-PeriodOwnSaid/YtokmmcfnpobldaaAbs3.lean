/-
  The abstract machine, part 3: more operations: arithmetic, conversions, what writes and what makes memory.
-/
import Derived.Test.YtokmmcfnpobldaaAbs2
import Derived.Maps.AppendAt
import Derived.Laws.Entries
import Derived.Lib.SlBytesConst
namespace Go.Proofs.Ytokmmcfnpobldaa.Abs
open Go Go.RowKit

/-- An operation on two values; d: the operands' type. -/
def abin (op : BinOp) (d : Option TypeDesc) (x y : Value) : Option Value :=
  match x, y with
  | .int k a, .int k' b =>
    match op with
    | .shl => if 0 ≤ b then some (.int k (k.wrap (a * 2 ^ (min b.toNat k.bits)))) else none
    | .shr => if 0 ≤ b then some (.int k (a.fdiv (2 ^ (min b.toNat k.bits)))) else none
    | .add => if k = k' then some (.int k (k.wrap (a + b))) else none
    | .sub => if k = k' then some (.int k (k.wrap (a - b))) else none
    | .mul => if k = k' then some (.int k (k.wrap (a * b))) else none
    | .quo => if k = k' ∧ b ≠ 0 then some (.int k (k.wrap (a.tdiv b))) else none
    | .rem => if k = k' ∧ b ≠ 0 then some (.int k (a.tmod b)) else none
    | .and => if k = k' then some (.int k (bits .and k a b)) else none
    | .or => if k = k' then some (.int k (bits .or k a b)) else none
    | .xor => if k = k' then some (.int k (bits .xor k a b)) else none
    | .andNot => if k = k' then some (.int k (bits .andNot k a b)) else none
    | .eql => if k = k' then some (.bool (a == b)) else none
    | .neq => if k = k' then some (.bool (a != b)) else none
    | .lss => if k = k' then some (.bool (decide (a < b))) else none
    | .leq => if k = k' then some (.bool (decide (a ≤ b))) else none
    | .gtr => if k = k' then some (.bool (decide (a > b))) else none
    | .geq => if k = k' then some (.bool (decide (a ≥ b))) else none
  | .string a, .string b =>
    match op with
    | .eql => some (.bool (a.toList == b.toList))
    | .neq => some (.bool (!(a.toList == b.toList)))
    | _ => none
  | .bool a, .bool b =>
    match op, d with
    | .eql, some .bool => some (.bool (a == b))
    | .neq, some .bool => some (.bool (!(a == b)))
    | _, _ => none
  | .pointer a, .pointer none =>
    match op, d with
    | .eql, some (.pointer _) => some (.bool a.isNone)
    | .neq, some (.pointer _) => some (.bool (!a.isNone))
    | _, _ => none
  | .slice a _ _, .slice none _ _ =>
    match op, d with
    | .eql, some (.slice _) => some (.bool a.isNone)
    | .neq, some (.slice _) => some (.bool (!a.isNone))
    | _, _ => none
  | _, _ => none

def stepBin (P : Program) (op : BinOp) (T : TypeId) (x y : Value) : Option Eff :=
  match abin op (P.underlying T) x y with
  | some v => some { v := v }
  | none => none

section
variable {P : Program} {o : Oper} {ev : Operand → Value} {g : Heap} {s : Nat → Prop} {f : Eff}

theorem guard_free {op : BinOp} {t : TypeId} {x y : Operand} {a b : Value} (w : World) (h1 : ∀ c, a ≠ .agg c) (h2 : a ≠ .nilIface) : (eqGuard op t x y a b).run P w = .ok () w := by
  unfold eqGuard
  cases op <;> simp <;> cases a <;> first | (exact absurd rfl h2) | (exact absurd rfl (h1 _)) | simp

theorem run_equal_slice_nil' (w : World) (t e : TypeId) (a : Option Addr) (n c n' c' : Nat) (h : P.underlying t = some (.slice e)) (op : BinOp) :
    (op = .eql → (binOp op t (.slice a n c) (.slice none n' c')).run P w = .ok (.bool a.isNone) w) ∧ (op = .neq → (binOp op t (.slice a n c) (.slice none n' c')).run P w = .ok (.bool (!a.isNone)) w) :=
  ⟨fun e0 => by subst e0; exact Lib.run_eql_slice_nil w t e a n c n' c' h, fun e0 => by subst e0; exact run_neq_slice_nil_any w t e a n c n' c' h⟩

theorem abin_run {op : BinOp} {T : TypeId} {x y : Value} {v : Value} (h : abin op (P.underlying T) x y = some v) {ρ : Ren} {x' y' : Value} (hx : VV ρ g s x x') (hy : VV ρ g s y y') (w : World) (X Y : Operand) :
    (do eqGuard op T X Y x' y'; binOp op T x' y' : Sem Value).run P w = .ok v w ∧ plain v = true := by
  unfold abin at h
  split at h
  · rename_i k a k' b
    rw [VV_int] at hx hy
    subst hx hy
    have hgf := guard_free (P := P) (op := op) (t := T) (x := X) (y := Y) (a := Value.int k a) (b := Value.int k' b) w (by simp) (by simp)
    simp only [Sem.run_bind, hgf, Result.andThen_ok]
    cases op <;> simp only [] at h <;> split at h <;> first | (cases h; done) | skip
    all_goals (rename_i hc; cases h; try (obtain ⟨rfl, hc2⟩ := hc); try subst hc)
    all_goals first
      | (refine ⟨?_, rfl⟩; simp [binOp, Op.intArith]; done)
      | (refine ⟨?_, rfl⟩; simp [binOp, Op.intDiv, hc2]; done)
      | (refine ⟨?_, rfl⟩; simp [binOp, Op.intCmp]; done)
      | (refine ⟨?_, rfl⟩; simp [binOp, Op.shift, Int.not_lt.2 hc]; done)
      | (refine ⟨?_, rfl⟩; simp [binOp, Op.intBits, bits]; done)
  · rename_i a b
    rw [VV_string] at hx hy
    subst hx hy
    have hgf := guard_free (P := P) (op := op) (t := T) (x := X) (y := Y) (a := Value.string a) (b := Value.string b) w (by simp) (by simp)
    simp only [Sem.run_bind, hgf, Result.andThen_ok]
    cases op <;> simp only [reduceCtorEq] at h <;> cases h <;> exact ⟨by simp [binOp, Op.stringOp], rfl⟩
  · rename_i a b
    rw [VV_bool] at hx hy
    subst hx hy
    have hgf := guard_free (P := P) (op := op) (t := T) (x := X) (y := Y) (a := Value.bool a) (b := Value.bool b) w (by simp) (by simp)
    simp only [Sem.run_bind, hgf, Result.andThen_ok]
    split at h
    · rename_i hd; cases h; exact ⟨run_eql_bool w T a b hd, rfl⟩
    · rename_i hd; cases h; exact ⟨run_neq_bool w T a b hd, rfl⟩
    · cases h
  · rename_i a
    rw [VV_nilptr] at hy
    subst hy
    have hx' : ∃ p, x' = .pointer p ∧ p.isNone = a.isNone := by
      cases a with
      | none => rw [VV_nilptr] at hx; exact ⟨none, hx, rfl⟩
      | some a =>
        rw [VV_ptr] at hx
        obtain ⟨ver, _, a', e, _⟩ := VR_ptr hx.1
        exact ⟨some a', e, rfl⟩
    obtain ⟨p, rfl, hp⟩ := hx'
    have hgf := guard_free (P := P) (op := op) (t := T) (x := X) (y := Y) (a := Value.pointer p) (b := Value.pointer none) w (by simp) (by simp)
    simp only [Sem.run_bind, hgf, Result.andThen_ok]
    rw [← hp] at h
    split at h
    · rename_i q hd; cases h; exact ⟨run_eql_pointer_nil w T p (by simp [Program.pointee, hd]), rfl⟩
    · rename_i q hd; cases h; exact ⟨run_neq_pointer_nil w T p (by simp [Program.pointee, hd]), rfl⟩
    · cases h
  · rename_i a l c l' c'
    rw [VV_slice] at hy
    obtain ⟨rfl, _, _⟩ := VR_nilslice hy.1
    have hx' : ∃ p l1 c1, x' = .slice p l1 c1 ∧ p.isNone = a.isNone := by
      cases a with
      | none => rw [VV_slice] at hx; obtain ⟨e, _, _⟩ := VR_nilslice hx.1; exact ⟨none, 0, 0, e, rfl⟩
      | some a =>
        rw [VV_slice] at hx
        obtain ⟨a', cap', e, _⟩ := VR_slice hx.1
        exact ⟨some a', _, _, e, rfl⟩
    obtain ⟨p, l1, c1, rfl, hp⟩ := hx'
    have hgf := guard_free (P := P) (op := op) (t := T) (x := X) (y := Y) (a := Value.slice p l1 c1) (b := Value.slice none 0 0) w (by simp) (by simp)
    simp only [Sem.run_bind, hgf, Result.andThen_ok]
    rw [← hp] at h
    split at h
    · rename_i q hd; cases h; exact ⟨(run_equal_slice_nil' w T q p l1 c1 0 0 hd .eql).1 rfl, rfl⟩
    · rename_i q hd; cases h; exact ⟨(run_equal_slice_nil' w T q p l1 c1 0 0 hd .neq).2 rfl, rfl⟩
    · cases h
  · cases h

theorem VV_plain {ρ : Ren} {v : Value} (h : plain v = true) : VV ρ g s v v := VV_of_VR (VR_plain h) (SV1_plain h)

theorem sim_bin {op : BinOp} {T T' : TypeId} {x y : Operand} (ho : o.op = .binOp op T x y T') (h : stepBin P op T (ev x) (ev y) = some f) : OpSim P o ev g s f := by
  unfold stepBin at h
  split at h
  · rename_i v hv0
    cases h
    refine sim_pure [] _ fun base w0 ρ w act hR hv => ?_
    obtain ⟨h1, h2⟩ := abin_run hv0 (hv x (by simp [ho, Op.operands])) (hv y (by simp [ho, Op.operands])) w x y
    refine ⟨v, ?_, VV_plain h2⟩
    simp only [execOp, ho, Sem.run_bind] at h1 ⊢
    rw [h1]
    rfl
  · cases h

def stepUn (op : UnOp) (x : Value) : Option Eff :=
  match op, x with
  | .not, .bool b => some { v := .bool (!b) }
  | .neg, .int k n => some { v := .int k (k.wrap (0 - n)) }
  | .xor, .int k n => some { v := .int k (bits .xor k (if k.signed then -1 else k.max) n) }
  | _, _ => none

theorem sim_un {op : UnOp} {T : TypeId} {x : Operand} (ho : o.op = .unOp op T x) (h : stepUn op (ev x) = some f) : OpSim P o ev g s f := by
  unfold stepUn at h
  split at h
  · rename_i b hx
    cases h
    refine sim_pure [] _ fun base w0 ρ w act hR hv => ?_
    have h0 := hv x (by simp [ho, Op.operands])
    rw [hx, VV_bool] at h0
    exact ⟨_, by simp [execOp, ho, h0, Op.unary], VV_plain rfl⟩
  · rename_i k n hx
    cases h
    refine sim_pure [] _ fun base w0 ρ w act hR hv => ?_
    have h0 := hv x (by simp [ho, Op.operands])
    rw [hx, VV_int] at h0
    exact ⟨_, by simp [execOp, ho, h0, Op.unary, Op.intArith], VV_plain rfl⟩
  · rename_i k n hx
    cases h
    refine sim_pure [] _ fun base w0 ρ w act hR hv => ?_
    have h0 := hv x (by simp [ho, Op.operands])
    rw [hx, VV_int] at h0
    exact ⟨_, by simp [execOp, ho, h0, Op.unary, Op.intBits, bits], VV_plain rfl⟩
  · cases h

def stepExtract (x : Value) (i : Nat) : Option Eff :=
  match x with
  | .tuple vs => match vs[i]? with
    | some v => some { v := v }
    | none => none
  | _ => none

theorem sim_extract {x : Operand} {i : Nat} (ho : o.op = .extract x i) (h : stepExtract (ev x) i = some f) : OpSim P o ev g s f := by
  unfold stepExtract at h
  split at h
  · rename_i vs hx
    split at h
    · rename_i v hi
      cases h
      refine sim_pure [] _ fun base w0 ρ w act hR hv => ?_
      have h0 := hv x (by simp [ho, Op.operands])
      rw [hx] at h0
      obtain ⟨⟨vs', e, ha⟩, hs⟩ := h0
      obtain ⟨v', hv', hva⟩ := ha.2 i v (by simpa using hi)
      have hm : v ∈ vs.toList := List.mem_of_getElem? (by simpa using hi)
      refine ⟨v', ?_, ?_⟩
      · have : vs'[i]? = some v' := by simpa using hv'
        simp [execOp, ho, e, Instr.extract, this]
      · have hsv := hs v hm
        cases v <;> first | exact ⟨hva, hsv⟩ | exact hva.elim
    · cases h
  · cases h

/-- Bytes as a string. -/
def bstr (ns : List Int) : ByteArray := ns.foldl (fun r n => r.push (UInt8.ofNat n.toNat)) ByteArray.empty

def intsOf : List Value → Option (List Int)
  | [] => some []
  | .int .u8 n :: l => (intsOf l).map (n :: ·)
  | _ => none

theorem intsOf_spec : ∀ {l : List Value} {ns : List Int}, intsOf l = some ns → l = ns.map (Value.int .u8)
  | [], ns, h => by simp [intsOf] at h; subst h; rfl
  | v :: l, ns, h => by
    unfold intsOf at h
    split at h
    · rename_i heq; cases heq
    · rename_i n l' heq
      cases heq
      cases hl : intsOf l with
      | none => simp [hl] at h
      | some ms =>
        simp [hl] at h
        subst h
        rw [intsOf_spec hl]
        rfl
    · cases h

@[simp] theorem intsOf_map (ns : List Int) : intsOf (ns.map (Value.int .u8)) = some ns := by
  induction ns with
  | nil => rfl
  | cons n ns ih => simp [intsOf, ih]

def stepConv (P : Program) (S D : TypeId) (x : Value) (g : Heap) : Option Eff :=
  match P.underlying S, P.underlying D, x with
  | some _, some (.int k), .int _ n => some { v := .int k (k.wrap n) }
  | some _, some .string, .string t => some { v := .string t }
  | some (.slice e), some .string, .slice a len esz =>
    match P.underlying e with
    | some (.int .u8) =>
      match a with
      | none => some { v := .string .empty }
      | some a =>
        if len = 0 then some { v := .string .empty } else
        match rd g a with
        | some b => if esz = 1 then match intsOf ((b.cells.drop a.off).take len) with
            | some ns => some { v := .string (bstr ns), r := [a.block] }
            | none => none
          else none
        | none => none
    | _ => none
  | some (.slice e), some (.slice e'), .slice (some a) len esz =>
    match P.underlying e with
    | some (.int .u8) => match rd g a with
      | some b => if S = D ∧ e = e' ∧ b.ro = false then some { v := .slice (some a) len esz, r := [a.block], w := [(a.block, ⟨true, b.e, b.cells⟩)] } else none
      | none => none
    | _ => none
  | _, _, _ => none

theorem run_bytesToString_of {w : World} {a : Addr} {len cap : Nat} {ns : List Int} (hl : ns.length = len) (h : ∀ (j : Nat) (v : Value), (ns.map (Value.int .u8))[j]? = some v → w.cell? (a.add j) = some v) :
    (Conv.bytesToString (.slice (some a) len cap)).run P w = .ok (.string (bstr ns)) w :=
  run_bytesToString w a len cap ns (run_loadCells_of P (by simpa using hl) h)

theorem All2_ints {ρ : Ren} {k : IntKind} {ns : List Int} {cs : List Value} (h : All2 (VR ρ g) (ns.map (Value.int k)) cs) : cs = ns.map (Value.int k) := by
  apply List.ext_getElem?
  intro i
  by_cases hi : i < ns.length
  · obtain ⟨b, hb, hv⟩ := h.2 i (.int k ns[i]) (by simp [hi])
    rw [hb, hv]
    simp [hi]
  · have h1 := h.1
    simp only [List.length_map] at h1
    rw [List.getElem?_eq_none (by omega), List.getElem?_eq_none (by simp; omega)]

theorem sim_conv {S D : TypeId} {x : Operand} (ho : o.op = .convert S D x) (h : stepConv P S D (ev x) g = some f) : OpSim P o ev g s f := by
  unfold stepConv at h
  split at h
  · rename_i d k k' n hS hD hx
    cases h
    refine sim_pure [] _ fun base w0 ρ w act hR hv => ?_
    have h0 := hv x (by simp [ho, Op.operands])
    rw [hx, VV_int] at h0
    exact ⟨_, by simp [execOp, ho, h0, convert, run_underlying hS, run_underlying hD, Conv.intToInt], VV_plain rfl⟩
  · rename_i d t hS hD hx
    cases h
    refine sim_pure [] _ fun base w0 ρ w act hR hv => ?_
    have h0 := hv x (by simp [ho, Op.operands])
    rw [hx, VV_string] at h0
    refine ⟨.string t, ?_, VV_plain rfl⟩
    cases d <;> simp [execOp, ho, h0, convert, run_underlying hS, run_underlying hD]
  · rename_i e a len esz hS hD hx
    split at h
    · rename_i he
      split at h
      · cases h
        refine sim_pure [] _ fun base w0 ρ w act hR hv => ?_
        have h0 := hv x (by simp [ho, Op.operands])
        rw [hx, VV_slice] at h0
        obtain ⟨e', _, _⟩ := VR_nilslice h0.1
        exact ⟨_, by simp [execOp, ho, e', run_convert_bytes_string w S D e none 0 0 hS he hD, Conv.bytesToString], VV_plain rfl⟩
      · rename_i a
        split at h
        · rename_i hl
          cases h
          refine sim_pure [] _ fun base w0 ρ w act hR hv => ?_
          have h0 := hv x (by simp [ho, Op.operands])
          rw [hx, VV_slice] at h0
          obtain ⟨a', cap', e', _⟩ := VR_slice h0.1
          subst hl
          have := run_bytesToString_of (P := P) (w := w) (a := a') (len := 0) (cap := cap') (ns := []) rfl (by simp)
          exact ⟨_, by simp [execOp, ho, e', run_convert_bytes_string w S D e _ _ _ hS he hD, this, bstr], VV_plain rfl⟩
        · split at h
          · rename_i b hb
            split at h
            · rename_i hesz
              subst hesz
              split at h
              · rename_i ns hns
                cases h
                obtain ⟨hsp, hg⟩ := rd_spec hb
                refine sim_pure [a.block] _ fun base w0 ρ w act hR hv => ?_
                have h0 := hv x (by simp [ho, Op.operands])
                rw [hx, VV_slice] at h0
                obtain ⟨cap', e', q1, q2, q3, q4⟩ := VR_slice_live hb h0.1
                obtain ⟨cs, c1, c2, c3⟩ := hR.cells hg a.off len (by omega)
                have hns' := intsOf_spec hns
                rw [hns'] at c3
                have hcs := All2_ints c3
                subst hcs
                have hlen : ns.length = len := by simpa using c1
                have := run_bytesToString_of (P := P) (w := w) (cap := cap') hlen c2
                exact ⟨_, by simp [execOp, ho, e', run_convert_bytes_string w S D e _ _ _ hS he hD, this], VV_plain rfl⟩
              · cases h
            · cases h
          · cases h
    · cases h
  · rename_i e e' a len esz hS hD hx
    split at h
    · rename_i he
      split at h
      · rename_i b hb
        split at h
        · rename_i hc
          obtain ⟨rfl, rfl, hro⟩ := hc
          cases h
          obtain ⟨hsp, hg⟩ := rd_spec hb
          intro base w0 ρ w act K Q hR hv hk
          have h0 := hv x (by simp [ho, Op.operands])
          have h1 := h0
          rw [hx, VV_slice] at h0
          obtain ⟨cap', e', q1, q2, q3, q4⟩ := VR_slice_live hb h0.1
          obtain ⟨_, _, cur, hcur, hK, _⟩ := hR.own _ b hg hro
          have hsh : w.shape? (ρ a.block).blk = some (b.e, cur.size) := by simp [World.shape?, hcur]
          obtain ⟨w', hw'⟩ : ∃ w', w' = w.freeze ⟨(ρ a.block).blk, cur.size, none⟩ 1 := ⟨_, rfl⟩
          have hrun : (execOp act.eval o).run P w = .ok (.value (act.eval x)) w' := by
            simp [execOp, ho, e', convert, run_underlying hS, run_underlying he, markStringish, hsh, hw']
          have hfr : w'.heap[(ρ a.block).blk]? = some (.cells cur b.e (cur.size, cur.size + 1)) := by
            simp only [hw', World.freeze, Nat.one_ne_zero, if_false, Array.getElem?_modify, if_true, hcur, Option.map_some]
            simp
          have hoth : ∀ k, k ≠ (ρ a.block).blk → w'.heap[k]? = w.heap[k]? := by
            intro k hk
            simp only [hw', World.freeze, Nat.one_ne_zero, if_false, Array.getElem?_modify]
            rw [if_neg (fun e => hk e.symm)]
          have hgr : w.grownBy w' (some (ρ a.block).blk) := ⟨by rw [hw']; rfl, by rw [hw']; rfl, by rw [hw']; rfl, by simp [hw', World.freeze], fun k _ hne => hoth k (fun e => hne (by rw [e]))⟩
          obtain ⟨r1, r2⟩ := hR.toRo hg hro hgr (fun k => by rw [cell_of_row w' _ k cur _ _ hfr, cell_of_row w _ k cur _ _ hcur])
          refine wp_of_run hrun (hk ρ w' _ (r1.sn0 _) r2 ?_)
          rw [hx] at h1
          exact VV.imp ⟨VT.mono r2 h1.2 h1.1, h1.2⟩ (fun i hi => .inl hi)
        · cases h
      · cases h
    · cases h
  · cases h

def stepLen (P : Program) (T : TypeId) (x : Value) : Option Eff :=
  match P.underlying T, x with
  | some (.slice _), .slice _ n _ => some { v := .int .i64 n }
  | some .string, .string t => some { v := .int .i64 t.size }
  | some (.array n _), _ => some { v := .int .i64 n }
  | _, _ => none

theorem sim_len {T : TypeId} {x : Operand} (ho : o.op = .call { callee := .builtin .len, args := #[x], argTypes := #[T] }) (h : stepLen P T (ev x) = some f) : OpSim P o ev g s f := by
  unfold stepLen at h
  split at h
  · rename_i e a n c hT hx
    cases h
    refine sim_pure [] _ fun base w0 ρ w act hR hv => ?_
    have h0 := hv x (by simp [ho, Op.operands, Call.operands])
    rw [hx, VV_slice] at h0
    have : ∃ a' c', act.eval x = .slice a' n c' := by
      cases a with
      | none => obtain ⟨e, e2, _⟩ := VR_nilslice h0.1; exact ⟨none, 0, by rw [e, e2]⟩
      | some a => obtain ⟨a', c', e, _⟩ := VR_slice h0.1; exact ⟨some a', c', e⟩
    obtain ⟨a', c', e⟩ := this
    exact ⟨_, by simp [execOp, ho, resolve, invoke, builtin, e, Builtin.len_, run_underlying hT, goInt], VV_plain rfl⟩
  · rename_i t hT hx
    cases h
    refine sim_pure [] _ fun base w0 ρ w act hR hv => ?_
    have h0 := hv x (by simp [ho, Op.operands, Call.operands])
    rw [hx, VV_string] at h0
    exact ⟨_, by simp [execOp, ho, resolve, invoke, builtin, h0, Builtin.len_, run_underlying hT, goInt], VV_plain rfl⟩
  · rename_i n e hT
    cases h
    refine sim_pure [] _ fun base w0 ρ w act hR hv => ?_
    exact ⟨_, by simp [execOp, ho, resolve, invoke, builtin, Builtin.len_, run_underlying hT, goInt], VV_plain rfl⟩
  · cases h

def stepIdx (P : Program) (T : TypeId) (x ix : Value) : Option Eff :=
  match P.underlying T, x, ix with
  | some .string, .string t, .int _ i => match (if 0 ≤ i then t[i.toNat]? else none) with
    | some b => some { v := .int .u8 b.toNat }
    | none => none
  | _, _, _ => none

theorem sim_idx {T : TypeId} {x ix : Operand} (ho : o.op = .index T x ix) (h : stepIdx P T (ev x) (ev ix) = some f) : OpSim P o ev g s f := by
  unfold stepIdx at h
  split at h
  · rename_i t k i hT hx hi
    split at h
    · rename_i b hb
      cases h
      refine sim_pure [] _ fun base w0 ρ w act hR hv => ?_
      have h0 := hv x (by simp [ho, Op.operands])
      have h1 := hv ix (by simp [ho, Op.operands])
      rw [hx, VV_string] at h0
      rw [hi, VV_int] at h1
      refine ⟨_, ?_, VV_plain rfl⟩
      simp only [execOp, ho, h0, h1, Instr.index, asIntOf, Sem.run_bind, Sem.run_pure, run_underlying hT, Result.andThen_ok, hb]
    · cases h
  · cases h

def stepMin (x y : Value) : Option Eff :=
  match x, y with
  | .int k a, .int _ b => some { v := .int k (if b < a then b else a) }
  | _, _ => none

theorem sim_min {T T' : TypeId} {x y : Operand} (ho : o.op = .call { callee := .builtin .min, args := #[x, y], argTypes := #[T, T'] }) (h : stepMin (ev x) (ev y) = some f) : OpSim P o ev g s f := by
  unfold stepMin at h
  split at h
  · rename_i k a k' b hx hy
    cases h
    refine sim_pure [] _ fun base w0 ρ w act hR hv => ?_
    have h0 := hv x (by simp [ho, Op.operands, Call.operands])
    have h1 := hv y (by simp [ho, Op.operands, Call.operands])
    rw [hx, VV_int] at h0
    rw [hy, VV_int] at h1
    exact ⟨_, by simp [execOp, ho, resolve, invoke, builtin, h0, h1, run_min_int2], VV_plain rfl⟩
  · cases h
end

end Go.Proofs.Ytokmmcfnpobldaa.Abs
