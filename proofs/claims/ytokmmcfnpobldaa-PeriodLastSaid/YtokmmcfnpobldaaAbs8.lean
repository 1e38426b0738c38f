/-
  The abstract machine, part 8: a statement whose order Go leaves open: one walk in the text's order serves all orders, where operations that are not ordered do not meet in memory.
-/
import Derived.Test.YtokmmcfnpobldaaAbs7
namespace Go.Proofs.Ytokmmcfnpobldaa.Abs
open Go Go.RowKit

def Eff.wr (f : Eff) : List Nat := f.w.map (·.1) ++ List.range' f.j f.a.length

theorem setAll_out : ∀ {l : List (Nat × Blk)} {g : Heap} {b : Nat}, b ∉ l.map (·.1) → setAll g l b = g b
  | [], _, _, _ => rfl
  | (i, x) :: l, g, b, h => by
    simp only [List.map_cons, List.mem_cons, not_or] at h
    rw [setAll, setAll_out h.2, upd_ne _ _ h.1]

theorem addAll_out : ∀ {l : List Blk} {g : Heap} {j b : Nat}, (b < j ∨ j + l.length ≤ b) → addAll g j l b = g b
  | [], _, _, _, _ => rfl
  | x :: l, g, j, b, h => by
    simp only [List.length_cons] at h
    rw [addAll, addAll_out (by omega), upd_ne _ _ (by omega)]

theorem setAll_in : ∀ {l : List (Nat × Blk)} {g g' : Heap} {b : Nat}, b ∈ l.map (·.1) → setAll g l b = setAll g' l b
  | [], _, _, _, h => by simp at h
  | (i, x) :: l, g, g', b, h => by
    rw [setAll, setAll]
    by_cases hm : b ∈ l.map (·.1)
    · exact setAll_in hm
    · rw [setAll_out hm, setAll_out hm]
      simp only [List.map_cons, List.mem_cons] at h
      rcases h with rfl | h
      · simp
      · exact absurd h hm

theorem addAll_in : ∀ {l : List Blk} {g g' : Heap} {j b : Nat}, j ≤ b → b < j + l.length → addAll g j l b = addAll g' j l b
  | [], _, _, _, _, h, h' => by simp at h'; omega
  | x :: l, g, g', j, b, h, h' => by
    rw [addAll, addAll]
    simp only [List.length_cons] at h'
    by_cases e : b = j
    · subst e
      rw [addAll_out (by omega), addAll_out (by omega)]
      simp
    · exact addAll_in (by omega) (by omega)

theorem ap_out {f : Eff} {g : Heap} {b : Nat} (h : b ∉ f.wr) : f.ap g b = g b := by
  simp only [Eff.wr, List.mem_append, not_or, List.mem_range'_1, not_and] at h
  unfold Eff.ap
  rw [addAll_out (by have := h.2; omega), setAll_out h.1]

theorem ap_in {f : Eff} {g g' : Heap} {b : Nat} (h : b ∈ f.wr) : f.ap g b = f.ap g' b := by
  simp only [Eff.wr, List.mem_append, List.mem_range'_1] at h
  unfold Eff.ap
  by_cases hb : f.j ≤ b ∧ b < f.j + f.a.length
  · exact addAll_in hb.1 hb.2
  · rcases h with h | h
    · rw [addAll_out (by omega), addAll_out (by omega)]
      exact setAll_in h
    · exact absurd h hb

def dstOf (ops : Array Oper) (m : Nat) : Option Tmp := (ops[m]?).bind (·.dst)
def valOf (E : Nat → Option Eff) (m : Nat) : Value := match E m with | some f => f.v | none => undef
def apOf (E : Nat → Option Eff) (m : Nat) (g : Heap) : Heap := match E m with | some f => f.ap g | none => g
def wrOf (E : Nat → Option Eff) (m : Nat) : List Nat := match E m with | some f => f.wr | none => []
def lenOf (E : Nat → Option Eff) (m : Nat) : Nat := match E m with | some f => f.a.length | none => 0

def tD (ops : Array Oper) (E : Nat → Option Eff) (sel : Nat → Bool) (t0 : Nat → Value) : Nat → Nat → Value
  | 0 => t0
  | m + 1 => if sel m then put (tD ops E sel t0 m) (dstOf ops m) (valOf E m) else tD ops E sel t0 m
def gD (E : Nat → Option Eff) (sel : Nat → Bool) (g0 : Heap) : Nat → Heap
  | 0 => g0
  | m + 1 => if sel m then apOf E m (gD E sel g0 m) else gD E sel g0 m
def nD (E : Nat → Option Eff) (n0 : Nat) : Nat → Nat
  | 0 => n0
  | m + 1 => nD E n0 m + lenOf E m
def sD (E : Nat → Option Eff) (sel : Nat → Bool) (n0 m : Nat) : Nat → Prop :=
  fun i => i < n0 ∨ ∃ k f, k < m ∧ sel k = true ∧ E k = some f ∧ f.j ≤ i ∧ i < f.j + f.a.length

def allSel : Nat → Bool := fun _ => true

section
variable {ops : Array Oper} {E : Nat → Option Eff} {sel : Nat → Bool} {t0 : Nat → Value} {g0 : Heap}

theorem put_ne {t : Nat → Value} {dst : Option Tmp} {v : Value} {x : Tmp} (h : dst ≠ some x) : put t dst v x = t x := by
  cases dst with
  | none => rfl
  | some d => exact upd_ne _ _ (fun e => h (by rw [e]))

theorem tD_late {x : Tmp} {i : Nat} : ∀ m, i ≤ m → (∀ k, i ≤ k → k < m → sel k = true → dstOf ops k ≠ some x) → tD ops E sel t0 m x = tD ops E sel t0 i x
  | 0, h, _ => by
    have : i = 0 := by omega
    subst this; rfl
  | m + 1, h, hh => by
    by_cases e : i = m + 1
    · subst e; rfl
    · rw [← tD_late m (by omega) (fun k h1 h2 => hh k h1 (by omega))]
      rw [tD]
      split
      · rename_i hs
        exact put_ne (hh m (by omega) (by omega) hs)
      · rfl

theorem tD_early {x : Tmp} : ∀ i, (∀ k, k < i → dstOf ops k = some x → sel k = true) → tD ops E sel t0 i x = tD ops E allSel t0 i x
  | 0, _ => rfl
  | i + 1, h => by
    have ih := tD_early i (fun k hk => h k (by omega))
    rw [tD, tD]
    by_cases e : dstOf ops i = some x
    · have hs := h i (by omega) e
      rw [if_pos hs, if_pos (show allSel i = true from rfl), e]
      simp [put]
    · rw [if_pos (show allSel i = true from rfl)]
      rw [put_ne e]
      split
      · rw [put_ne e]; exact ih
      · exact ih

theorem gD_late {b : Nat} {i : Nat} : ∀ m, i ≤ m → (∀ k, i ≤ k → k < m → sel k = true → b ∉ wrOf E k) → gD E sel g0 m b = gD E sel g0 i b
  | 0, h, _ => by
    have : i = 0 := by omega
    subst this; rfl
  | m + 1, h, hh => by
    by_cases e : i = m + 1
    · subst e; rfl
    · rw [← gD_late m (by omega) (fun k h1 h2 => hh k h1 (by omega))]
      rw [gD]
      split
      · rename_i hs
        have := hh m (by omega) (by omega) hs
        unfold apOf
        unfold wrOf at this
        cases hE : E m with
        | none => rfl
        | some f => simp only [hE] at this ⊢; exact ap_out this
      · rfl

theorem apOf_out {m : Nat} {g : Heap} {b : Nat} (h : b ∉ wrOf E m) : apOf E m g b = g b := by
  unfold apOf
  unfold wrOf at h
  cases hE : E m with
  | none => rfl
  | some f => simp only [hE] at h ⊢; exact ap_out h

theorem apOf_in {m : Nat} {g g' : Heap} {b : Nat} (h : b ∈ wrOf E m) : apOf E m g b = apOf E m g' b := by
  unfold apOf
  unfold wrOf at h
  cases hE : E m with
  | none => simp [hE] at h
  | some f => simp only [hE] at h ⊢; exact ap_in h

theorem gD_early {b : Nat} : ∀ i, (∀ k, k < i → b ∈ wrOf E k → sel k = true) → gD E sel g0 i b = gD E allSel g0 i b
  | 0, _ => rfl
  | i + 1, h => by
    have ih := gD_early i (fun k hk => h k (by omega))
    rw [gD, gD]
    by_cases e : b ∈ wrOf E i
    · have hs := h i (by omega) e
      rw [if_pos hs, if_pos (show allSel i = true from rfl)]
      exact apOf_in e
    · rw [if_pos (show allSel i = true from rfl)]
      rw [apOf_out e]
      split
      · rw [apOf_out e]; exact ih
      · exact ih

def sel1 (sel : Nat → Bool) (i : Nat) : Nat → Bool := fun k => k == i || sel k

theorem tD_insert {i : Nat} (hi : sel i = false) : ∀ m, i < m → (∀ k, i < k → k < m → sel k = true → ∀ x, dstOf ops i = some x → dstOf ops k ≠ some x) →
    tD ops E (sel1 sel i) t0 m = put (tD ops E sel t0 m) (dstOf ops i) (valOf E i) := by
  have low : ∀ m, m ≤ i → tD ops E (sel1 sel i) t0 m = tD ops E sel t0 m := by
    intro m
    induction m with
    | zero => intro _; rfl
    | succ m ih =>
      intro h
      rw [tD, tD, ih (by omega)]
      have : sel1 sel i m = sel m := by simp [sel1]; omega
      rw [this]
  intro m
  induction m with
  | zero => intro h; omega
  | succ m ih =>
    intro h hh
    by_cases e : m = i
    · subst e
      rw [tD, tD, low m (Nat.le_refl _), hi]
      simp [sel1]
    · have ih' := ih (by omega) (fun k h1 h2 => hh k h1 (by omega))
      rw [tD, tD, ih']
      have : sel1 sel i m = sel m := by simp [sel1, e]
      rw [this]
      split
      · rename_i hs
        have hne := hh m (by omega) (by omega) hs
        cases hd : dstOf ops i with
        | none => rfl
        | some d =>
          have hne' := hne d hd
          cases hd2 : dstOf ops m with
          | none => rfl
          | some d2 =>
            have : d2 ≠ d := fun e => hne' (by rw [hd2, e])
            funext x
            simp only [put, upd]
            by_cases e1 : x = d
            · subst e1
              rw [if_pos rfl, if_neg (Ne.symm this), if_pos rfl]
            · by_cases e2 : x = d2
              · subst e2
                rw [if_pos rfl, if_neg e1]
                simp
              · rw [if_neg e2, if_neg e1, if_neg e2]
                simp [e1]
      · rfl

theorem gD_insert {i : Nat} (hi : sel i = false) : ∀ m, i < m → (∀ k, i < k → k < m → sel k = true → ∀ b ∈ wrOf E i, b ∉ wrOf E k) →
    gD E (sel1 sel i) g0 m = apOf E i (gD E sel g0 m) := by
  have low : ∀ m, m ≤ i → gD E (sel1 sel i) g0 m = gD E sel g0 m := by
    intro m
    induction m with
    | zero => intro _; rfl
    | succ m ih =>
      intro h
      rw [gD, gD, ih (by omega)]
      have : sel1 sel i m = sel m := by simp [sel1]; omega
      rw [this]
  intro m
  induction m with
  | zero => intro h; omega
  | succ m ih =>
    intro h hh
    by_cases e : m = i
    · subst e
      rw [gD, gD, low m (Nat.le_refl _), hi]
      simp [sel1]
    · have ih' := ih (by omega) (fun k h1 h2 => hh k h1 (by omega))
      rw [gD, gD, ih']
      have : sel1 sel i m = sel m := by simp [sel1, e]
      rw [this]
      split
      · rename_i hs
        have hne := hh m (by omega) (by omega) hs
        funext b
        by_cases h1 : b ∈ wrOf E i
        · have h2 := hne b h1
          rw [apOf_out h2]
          exact apOf_in h1
        · by_cases h2 : b ∈ wrOf E m
          · rw [apOf_out (m := i) h1]
            exact apOf_in h2
          · rw [apOf_out h2, apOf_out h1, apOf_out h1, apOf_out h2]
      · rfl
end

/-- The certificate of a region's order: bf tells of each operation which ones come before it. -/
def drawOK (ops : Array Oper) (bf : Array Nat) : Bool :=
  (List.range ops.size).all fun i => match ops[i]? with
    | none => false
    | some o =>
      (o.after.all fun e => !Region.binds .any e || decide (e.on < i)) &&
      ((List.range ops.size).all fun k => !(bf.getD i 0).testBit k || o.after.any fun e => Region.binds .any e && (e.on == k || (bf.getD e.on 0).testBit k)) &&
      ((List.range i).all fun k => match ops[k]? with
        | none => false
        | some p => Oper.apart ops p o || (bf.getD i 0).testBit k) &&
      (match o.guard with
       | none => true
       | some (j, _) => decide (j < i) && (bf.getD i 0).testBit j)

structure DrawOK (ops : Array Oper) (bf : Array Nat) : Prop where
  edge : ∀ (i : Nat) (o : Oper), ops[i]? = some o → ∀ e ∈ o.after, Region.binds .any e = true → e.on < i
  bit : ∀ (i : Nat) (o : Oper), ops[i]? = some o → ∀ k, k < ops.size → (bf.getD i 0).testBit k = true → ∃ e ∈ o.after, Region.binds .any e = true ∧ (e.on = k ∨ (bf.getD e.on 0).testBit k = true)
  part : ∀ (i k : Nat) (o p : Oper), k < i → ops[i]? = some o → ops[k]? = some p → Oper.apart ops p o = true ∨ (bf.getD i 0).testBit k = true

theorem drawOK_spec {ops : Array Oper} {bf : Array Nat} (h : drawOK ops bf = true) : DrawOK ops bf := by
  have hall : ∀ (i : Nat) (o : Oper), ops[i]? = some o → _ := fun i o ho => by
    have hlt : i < ops.size := (Array.getElem?_eq_some_iff.1 ho).1
    have h1 := List.all_eq_true.1 h i (List.mem_range.2 hlt)
    simp only [ho, Bool.and_eq_true] at h1
    exact h1
  refine ⟨fun i o ho e he hb => ?_, fun i o ho k hk hb => ?_, fun i k o p hk ho hp => ?_⟩
  · have h1 := Array.all_eq_true_iff_forall_mem.1 (hall i o ho).1.1.1 e he
    simpa [hb] using h1
  · have h1 := List.all_eq_true.1 (hall i o ho).1.1.2 k (List.mem_range.2 hk)
    rw [hb] at h1
    simp only [Bool.not_true, Bool.false_or] at h1
    obtain ⟨e, he, h2⟩ := Array.any_eq_true'.1 h1
    simp only [Bool.and_eq_true, Bool.or_eq_true, beq_iff_eq] at h2
    exact ⟨e, he, h2⟩
  · have h1 := List.all_eq_true.1 (hall i o ho).1.2 k (List.mem_range.2 hk)
    simp only [hp, Bool.or_eq_true] at h1
    exact h1

def Disj (f f' : Eff) : Prop := (∀ b ∈ f.wr, b ∉ f'.r ∧ b ∉ f'.wr) ∧ ∀ b ∈ f.r, b ∉ f'.wr

structure Run (P : Program) (ops : Array Oper) (bf : Array Nat) (E : Nat → Option Eff) (t0 : Nat → Value) (g0 : Heap) (n0 : Nat) : Prop where
  want : ∀ (i : Nat) (o : Oper), ops[i]? = some o → awant ops o (tD ops E allSel t0 i) = some (E i).isSome
  step : ∀ (i : Nat) (o : Oper) (f : Eff), ops[i]? = some o → E i = some f → Stp P o.op (evl (tD ops E allSel t0 i)) (gD E allSel g0 i) (nD E n0 i) f
  pair : ∀ (i k : Nat) (f f' : Eff), i < k → k < ops.size → E i = some f → E k = some f' → (bf.getD k 0).testBit i = true ∨ Disj f f'

theorem fp_cases {f : Eff} {b : Nat} (h : b ∈ f.fp) : b ∈ f.r ∨ b ∈ f.wr := by
  simp only [Eff.fp, List.mem_append] at h
  rcases h with h | h
  · exact .inl h
  · exact .inr (by simp only [Eff.wr, List.mem_append]; exact .inl h)

theorem nD_mono {E : Nat → Option Eff} {n0 : Nat} {i k : Nat} (h : i ≤ k) : nD E n0 i ≤ nD E n0 k := by
  induction k with
  | zero => have : i = 0 := by omega
            subst this; exact Nat.le_refl _
  | succ k ih =>
    by_cases e : i = k + 1
    · subst e; exact Nat.le_refl _
    · have := ih (by omega)
      rw [nD]
      omega

theorem mem_ready' {md : Region.Mode} {ops : Array Oper} {listed : Array Bool} {i : Nat} (h : i ∈ Region.ready md ops listed) :
    i < ops.size ∧ listed.getD i true = false ∧ ∃ o, ops[i]? = some o ∧ ∀ e ∈ o.after, Region.binds md e = true → listed.getD e.on false = true := by
  unfold Region.ready at h
  obtain ⟨h1, h2⟩ := List.mem_filter.1 h
  have hlt := List.mem_range.1 h1
  simp only [Bool.and_eq_true, Bool.not_eq_true'] at h2
  cases ho : ops[i]? with
  | none => simp [ho] at h2
  | some o =>
    refine ⟨hlt, h2.1, o, rfl, fun e he hb => ?_⟩
    have h3 := h2.2
    simp only [ho, Option.map_some, Option.getD_some] at h3
    have h4 := Array.all_eq_true_iff_forall_mem.1 h3 e he
    simpa [hb] using h4

section
variable {P : Program} {ops : Array Oper} {bf : Array Nat} {E : Nat → Option Eff} {t0 : Nat → Value} {g0 : Heap} {n0 N : Nat} {Q : Exit → Act → World → Prop}

/-- What is listed is closed. -/
def Closed (ops : Array Oper) (sel : Nat → Bool) : Prop := ∀ (j : Nat) (o : Oper), ops[j]? = some o → sel j = true → ∀ e ∈ o.after, Region.binds .any e = true → sel e.on = true

theorem closed_bits (hd : DrawOK ops bf) {sel : Nat → Bool} (hc : Closed ops sel) : ∀ (m j : Nat), j ≤ m → j < ops.size → (∀ (o : Oper), ops[j]? = some o → ∀ e ∈ o.after, Region.binds .any e = true → sel e.on = true) → ∀ k, k < ops.size → (bf.getD j 0).testBit k = true → sel k = true := by
  intro m
  induction m with
  | zero =>
    intro j hj hlt hready k hk hb
    obtain ⟨o, ho⟩ : ∃ o, ops[j]? = some o := ⟨ops[j], by simp [hlt]⟩
    obtain ⟨e, he, hbind, _⟩ := hd.bit j o ho k hk hb
    have := hd.edge j o ho e he hbind
    omega
  | succ m ih =>
    intro j hj hlt hready k hk hb
    obtain ⟨o, ho⟩ : ∃ o, ops[j]? = some o := ⟨ops[j], by simp [hlt]⟩
    obtain ⟨e, he, hbind, h2⟩ := hd.bit j o ho k hk hb
    have hlt2 := hd.edge j o ho e he hbind
    have hs := hready o ho e he hbind
    rcases h2 with rfl | h2
    · exact hs
    · exact ih e.on (by omega) (by omega) (fun o' ho' e' he' hb' => hc e.on o' ho' hs e' he' hb') k hk h2

theorem closed_listed (hd : DrawOK ops bf) {sel : Nat → Bool} (hc : Closed ops sel) {j : Nat} (hj : j < ops.size) (hs : sel j = true) {k : Nat} (hk : k < ops.size) (hb : (bf.getD j 0).testBit k = true) : sel k = true :=
  closed_bits hd hc j j (Nat.le_refl _) hj (fun o ho e he hbi => hc j o ho hs e he hbi) k hk hb

theorem looks_tmp {o : Oper} {x : Tmp} (h : Operand.tmp x ∈ o.op.operands) : x ∈ o.looksAt ops := by
  simp only [Oper.looksAt, List.mem_append, List.mem_filterMap]
  exact .inl ⟨.tmp x, by simpa using h, rfl⟩

theorem looks_guard {o : Oper} {j : Nat} {b : Bool} {d : Tmp} (hg : o.guard = some (j, b)) (hd : (ops[j]?).bind (·.dst) = some d) : d ∈ o.looksAt ops := by
  simp only [Oper.looksAt, List.mem_append, hg, hd]
  exact .inr (by simp)

/-- At an operation that is ready, what it looks at is what it is in the text's order. -/
theorem tD_ready (hd : DrawOK ops bf) {sel : Nat → Bool} (hc : Closed ops sel) {i : Nat} {o : Oper} (ho : ops[i]? = some o) (hi : sel i = false)
    (hready : ∀ e ∈ o.after, Region.binds .any e = true → sel e.on = true) {x : Tmp} (hx : x ∈ o.looksAt ops) : tD ops E sel t0 ops.size x = tD ops E allSel t0 i x := by
  have hlt : i < ops.size := (Array.getElem?_eq_some_iff.1 ho).1
  rw [tD_late (i := i) ops.size (by omega), tD_early i]
  · intro k hk hdst
    obtain ⟨p, hp⟩ : ∃ p, ops[k]? = some p := ⟨ops[k], by simp [show k < ops.size by omega]⟩
    have hpd : p.dst = some x := by simpa [dstOf, hp] using hdst
    rcases hd.part i k o p hk ho hp with h | h
    · exact absurd hx ((Oper.apart_spec h).1 x hpd)
    · exact closed_bits hd hc i i (Nat.le_refl _) hlt (fun o' ho' e he hb => by rw [ho] at ho'; cases ho'; exact hready e he hb) k (by omega) h
  · intro k h1 h2 hs hdst
    obtain ⟨p, hp⟩ : ∃ p, ops[k]? = some p := ⟨ops[k], by simp [h2]⟩
    have hpd : p.dst = some x := by simpa [dstOf, hp] using hdst
    by_cases e : k = i
    · subst e; rw [hi] at hs; cases hs
    · rcases hd.part k i p o (by omega) hp ho with h | h
      · exact (Oper.apart_spec h).2.2 x hpd hx
      · have := closed_listed hd hc h2 hs hlt h
        rw [hi] at this; cases this

theorem gD_ready (hd : DrawOK ops bf) (hr : Run P ops bf E t0 g0 n0) {sel : Nat → Bool} (hc : Closed ops sel) {i : Nat} {o : Oper} {f : Eff} (ho : ops[i]? = some o) (hf : E i = some f) (hi : sel i = false)
    (hready : ∀ e ∈ o.after, Region.binds .any e = true → sel e.on = true) {b : Nat} (hb : b ∈ f.fp) : gD E sel g0 ops.size b = gD E allSel g0 i b := by
  have hlt : i < ops.size := (Array.getElem?_eq_some_iff.1 ho).1
  rw [gD_late (i := i) ops.size (by omega), gD_early i]
  · intro k hk hw
    unfold wrOf at hw
    cases hE : E k with
    | none => simp [hE] at hw
    | some f' =>
      simp only [hE] at hw
      rcases hr.pair k i f' f hk hlt hE hf with h | h
      · exact closed_bits hd hc i i (Nat.le_refl _) hlt (fun o' ho' e he hb => by rw [ho] at ho'; cases ho'; exact hready e he hb) k (by omega) h
      · rcases fp_cases hb with h1 | h1
        · exact absurd h1 (h.1 b hw).1
        · exact absurd h1 (h.1 b hw).2
  · intro k h1 h2 hs hw
    by_cases e : k = i
    · subst e; rw [hi] at hs; cases hs
    · unfold wrOf at hw
      cases hE : E k with
      | none => simp [hE] at hw
      | some f' =>
        simp only [hE] at hw
        rcases hr.pair i k f f' (by omega) h2 hf hE with h | h
        · have := closed_listed hd hc h2 hs hlt h
          rw [hi] at this; cases this
        · rcases fp_cases hb with h3 | h3
          · exact h.2 b h3 hw
          · exact (h.1 b h3).2 hw

theorem fresh_ready (hr : Run P ops bf E t0 g0 n0) {sel : Nat → Bool} {i : Nat} {o : Oper} {f : Eff} (ho : ops[i]? = some o) (hf : E i = some f) (hi : sel i = false) : Fresh f (sD E sel n0 ops.size) := by
  intro x h1 h2 h3
  have hlt : i < ops.size := (Array.getElem?_eq_some_iff.1 ho).1
  have ha : f.a ≠ [] := by intro e; simp [e] at h2; omega
  have hj := (hr.step i o f ho hf).j ha
  have hn1 : nD E n0 (i + 1) = nD E n0 i + f.a.length := by simp [nD, lenOf, hf]
  rcases h3 with h3 | ⟨k, f', hk, hs, hE, h4, h5⟩
  · have := nD_mono (E := E) (n0 := n0) (Nat.zero_le i)
    rw [nD] at this
    omega
  · have hk' : k ≠ i := by rintro rfl; rw [hi] at hs; cases hs
    obtain ⟨p, hp⟩ : ∃ p, ops[k]? = some p := ⟨ops[k], by simp [hk]⟩
    have ha' : f'.a ≠ [] := by intro e; simp [e] at h5; omega
    have hj' := (hr.step k p f' hp hE).j ha'
    have hn2 : nD E n0 (k + 1) = nD E n0 k + f'.a.length := by simp [nD, lenOf, hE]
    rcases Nat.lt_or_gt_of_ne hk' with hlt' | hgt
    · have := nD_mono (E := E) (n0 := n0) (show k + 1 ≤ i by omega)
      omega
    · have := nD_mono (E := E) (n0 := n0) (show i + 1 ≤ k by omega)
      omega

def unlisted (ops : Array Oper) (sel : Nat → Bool) : Nat := (List.range ops.size).countP (fun k => !sel k)

theorem unlisted_insert {sel : Nat → Bool} {i : Nat} (hlt : i < ops.size) (hi : sel i = false) : unlisted ops sel = unlisted ops (sel1 sel i) + 1 := by
  unfold unlisted
  generalize ops.size = m at hlt
  induction m with
  | zero => omega
  | succ m ih =>
    rw [List.range_succ, List.countP_append, List.countP_append]
    by_cases e : i = m
    · subst e
      have : ∀ (k : Nat), k ∈ List.range i → (!sel k) = (!sel1 sel i k) := fun k hk => by
        have := List.mem_range.1 hk
        simp [sel1]; omega
      rw [List.countP_congr (fun k hk => by rw [this k hk])]
      simp [hi, sel1]
    · have := ih (by omega)
      rw [this]
      have hm : sel1 sel i m = sel m := by simp [sel1]; omega
      simp only [List.countP_singleton, hm]
      omega

theorem unlisted_zero {sel : Nat → Bool} (h : unlisted ops sel = 0) : ∀ k, k < ops.size → sel k = true := by
  intro k hk
  unfold unlisted at h
  rw [List.countP_eq_zero] at h
  have := h k (List.mem_range.2 hk)
  simpa using this

def selOf (listed : Array Bool) : Nat → Bool := fun k => listed.getD k false

theorem selOf_set {listed : Array Bool} {i : Nat} (hi : i < listed.size) : selOf (listed.setIfInBounds i true) = sel1 (selOf listed) i := by
  funext k
  simp only [selOf, sel1]
  by_cases e : k = i
  · subst e; simp [hi]
  · have e' : i ≠ k := Ne.symm e
    simp [e, Array.getElem?_setIfInBounds_ne e']

theorem ready_nil (hd : DrawOK ops bf) {listed : Array Bool} (hsz : listed.size = ops.size) (h : Region.ready .any ops listed = []) : ∀ m, m ≤ ops.size → ∀ k, k < m → selOf listed k = true := by
  intro m
  induction m with
  | zero => intro _ k hk; omega
  | succ m ih =>
    intro hm k hk
    by_cases e : k = m
    · subst e
      cases hs : selOf listed k with
      | true => rfl
      | false =>
        exfalso
        have hmem : k ∈ Region.ready .any ops listed := by
          unfold Region.ready
          refine List.mem_filter.2 ⟨List.mem_range.2 (by omega), ?_⟩
          have ho : ops[k]? = some ops[k] := by simp [show k < ops.size by omega]
          simp only [Bool.and_eq_true, Bool.not_eq_true', ho, Option.map_some, Option.getD_some]
          constructor
          · simp only [selOf] at hs
            have hk' : k < listed.size := by omega
            simp only [Array.getD, hk', dite_true] at hs ⊢
            exact hs
          · refine Array.all_eq_true_iff_forall_mem.2 fun e he => ?_
            cases hb : Region.binds .any e with
            | false => rfl
            | true =>
              have := hd.edge k _ ho e he hb
              have := ih (by omega) e.on (by omega)
              simpa [selOf] using this
        rw [h] at hmem
        simp at hmem
    · exact ih (by omega) k (by omega)

theorem tD_all (t0 : Nat → Value) (g0 : Heap) {sel : Nat → Bool} : ∀ m, (∀ k, k < m → sel k = true) → tD ops E sel t0 m = tD ops E allSel t0 m ∧ gD E sel g0 m = gD E allSel g0 m
  | 0, _ => ⟨rfl, rfl⟩
  | m + 1, h => by
    obtain ⟨h1, h2⟩ := tD_all t0 g0 m (fun k hk => h k (by omega))
    have hs := h m (by omega)
    rw [tD, tD, gD, gD, h1, h2]
    simp [hs, allSel]

theorem sD_lt (hr : Run P ops bf E t0 g0 n0) {sel : Nat → Bool} {i : Nat} (h : sD E sel n0 ops.size i) : i < nD E n0 ops.size := by
  rcases h with h | ⟨k, f, hk, hs, hE, h1, h2⟩
  · have := nD_mono (E := E) (n0 := n0) (Nat.zero_le ops.size)
    rw [nD] at this
    omega
  · obtain ⟨p, hp⟩ : ∃ p, ops[k]? = some p := ⟨ops[k], by simp [hk]⟩
    have ha : f.a ≠ [] := by intro e; simp [e] at h2; omega
    have hj := (hr.step k p f hp hE).j ha
    have hn : nD E n0 (k + 1) = nD E n0 k + f.a.length := by simp [nD, lenOf, hE]
    have := nD_mono (E := E) (n0 := n0) (show k + 1 ≤ ops.size by omega)
    omega

theorem draw_sound (hd : DrawOK ops bf) (hr : Run P ops bf E t0 g0 n0) (hok : ∀ o ∈ ops.toList, okOper N o = true) {base : Nat} {w0 : World} {ρ0 : Ren} {gg : Heap} {ss : Nat → Prop}
    (hQ : ∀ ρ w a, HR base w0 ρ (gD E allSel g0 ops.size) (· < nD E n0 ops.size) w → TR N ρ (gD E allSel g0 ops.size) (· < nD E n0 ops.size) (tD ops E allSel t0 ops.size) a → Mono ρ0 gg ss ρ (gD E allSel g0 ops.size) → (∀ i, ss i → i < nD E n0 ops.size) → Q .normal a w) :
    ∀ (fuel : Nat) (listed : Array Bool) (ρ : Ren) (w : World) (a : Act), listed.size = ops.size → Closed ops (selOf listed) → unlisted ops (selOf listed) = fuel →
      HR base w0 ρ (gD E (selOf listed) g0 ops.size) (sD E (selOf listed) n0 ops.size) w → TR N ρ (gD E (selOf listed) g0 ops.size) (sD E (selOf listed) n0 ops.size) (tD ops E (selOf listed) t0 ops.size) a →
      Mono ρ0 gg ss ρ (gD E (selOf listed) g0 ops.size) → (∀ i, ss i → i < n0) → wpAny P .any ops Q fuel listed a w := by
  have fin : ∀ (listed : Array Bool) (ρ : Ren) (w : World) (a : Act), (∀ k, k < ops.size → selOf listed k = true) →
      HR base w0 ρ (gD E (selOf listed) g0 ops.size) (sD E (selOf listed) n0 ops.size) w → TR N ρ (gD E (selOf listed) g0 ops.size) (sD E (selOf listed) n0 ops.size) (tD ops E (selOf listed) t0 ops.size) a →
      Mono ρ0 gg ss ρ (gD E (selOf listed) g0 ops.size) → (∀ i, ss i → i < n0) → Q .normal a w := by
    intro listed ρ w a hall hR hT hM hS
    obtain ⟨e1, e2⟩ := tD_all (ops := ops) (E := E) t0 g0 ops.size hall
    rw [e2] at hR hM
    rw [e1, e2] at hT
    have hlt : ∀ i, sD E (selOf listed) n0 ops.size i → i < nD E n0 ops.size := fun i => sD_lt hr
    have h0 : n0 ≤ nD E n0 ops.size := by have := nD_mono (E := E) (n0 := n0) (Nat.zero_le ops.size); rw [nD] at this; exact this
    exact hQ ρ w a (hR.seenMore hlt ⟨_, fun i hi => hi⟩) ⟨hT.defers, hT.size, fun i => (hT.val i).imp hlt⟩ hM (fun i hi => by have := hS i hi; omega)
  intro fuel
  induction fuel with
  | zero =>
    intro listed ρ w a hsz hc hu hR hT hM hS
    have hall := unlisted_zero hu
    refine ⟨?_, fin listed ρ w a hall hR hT hM hS⟩
    cases hrd : Region.ready .any ops listed with
    | nil => rfl
    | cons x xs =>
      exfalso
      obtain ⟨h1, h2, _⟩ := mem_ready' (i := x) (by rw [hrd]; simp)
      have h3 := hall x h1
      have hx : x < listed.size := by omega
      simp only [selOf, Array.getD, hx, dite_true] at h2 h3
      rw [h3] at h2
      cases h2
  | succ fuel ih =>
    intro listed ρ w a hsz hc hu hR hT hM hS
    refine ⟨fun hnil => fin listed ρ w a (ready_nil hd hsz hnil ops.size (Nat.le_refl _)) hR hT hM hS, fun i hi => ?_⟩
    obtain ⟨hlt, hl, o, ho, hready⟩ := mem_ready' hi
    have hx : i < listed.size := by omega
    have hsel : selOf listed i = false := by
      simp only [selOf, Array.getD, hx, dite_true] at hl ⊢
      exact hl
    have hokm := hok o (List.mem_of_getElem? (by simpa using ho))
    simp only [okOper, Bool.and_eq_true] at hokm
    have hops : ∀ x ∈ o.op.operands, okOperand x = true := fun x hx => List.all_eq_true.1 hokm.2 x (by simpa using hx)
    have hset := selOf_set hx
    have hc' : Closed ops (selOf (listed.setIfInBounds i true)) := by
      rw [hset]
      intro j oj hoj hs e he hb
      by_cases ej : j = i
      · subst ej
        rw [ho] at hoj
        cases hoj
        have := hready e he hb
        simp [sel1, selOf] at this ⊢
        exact .inr this
      · have hs' : selOf listed j = true := by simpa [sel1, ej] using hs
        have := hc j oj hoj hs' e he hb
        simp [sel1, this]
    have hu' : unlisted ops (selOf (listed.setIfInBounds i true)) = fuel := by
      rw [hset]
      have := unlisted_insert (ops := ops) hlt hsel
      omega
    have hsz' : (listed.setIfInBounds i true).size = ops.size := by simpa using hsz
    have hready' : ∀ e ∈ o.after, Region.binds .any e = true → selOf listed e.on = true := hready
    have htl : tD ops E (selOf (listed.setIfInBounds i true)) t0 ops.size = put (tD ops E (selOf listed) t0 ops.size) o.dst (valOf E i) := by
      rw [hset, tD_insert hsel ops.size hlt]
      · simp [dstOf, ho]
      · intro k h1 h2 hs x hxd hkd
        obtain ⟨p, hp⟩ : ∃ p, ops[k]? = some p := ⟨ops[k], by simp [h2]⟩
        rcases hd.part k i p o h1 hp ho with h | h
        · exact (Oper.apart_spec h).2.1 x (by simpa [dstOf, ho] using hxd) (by simpa [dstOf, hp] using hkd)
        · have := closed_listed hd hc h2 hs hlt h
          rw [hsel] at this; cases this
    have hgl : gD E (selOf (listed.setIfInBounds i true)) g0 ops.size = apOf E i (gD E (selOf listed) g0 ops.size) := by
      rw [hset, gD_insert hsel ops.size hlt]
      intro k h1 h2 hs b hb hb'
      unfold wrOf at hb hb'
      cases hE : E i with
      | none => simp [hE] at hb
      | some f =>
        cases hE' : E k with
        | none => simp [hE'] at hb'
        | some f' =>
          simp only [hE] at hb
          simp only [hE'] at hb'
          rcases hr.pair i k f f' h1 h2 hE hE' with h | h
          · have := closed_listed hd hc h2 hs hlt h
            rw [hsel] at this; cases this
          · exact (h.1 b hb).2 hb'
    have hlook : ∀ x ∈ o.looksAt ops, tD ops E (selOf listed) t0 ops.size x = tD ops E allSel t0 i x := fun x hx => tD_ready hd hc ho hsel hready' hx
    have haw : awant ops o (tD ops E (selOf listed) t0 ops.size) = some (E i).isSome := by
      rw [← hr.want i o ho]
      unfold awant
      cases hg : o.guard with
      | none => rfl
      | some p =>
        obtain ⟨j, b⟩ := p
        simp only
        cases hdd : (ops[j]?).bind (·.dst) with
        | none => rfl
        | some d => simp only [hlook d (looks_guard hg hdd)]
    have hw := awant_spec hT haw
    unfold wpOp
    simp only [ho]
    cases hE : E i with
    | none =>
      rw [if_neg (by simp [hw, hE])]
      have hsub : ∀ x, sD E (selOf listed) n0 ops.size x → sD E (selOf (listed.setIfInBounds i true)) n0 ops.size x := by
        intro x hx
        rcases hx with hx | ⟨k, f, hk, hs, r⟩
        · exact .inl hx
        · exact .inr ⟨k, f, hk, by rw [hset]; simp [sel1, hs], r⟩
      have hgl' : gD E (selOf (listed.setIfInBounds i true)) g0 ops.size = gD E (selOf listed) g0 ops.size := by rw [hgl]; simp [apOf, hE]
      have hfin : ∃ n, ∀ x, sD E (selOf (listed.setIfInBounds i true)) n0 ops.size x → x < n := ⟨_, fun x => sD_lt hr⟩
      refine ih _ ρ w _ hsz' hc' hu' ?_ ?_ ?_ hS
      · rw [hgl']; exact hR.seenMore hsub hfin
      · rw [hgl', htl]
        refine TR.put ⟨hT.defers, hT.size, fun x => (hT.val x).imp hsub⟩ hokm.1 ?_
        simp only [valOf, hE]
        exact VV_undef
      · rw [hgl']; exact hM
    | some f =>
      rw [if_pos (by simp [hw, hE])]
      have hst := hr.step i o f ho hE
      have hev : ∀ x ∈ o.op.operands, evl (tD ops E (selOf listed) t0 ops.size) x = evl (tD ops E allSel t0 i) x := by
        intro x hx
        cases x with
        | tmp y => exact hlook y (looks_tmp hx)
        | _ => rfl
      refine .inl (hst.sim hev (fun b hb => gD_ready hd hr hc ho hE hsel hready' hb) (fresh_ready hr ho hE hsel) base w0 ρ w a _ Q hR (fun x hx => hT.eval (hops x hx)) fun ρ' w' v' hR' hM' hv' => ?_)
      have hgl' : gD E (selOf (listed.setIfInBounds i true)) g0 ops.size = f.ap (gD E (selOf listed) g0 ops.size) := by rw [hgl]; simp [apOf, hE]
      have hsub : ∀ x, f.sn (sD E (selOf listed) n0 ops.size) x → sD E (selOf (listed.setIfInBounds i true)) n0 ops.size x := by
        intro x hx
        rcases hx with (hx | ⟨k, f', hk, hs, r⟩) | hx
        · exact .inl hx
        · exact .inr ⟨k, f', hk, by rw [hset]; simp [sel1, hs], r⟩
        · exact .inr ⟨i, f, hlt, by rw [hset]; simp [sel1], hE, hx⟩
      have hfin : ∃ n, ∀ x, sD E (selOf (listed.setIfInBounds i true)) n0 ops.size x → x < n := ⟨_, fun x => sD_lt hr⟩
      refine ih _ ρ' w' _ hsz' hc' hu' ?_ ?_ ?_ hS
      · rw [hgl']; exact hR'.seenMore hsub hfin
      · rw [hgl', htl]
        have h1 := hT.mono hM' (fun x hx => hsub x (.inl hx))
        have h2 := hv'.imp hsub
        have h3 : valOf E i = f.v := by simp [valOf, hE]
        rw [h3]
        exact h1.put hokm.1 h2
      · rw [hgl']
        exact hM.trans (fun x hx => .inl (hS x hx)) hM'
end

end Go.Proofs.Ytokmmcfnpobldaa.Abs
