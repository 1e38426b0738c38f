/-
  The abstract machine, part 11: words for walking: a row of operations run by rewriting; calls; slices that are read, slices that are owned.
-/
import Derived.Test.YtokmmcfnpobldaaAbs10
namespace Go.Proofs.Ytokmmcfnpobldaa.Abs
open Go Go.RowKit

structure St where
  t : Nat → Value
  g : Heap
  n : Nat

/-- Operations in the text's order, none of them a call of a function. -/
def runL (P : Program) (ops : Array Oper) : List Oper → St → Option St
  | [], s => some s
  | o :: rest, s => match awant ops o s.t with
    | some true => match astep P o.op (evl s.t) s.g s.n with
      | some f => runL P ops rest ⟨put s.t o.dst f.v, f.ap s.g, s.n + f.a.length⟩
      | none => none
    | some false => runL P ops rest ⟨put s.t o.dst undef, s.g, s.n⟩
    | none => none

/-- The same, where nothing is written or made. -/
def runR (P : Program) (ops : Array Oper) : List Oper → St → Option St
  | [], s => some s
  | o :: rest, s => match awant ops o s.t with
    | some true => match astep P o.op (evl s.t) s.g s.n with
      | some f => if f.w.isEmpty && f.a.isEmpty then runR P ops rest ⟨put s.t o.dst f.v, s.g, s.n⟩ else none
      | none => none
    | some false => runR P ops rest ⟨put s.t o.dst undef, s.g, s.n⟩
    | none => none

section
variable {P : Program} {ops : Array Oper} {K : (Nat → Value) → Heap → Nat → Prop} {t : Nat → Value} {g : Heap} {n : Nat}

theorem ops_run : ∀ {l : List Oper} {t : Nat → Value} {g : Heap} {n : Nat} {s : St}, runL P ops l ⟨t, g, n⟩ = some s → K s.t s.g s.n → awpOps P ops K l t g n
  | [], t, g, n, s, h, hk => by simp only [runL, Option.some.injEq] at h; subst h; exact hk
  | o :: rest, t, g, n, s, h, hk => by
    simp only [runL] at h
    split at h
    · rename_i hw
      split at h
      · rename_i f hf
        exact ⟨true, hw, f, .inl hf, ops_run h hk⟩
      · cases h
    · rename_i hw
      exact ⟨false, hw, ops_run h hk⟩
    · cases h

/-- The first k operations are run. -/
theorem ops_take (k : Nat) : ∀ {l : List Oper} {t : Nat → Value} {g : Heap} {n : Nat} {s : St}, runL P ops (l.take k) ⟨t, g, n⟩ = some s → awpOps P ops K (l.drop k) s.t s.g s.n → awpOps P ops K l t g n := by
  induction k with
  | zero => intro l t g n s h hk; simp only [List.take_zero, runL, Option.some.injEq] at h; subst h; simpa using hk
  | succ k ih =>
    intro l t g n s h hk
    cases l with
    | nil => simp only [List.take_nil, runL, Option.some.injEq] at h; subst h; simpa using hk
    | cons o rest =>
      simp only [List.take_succ_cons, runL] at h
      simp only [List.drop_succ_cons] at hk
      split at h
      · rename_i hw
        split at h
        · rename_i f hf
          exact ⟨true, hw, f, .inl hf, ih h hk⟩
        · cases h
      · rename_i hw
        exact ⟨false, hw, ih h hk⟩
      · cases h

/-- One operation, its effect given. -/
theorem ops_step {o : Oper} {rest : List Oper} (f : Eff) (h : astep P o.op (evl t) g n = some f) (hw : awant ops o t = some true) (hk : awpOps P ops K rest (put t o.dst f.v) (f.ap g) (n + f.a.length)) : awpOps P ops K (o :: rest) t g n :=
  ⟨true, hw, f, .inl h, hk⟩

theorem region_run {id : Nat} {Q : AQ} {t' : Nat → Value} {g' : Heap} {n' : Nat} (h : runL P ops ops.toList ⟨t, g, n⟩ = some ⟨t', g', n'⟩) (hk : Q .normal t' g' n') : awp P (.region id ops false) Q t g n := ops_run h hk

theorem region_take {id : Nat} {Q : AQ} {t' : Nat → Value} {g' : Heap} {n' : Nat} (k : Nat) (h : runL P ops (ops.toList.take k) ⟨t, g, n⟩ = some ⟨t', g', n'⟩) (hk : awpOps P ops (Q .normal) (ops.toList.drop k) t' g' n') : awp P (.region id ops false) Q t g n := ops_take k h hk

theorem wr_nil {f : Eff} (h1 : f.w.isEmpty = true) (h2 : f.a.isEmpty = true) : f.wr = [] ∧ ∀ g, f.ap g = g := by
  simp only [List.isEmpty_iff] at h1 h2
  refine ⟨by simp [Eff.wr, h1, h2], fun g => by simp [Eff.ap, h1, h2, setAll, addAll]⟩

theorem opsD_run {bf : Array Nat} : ∀ {l : List Oper} {idx : Nat} {acc : List FP} {t : Nat → Value} {s : St}, (∀ p ∈ acc, p.2.2 = []) → runR P ops l ⟨t, g, n⟩ = some s → K s.t s.g s.n → awpD P ops bf K l idx acc t g n
  | [], idx, acc, t, s, _, h, hk => by simp only [runR, Option.some.injEq] at h; subst h; exact hk
  | o :: rest, idx, acc, t, s, ha, h, hk => by
    simp only [runR] at h
    split at h
    · rename_i hw
      split at h
      · rename_i f hf
        split at h
        · rename_i he
          simp only [Bool.and_eq_true] at he
          obtain ⟨h1, h2⟩ := wr_nil he.1 he.2
          have h3 : f.a.length = 0 := by have := he.2; simp only [List.isEmpty_iff] at this; simp [this]
          refine ⟨true, hw, f, .inl hf, fun p hp => .inr ⟨?_, ?_⟩, ?_⟩
          · rw [ha p hp]; simp
          · rw [h1]; simp
          · rw [h2, h3]
            refine opsD_run ?_ h hk
            intro p hp
            split at hp
            · exact ha p hp
            · rcases List.mem_cons.1 hp with rfl | hp
              · exact h1
              · exact ha p hp
        · cases h
      · cases h
    · rename_i hw
      exact ⟨false, hw, opsD_run ha h hk⟩
    · cases h

/-- A statement whose order is open and that only reads. -/
theorem draw_run {id : Nat} {Q : AQ} {t' : Nat → Value} {g' : Heap} {n' : Nat} (bf : Array Nat) (hd : drawOK ops bf = true) (h : runR P ops ops.toList ⟨t, g, n⟩ = some ⟨t', g', n'⟩) (hk : Q .normal t' g' n') : awp P (.region id ops true) Q t g n :=
  ⟨bf, hd, opsD_run (by simp) h hk⟩

/-- A call by its contract. -/
theorem ops_call {dst : Option Tmp} {ty : TypeId} {pos : String} {af : Array Edge} {rest : List Oper} {fo : Operand} {args : Array Operand} {ts : Array TypeId} (k : FuncId) (f : Eff) (hf : evl t fo = .func (.func k) #[] #[])
    (hspec : FnSpec P k (args.toList.map (evl t)) g f) (hj : f.a ≠ [] → f.j = n) (h : awpOps P ops K rest (put t dst f.v) (f.ap g) (n + f.a.length)) :
    awpOps P ops K (⟨dst, .call { callee := .value fo, args := args, argTypes := ts }, ty, pos, af, none⟩ :: rest) t g n :=
  ⟨true, rfl, f, .inr ⟨_, fo, k, rfl, rfl, hf, hj, hspec⟩, h⟩

theorem g_call {dst : Option Tmp} {ty : TypeId} {pos : String} {af : Array Edge} {rest : List Oper} {fo : Operand} {args : Array Operand} {ts : Array TypeId} {j : Nat} {w : Bool} (k : FuncId) (f : Eff)
    (hw : awant ops ⟨dst, .call { callee := .value fo, args := args, argTypes := ts }, ty, pos, af, some (j, w)⟩ t = some true) (hf : evl t fo = .func (.func k) #[] #[])
    (hspec : FnSpec P k (args.toList.map (evl t)) g f) (hj : f.a ≠ [] → f.j = n) (h : awpOps P ops K rest (put t dst f.v) (f.ap g) (n + f.a.length)) :
    awpOps P ops K (⟨dst, .call { callee := .value fo, args := args, argTypes := ts }, ty, pos, af, some (j, w)⟩ :: rest) t g n :=
  ⟨true, hw, f, .inr ⟨_, fo, k, rfl, rfl, hf, hj, hspec⟩, h⟩

/-- The heap under a name. -/
theorem ops_heap {l : List Oper} (h : ∀ G, G = g → awpOps P ops K l t G n) : awpOps P ops K l t g n := h g rfl
theorem w_heap {c : Code} {Q : AQ} (h : ∀ G, G = g → awp P c Q t G n) : awp P c Q t g n := h g rfl

theorem w_seq {a b : Code} {Q : AQ} (h : awp P a (athen (awp P b Q) Q) t g n) : awp P (.seq a b) Q t g n := h
theorem w_skip {Q : AQ} (h : Q .normal t g n) : awp P .skip Q t g n := h
theorem w_block {id : Nat} {c : Code} {Q : AQ} (h : awp P c (ainBlock id Q) t g n) : awp P (.block id c) Q t g n := h
theorem w_exit {id : Nat} {Q : AQ} (h : Q (.exit id) t g n) : awp P (.exit id) Q t g n := h
theorem w_ret {Q : AQ} (h : Q .ret t g n) : awp P .ret Q t g n := h
theorem w_true {c : Operand} {x y : Code} {Q : AQ} (hc : evl t c = .bool true) (h : awp P x Q t g n) : awp P (.cond c x y) Q t g n := ⟨true, hc, fun _ => h, fun e => by cases e⟩
theorem w_false {c : Operand} {x y : Code} {Q : AQ} (hc : evl t c = .bool false) (h : awp P y Q t g n) : awp P (.cond c x y) Q t g n := ⟨false, hc, (fun e => by cases e), fun _ => h⟩
theorem w_cond {c : Operand} {x y : Code} {Q : AQ} {b : Bool} (hc : evl t c = .bool b) (h1 : b = true → awp P x Q t g n) (h2 : b = false → awp P y Q t g n) : awp P (.cond c x y) Q t g n := ⟨b, hc, h1, h2⟩
theorem w_loop {c : Code} {Q : AQ} (I : (Nat → Value) → Heap → Nat → Prop) (μ : (Nat → Value) → Heap → Nat → Nat) (h0 : I t g n)
    (h : ∀ t g n, I t g n → awp P c (athen (fun t' g' n' => I t' g' n' ∧ μ t' g' n' < μ t g n) Q) t g n) : awp P (.loop c) Q t g n := ⟨I, μ, h0, h⟩

theorem awp_mono : ∀ {c : Code} {Q Q' : AQ} {t : Nat → Value} {g : Heap} {n : Nat}, (∀ e t g n, Q e t g n → Q' e t g n) → awp P c Q t g n → awp P c Q' t g n := by
  have hops : ∀ {ops : Array Oper} {K K' : (Nat → Value) → Heap → Nat → Prop} (l : List Oper) (t : Nat → Value) (g : Heap) (n : Nat), (∀ t g n, K t g n → K' t g n) → awpOps P ops K l t g n → awpOps P ops K' l t g n := by
    intro ops K K' l
    induction l with
    | nil => intro t g n hq h; exact hq _ _ _ h
    | cons o l ih =>
      intro t g n hq h
      obtain ⟨b, hb, h⟩ := h
      refine ⟨b, hb, ?_⟩
      cases b with
      | true => obtain ⟨f, hf, h⟩ := h; exact ⟨f, hf, ih _ _ _ hq h⟩
      | false => exact ih _ _ _ hq h
  have hopsD : ∀ {ops : Array Oper} {bf : Array Nat} {K K' : (Nat → Value) → Heap → Nat → Prop} (l : List Oper) (idx : Nat) (acc : List FP) (t : Nat → Value) (g : Heap) (n : Nat), (∀ t g n, K t g n → K' t g n) → awpD P ops bf K l idx acc t g n → awpD P ops bf K' l idx acc t g n := by
    intro ops bf K K' l
    induction l with
    | nil => intro idx acc t g n hq h; exact hq _ _ _ h
    | cons o l ih =>
      intro idx acc t g n hq h
      obtain ⟨b, hb, h⟩ := h
      refine ⟨b, hb, ?_⟩
      cases b with
      | true => obtain ⟨f, hf, hp, h⟩ := h; exact ⟨f, hf, hp, ih _ _ _ _ _ hq h⟩
      | false => exact ih _ _ _ _ _ hq h
  intro c
  induction c with
  | region id ops draw =>
    intro Q Q' t g n hq h
    cases draw with
    | false => exact hops _ _ _ _ (fun t g n => hq _ t g n) h
    | true => obtain ⟨bf, hd, h⟩ := h; exact ⟨bf, hd, hopsD _ _ _ _ _ _ (fun t g n => hq _ t g n) h⟩
  | seq a b iha ihb =>
    intro Q Q' t g n hq h
    refine iha ?_ h
    intro e t g n he
    cases e with
    | normal => exact ihb hq he
    | _ => exact hq _ _ _ _ he
  | cond c x y ihx ihy => exact fun hq ⟨b, hb, h1, h2⟩ => ⟨b, hb, fun e => ihx hq (h1 e), fun e => ihy hq (h2 e)⟩
  | block id c ih =>
    intro Q Q' t g n hq h
    refine ih ?_ h
    intro e t g n he
    cases e with
    | exit id' =>
      simp only [ainBlock] at he ⊢
      split at he
      · rename_i e; rw [if_pos e]; exact hq _ _ _ _ he
      · rename_i e; rw [if_neg e]; exact hq _ _ _ _ he
    | _ => exact hq _ _ _ _ he
  | loop c ih =>
    intro Q Q' t g n hq ⟨I, μ, h0, h⟩
    refine ⟨I, μ, h0, fun t g n hI => ih ?_ (h t g n hI)⟩
    intro e t g n he
    cases e with
    | normal => exact he
    | _ => exact hq _ _ _ _ he
  | skip => exact fun hq h => hq _ _ _ _ h
  | exit id => exact fun hq h => hq _ _ _ _ h
  | ret => exact fun hq h => hq _ _ _ _ h
  | _ => exact fun _ h => h.elim

/-- What stands behind code, under a name. -/
theorem w_cut {c : Code} {Q : AQ} (K : AQ) (h : awp P c K t g n) (hk : ∀ e t g n, K e t g n → Q e t g n) : awp P c Q t g n := awp_mono hk h
end

theorem awant_none {ops : Array Oper} {dst : Option Tmp} {op : Op} {ty : TypeId} {pos : String} {af : Array Edge} {t : Nat → Value} : awant ops ⟨dst, op, ty, pos, af, none⟩ t = some true := rfl

theorem b_tt : (true == true) = true := rfl
theorem b_tf : (true == false) = false := rfl
theorem b_ft : (false == true) = false := rfl
theorem b_ff : (false == false) = true := rfl

theorem awant_some {ops : Array Oper} {dst : Option Tmp} {op : Op} {ty : TypeId} {pos : String} {af : Array Edge} {t : Nat → Value} {j : Nat} {w : Bool} : awant ops ⟨dst, op, ty, pos, af, some (j, w)⟩ t = (match (ops[j]?).bind (·.dst) with
  | some d => match t d with
    | .bool b => some (b == w)
    | _ => none
  | none => none) := rfl

theorem ap_none (v : Value) (r : List Nat) (j : Nat) (g : Heap) : Eff.ap { v := v, r := r, j := j } g = g := rfl
theorem ap_new (v : Value) (r : List Nat) (j : Nat) (b : Blk) (g : Heap) : Eff.ap { v := v, r := r, j := j, a := [b] } g = upd g j (some b) := rfl
theorem ap_wr (v : Value) (r : List Nat) (j i : Nat) (b : Blk) (g : Heap) : Eff.ap { v := v, r := r, w := [(i, b)], j := j } g = upd g i (some b) := rfl
theorem upd_app {α : Type} (f : Nat → α) (i : Nat) (x : α) (k : Nat) : upd f i x k = if k = i then x else f k := rfl

end Go.Proofs.Ytokmmcfnpobldaa.Abs
