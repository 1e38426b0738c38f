import Derived.Test.YtdpkhijbikbhnaaAbsB
import Derived.Laws.BitsLemmas
import Derived.OpenShut
/-
  The abstract machine, part 11: words for walking: a row of operations run by rewriting; calls; slices that are read, slices that are owned.
-/
namespace Go.Proofs.Ytdpkhijbikbhnaa.Abs
open Go Go.RowKit

structure St where
  t : Nat → Value
  g : Heap
  n : Nat

/-- Operations in the text's order, none of them a call of a function. -/
def runL (P : Program) (ops : Array Oper) : List Oper → St → Option St
  | [], s => some s
  | o :: rest, s => match awant ops o s.t with
    | some true => match astep P o.op (evl s.t) s.g s.n with
      | some f => runL P ops rest ⟨put s.t o.dst f.v, f.ap s.g, s.n + f.a.length⟩
      | none => none
    | some false => runL P ops rest ⟨put s.t o.dst undef, s.g, s.n⟩
    | none => none

/-- The same, where nothing is written or made. -/
def runR (P : Program) (ops : Array Oper) : List Oper → St → Option St
  | [], s => some s
  | o :: rest, s => match awant ops o s.t with
    | some true => match astep P o.op (evl s.t) s.g s.n with
      | some f => if f.w.isEmpty && f.a.isEmpty then runR P ops rest ⟨put s.t o.dst f.v, s.g, s.n⟩ else none
      | none => none
    | some false => runR P ops rest ⟨put s.t o.dst undef, s.g, s.n⟩
    | none => none

section
variable {P : Program} {ops : Array Oper} {K : (Nat → Value) → Heap → Nat → Prop} {t : Nat → Value} {g : Heap} {n : Nat}

theorem ops_run : ∀ {l : List Oper} {t : Nat → Value} {g : Heap} {n : Nat} {s : St}, runL P ops l ⟨t, g, n⟩ = some s → K s.t s.g s.n → awpOps P ops K l t g n
  | [], t, g, n, s, h, hk => by simp only [runL, Option.some.injEq] at h; subst h; exact hk
  | o :: rest, t, g, n, s, h, hk => by
    simp only [runL] at h
    split at h
    · rename_i hw
      split at h
      · rename_i f hf
        exact ⟨true, hw, f, .inl hf, ops_run h hk⟩
      · cases h
    · rename_i hw
      exact ⟨false, hw, ops_run h hk⟩
    · cases h

/-- The first k operations are run. -/
theorem ops_take (k : Nat) : ∀ {l : List Oper} {t : Nat → Value} {g : Heap} {n : Nat} {s : St}, runL P ops (l.take k) ⟨t, g, n⟩ = some s → awpOps P ops K (l.drop k) s.t s.g s.n → awpOps P ops K l t g n := by
  induction k with
  | zero => intro l t g n s h hk; simp only [List.take_zero, runL, Option.some.injEq] at h; subst h; simpa using hk
  | succ k ih =>
    intro l t g n s h hk
    cases l with
    | nil => simp only [List.take_nil, runL, Option.some.injEq] at h; subst h; simpa using hk
    | cons o rest =>
      simp only [List.take_succ_cons, runL] at h
      simp only [List.drop_succ_cons] at hk
      split at h
      · rename_i hw
        split at h
        · rename_i f hf
          exact ⟨true, hw, f, .inl hf, ih h hk⟩
        · cases h
      · rename_i hw
        exact ⟨false, hw, ih h hk⟩
      · cases h

/-- One operation, its effect given. -/
theorem ops_step {o : Oper} {rest : List Oper} (f : Eff) (h : astep P o.op (evl t) g n = some f) (hw : awant ops o t = some true) (hk : awpOps P ops K rest (put t o.dst f.v) (f.ap g) (n + f.a.length)) : awpOps P ops K (o :: rest) t g n :=
  ⟨true, hw, f, .inl h, hk⟩

theorem region_run {id : Nat} {Q : AQ} {t' : Nat → Value} {g' : Heap} {n' : Nat} (h : runL P ops ops.toList ⟨t, g, n⟩ = some ⟨t', g', n'⟩) (hk : Q .normal t' g' n') : awp P (.region id ops false) Q t g n := ops_run h hk

theorem region_take {id : Nat} {Q : AQ} {t' : Nat → Value} {g' : Heap} {n' : Nat} (k : Nat) (h : runL P ops (ops.toList.take k) ⟨t, g, n⟩ = some ⟨t', g', n'⟩) (hk : awpOps P ops (Q .normal) (ops.toList.drop k) t' g' n') : awp P (.region id ops false) Q t g n := ops_take k h hk

theorem wr_nil {f : Eff} (h1 : f.w.isEmpty = true) (h2 : f.a.isEmpty = true) : f.wr = [] ∧ ∀ g, f.ap g = g := by
  simp only [List.isEmpty_iff] at h1 h2
  refine ⟨by simp [Eff.wr, h1, h2], fun g => by simp [Eff.ap, h1, h2, setAll, addAll]⟩

theorem opsD_run {bf : Array Nat} : ∀ {l : List Oper} {idx : Nat} {acc : List FP} {t : Nat → Value} {s : St}, (∀ p ∈ acc, p.2.2 = []) → runR P ops l ⟨t, g, n⟩ = some s → K s.t s.g s.n → awpD P ops bf K l idx acc t g n
  | [], idx, acc, t, s, _, h, hk => by simp only [runR, Option.some.injEq] at h; subst h; exact hk
  | o :: rest, idx, acc, t, s, ha, h, hk => by
    simp only [runR] at h
    split at h
    · rename_i hw
      split at h
      · rename_i f hf
        split at h
        · rename_i he
          simp only [Bool.and_eq_true] at he
          obtain ⟨h1, h2⟩ := wr_nil he.1 he.2
          have h3 : f.a.length = 0 := by have := he.2; simp only [List.isEmpty_iff] at this; simp [this]
          refine ⟨true, hw, f, .inl hf, fun p hp => .inr ⟨?_, ?_⟩, ?_⟩
          · rw [ha p hp]; simp
          · rw [h1]; simp
          · rw [h2, h3]
            refine opsD_run ?_ h hk
            intro p hp
            split at hp
            · exact ha p hp
            · rcases List.mem_cons.1 hp with rfl | hp
              · exact h1
              · exact ha p hp
        · cases h
      · cases h
    · rename_i hw
      exact ⟨false, hw, opsD_run ha h hk⟩
    · cases h

/-- A statement whose order is open and that only reads. -/
theorem draw_run {id : Nat} {Q : AQ} {t' : Nat → Value} {g' : Heap} {n' : Nat} (bf : Array Nat) (hd : drawOK ops bf = true) (h : runR P ops ops.toList ⟨t, g, n⟩ = some ⟨t', g', n'⟩) (hk : Q .normal t' g' n') : awp P (.region id ops true) Q t g n :=
  ⟨bf, hd, opsD_run (by simp) h hk⟩

/-- A call by its contract. -/
theorem ops_call {dst : Option Tmp} {ty : TypeId} {pos : String} {af : Array Edge} {rest : List Oper} {fo : Operand} {args : Array Operand} {ts : Array TypeId} (k : FuncId) (f : Eff) (hf : evl t fo = .func (.func k) #[] #[])
    (hspec : FnSpec P k (args.toList.map (evl t)) g f) (hj : f.a ≠ [] → f.j = n) (h : awpOps P ops K rest (put t dst f.v) (f.ap g) (n + f.a.length)) :
    awpOps P ops K (⟨dst, .call { callee := .value fo, args := args, argTypes := ts }, ty, pos, af, none⟩ :: rest) t g n :=
  ⟨true, rfl, f, .inr (.inl ⟨_, fo, k, rfl, rfl, hf, hj, hspec⟩), h⟩

/-- A call of a function that holds values. -/
theorem c_call {dst : Option Tmp} {ty : TypeId} {pos : String} {af : Array Edge} {rest : List Oper} {fo : Operand} {args : Array Operand} {ts : Array TypeId} (k : FuncId) (cs : Array Value) (f : Eff) (hf : evl t fo = .iface k (.agg cs))
    (hspec : FnSpec P k (args.toList.map (evl t) ++ cs.toList) g f) (hj : f.a ≠ [] → f.j = n) (h : awpOps P ops K rest (put t dst f.v) (f.ap g) (n + f.a.length)) :
    awpOps P ops K (⟨dst, .call { callee := .value fo, args := args, argTypes := ts }, ty, pos, af, none⟩ :: rest) t g n :=
  ⟨true, rfl, f, .inr (.inr ⟨_, fo, k, cs, rfl, rfl, hf, hj, hspec⟩), h⟩

theorem g_call {dst : Option Tmp} {ty : TypeId} {pos : String} {af : Array Edge} {rest : List Oper} {fo : Operand} {args : Array Operand} {ts : Array TypeId} {j : Nat} {w : Bool} (k : FuncId) (f : Eff)
    (hw : awant ops ⟨dst, .call { callee := .value fo, args := args, argTypes := ts }, ty, pos, af, some (j, w)⟩ t = some true) (hf : evl t fo = .func (.func k) #[] #[])
    (hspec : FnSpec P k (args.toList.map (evl t)) g f) (hj : f.a ≠ [] → f.j = n) (h : awpOps P ops K rest (put t dst f.v) (f.ap g) (n + f.a.length)) :
    awpOps P ops K (⟨dst, .call { callee := .value fo, args := args, argTypes := ts }, ty, pos, af, some (j, w)⟩ :: rest) t g n :=
  ⟨true, hw, f, .inr (.inl ⟨_, fo, k, rfl, rfl, hf, hj, hspec⟩), h⟩

/-- The heap under a name. -/
theorem ops_heap {l : List Oper} (h : ∀ G, G = g → awpOps P ops K l t G n) : awpOps P ops K l t g n := h g rfl
theorem w_heap {c : Code} {Q : AQ} (h : ∀ G, G = g → awp P c Q t G n) : awp P c Q t g n := h g rfl

theorem w_seq {a b : Code} {Q : AQ} (h : awp P a (athen (awp P b Q) Q) t g n) : awp P (.seq a b) Q t g n := h
theorem w_skip {Q : AQ} (h : Q .normal t g n) : awp P .skip Q t g n := h
theorem w_block {id : Nat} {c : Code} {Q : AQ} (h : awp P c (ainBlock id Q) t g n) : awp P (.block id c) Q t g n := h
theorem w_exit {id : Nat} {Q : AQ} (h : Q (.exit id) t g n) : awp P (.exit id) Q t g n := h
theorem w_ret {Q : AQ} (h : Q .ret t g n) : awp P .ret Q t g n := h
theorem w_true {c : Operand} {x y : Code} {Q : AQ} (hc : evl t c = .bool true) (h : awp P x Q t g n) : awp P (.cond c x y) Q t g n := ⟨true, hc, fun _ => h, fun e => by cases e⟩
theorem w_false {c : Operand} {x y : Code} {Q : AQ} (hc : evl t c = .bool false) (h : awp P y Q t g n) : awp P (.cond c x y) Q t g n := ⟨false, hc, (fun e => by cases e), fun _ => h⟩
theorem w_cond {c : Operand} {x y : Code} {Q : AQ} {b : Bool} (hc : evl t c = .bool b) (h1 : b = true → awp P x Q t g n) (h2 : b = false → awp P y Q t g n) : awp P (.cond c x y) Q t g n := ⟨b, hc, h1, h2⟩
theorem w_loop {c : Code} {Q : AQ} (I : (Nat → Value) → Heap → Nat → Prop) (μ : (Nat → Value) → Heap → Nat → Nat) (h0 : I t g n)
    (h : ∀ t g n, I t g n → awp P c (athen (fun t' g' n' => I t' g' n' ∧ μ t' g' n' < μ t g n) Q) t g n) : awp P (.loop c) Q t g n := ⟨I, μ, h0, h⟩

theorem awp_mono : ∀ {c : Code} {Q Q' : AQ} {t : Nat → Value} {g : Heap} {n : Nat}, (∀ e t g n, Q e t g n → Q' e t g n) → awp P c Q t g n → awp P c Q' t g n := by
  have hops : ∀ {ops : Array Oper} {K K' : (Nat → Value) → Heap → Nat → Prop} (l : List Oper) (t : Nat → Value) (g : Heap) (n : Nat), (∀ t g n, K t g n → K' t g n) → awpOps P ops K l t g n → awpOps P ops K' l t g n := by
    intro ops K K' l
    induction l with
    | nil => intro t g n hq h; exact hq _ _ _ h
    | cons o l ih =>
      intro t g n hq h
      obtain ⟨b, hb, h⟩ := h
      refine ⟨b, hb, ?_⟩
      cases b with
      | true => obtain ⟨f, hf, h⟩ := h; exact ⟨f, hf, ih _ _ _ hq h⟩
      | false => exact ih _ _ _ hq h
  have hopsD : ∀ {ops : Array Oper} {bf : Array Nat} {K K' : (Nat → Value) → Heap → Nat → Prop} (l : List Oper) (idx : Nat) (acc : List FP) (t : Nat → Value) (g : Heap) (n : Nat), (∀ t g n, K t g n → K' t g n) → awpD P ops bf K l idx acc t g n → awpD P ops bf K' l idx acc t g n := by
    intro ops bf K K' l
    induction l with
    | nil => intro idx acc t g n hq h; exact hq _ _ _ h
    | cons o l ih =>
      intro idx acc t g n hq h
      obtain ⟨b, hb, h⟩ := h
      refine ⟨b, hb, ?_⟩
      cases b with
      | true => obtain ⟨f, hf, hp, h⟩ := h; exact ⟨f, hf, hp, ih _ _ _ _ _ hq h⟩
      | false => exact ih _ _ _ _ _ hq h
  intro c
  induction c with
  | region id ops draw =>
    intro Q Q' t g n hq h
    cases draw with
    | false => exact hops _ _ _ _ (fun t g n => hq _ t g n) h
    | true => obtain ⟨bf, hd, h⟩ := h; exact ⟨bf, hd, hopsD _ _ _ _ _ _ (fun t g n => hq _ t g n) h⟩
  | seq a b iha ihb =>
    intro Q Q' t g n hq h
    refine iha ?_ h
    intro e t g n he
    cases e with
    | normal => exact ihb hq he
    | _ => exact hq _ _ _ _ he
  | rangeFunc fo ps asg body _ _ =>
    intro Q Q' t g n hq h
    obtain ⟨ia, ib, bb, opa, opb, gf, cs, m, enc, Fa, J, h1, h2, h3, h4, h5, h6, h7, h8, h9⟩ := h
    exact ⟨ia, ib, bb, opa, opb, gf, cs, m, enc, Fa, J, h1, h2, h3, h4, h5, h6, h7, h8, fun g n hJ => hq _ _ _ _ (h9 g n hJ)⟩
  | cond c x y ihx ihy => exact fun hq ⟨b, hb, h1, h2⟩ => ⟨b, hb, fun e => ihx hq (h1 e), fun e => ihy hq (h2 e)⟩
  | block id c ih =>
    intro Q Q' t g n hq h
    refine ih ?_ h
    intro e t g n he
    cases e with
    | exit id' =>
      simp only [ainBlock] at he ⊢
      split at he
      · rename_i e; rw [if_pos e]; exact hq _ _ _ _ he
      · rename_i e; rw [if_neg e]; exact hq _ _ _ _ he
    | _ => exact hq _ _ _ _ he
  | loop c ih =>
    intro Q Q' t g n hq ⟨I, μ, h0, h⟩
    refine ⟨I, μ, h0, fun t g n hI => ih ?_ (h t g n hI)⟩
    intro e t g n he
    cases e with
    | normal => exact he
    | _ => exact hq _ _ _ _ he
  | skip => exact fun hq h => hq _ _ _ _ h
  | exit id => exact fun hq h => hq _ _ _ _ h
  | ret => exact fun hq h => hq _ _ _ _ h
  | _ => exact fun _ h => h.elim

/-- What stands behind code, under a name. -/
theorem w_cut {c : Code} {Q : AQ} (K : AQ) (h : awp P c K t g n) (hk : ∀ e t g n, K e t g n → Q e t g n) : awp P c Q t g n := awp_mono hk h
end

theorem awant_none {ops : Array Oper} {dst : Option Tmp} {op : Op} {ty : TypeId} {pos : String} {af : Array Edge} {t : Nat → Value} : awant ops ⟨dst, op, ty, pos, af, none⟩ t = some true := rfl

theorem b_tt : (true == true) = true := rfl
theorem b_tf : (true == false) = false := rfl
theorem b_ft : (false == true) = false := rfl
theorem b_ff : (false == false) = true := rfl

theorem awant_some {ops : Array Oper} {dst : Option Tmp} {op : Op} {ty : TypeId} {pos : String} {af : Array Edge} {t : Nat → Value} {j : Nat} {w : Bool} : awant ops ⟨dst, op, ty, pos, af, some (j, w)⟩ t = (match (ops[j]?).bind (·.dst) with
  | some d => match t d with
    | .bool b => some (b == w)
    | .tuple _ => some false
    | _ => none
  | none => none) := rfl

theorem ap_none (v : Value) (r : List Nat) (j : Nat) (g : Heap) : Eff.ap { v := v, r := r, j := j } g = g := rfl
theorem ap_new (v : Value) (r : List Nat) (j : Nat) (b : Blk) (g : Heap) : Eff.ap { v := v, r := r, j := j, a := [b] } g = upd g j (some b) := rfl
theorem ap_wr (v : Value) (r : List Nat) (j i : Nat) (b : Blk) (g : Heap) : Eff.ap { v := v, r := r, w := [(i, b)], j := j } g = upd g i (some b) := rfl
theorem upd_app {α : Type} (f : Nat → α) (i : Nat) (x : α) (k : Nat) : upd f i x k = if k = i then x else f k := rfl

end Go.Proofs.Ytdpkhijbikbhnaa.Abs

/-
  The abstract machine, part 12: slices that the call owns; statements in a row.
-/
namespace Go.Proofs.Ytdpkhijbikbhnaa.Abs
open Go Go.RowKit

/-- v is a slice of m elements of esz cells each, nil or over the whole of block i, with the cells l. -/
def OwnI (e : TypeId) (esz : Nat) (g : Heap) (v : Value) (m : Nat) (l : List Value) (i : Option Nat) : Prop :=
  (i = none ∧ v = .slice none 0 0 ∧ m = 0 ∧ l = []) ∨ ∃ k, i = some k ∧ v = .slice (some ⟨k, 0, some l.length⟩) m esz ∧ g k = some ⟨false, e, l⟩ ∧ m * esz = l.length

theorem OwnI.nil (e : TypeId) (esz : Nat) (g : Heap) : OwnI e esz g (.slice none 0 0) 0 [] none := .inl ⟨rfl, rfl, rfl, rfl⟩

theorem OwnI.keep {e : TypeId} {esz : Nat} {g g' : Heap} {v : Value} {m : Nat} {l : List Value} {i : Option Nat} (h : OwnI e esz g v m l i) (hg : ∀ k, i = some k → g' k = g k) : OwnI e esz g' v m l i := by
  rcases h with h | ⟨k, h1, h2, h3, h4⟩
  · exact .inl h
  · exact .inr ⟨k, h1, h2, by rw [hg k h1]; exact h3, h4⟩

theorem OwnI.len {e : TypeId} {esz : Nat} {g : Heap} {v : Value} {m : Nat} {l : List Value} {i : Option Nat} (h : OwnI e esz g v m l i) : m * esz = l.length := by
  rcases h with ⟨_, _, h1, h2⟩ | ⟨k, _, _, _, h4⟩
  · simp [h1, h2]
  · exact h4

theorem OwnI.src {e : TypeId} {esz : Nat} {g : Heap} {v : Value} {m : Nat} {l : List Value} {i : Option Nat} (h : OwnI e esz g v m l i) : srcCells v g esz = some (m, l) := by
  rcases h with ⟨_, h0, h1, h2⟩ | ⟨k, _, h2, h3, h4⟩
  · subst h0 h1 h2; rfl
  · subst h2
    by_cases hm : m = 0
    · subst hm
      have : l = [] := List.eq_nil_of_length_eq_zero (by simpa using h4.symm)
      subst this
      simp [srcCells]
    · have hl : l.take (m * esz) = l := by rw [h4]; exact List.take_length
      simp [srcCells, hm, rd, h3, hl]

section
variable {P : Program} {g : Heap} {n : Nat}

theorem own_append {T e : TypeId} {zs : List Value} {esz bytes m0 m : Nat} {v y : Value} {l news : List Value} {i : Option Nat} (h : OwnI e esz g v m0 l i) (hs : srcCells y g esz = some (m, news)) (hn : news.length = m * esz)
    (ht : P.underlying T = some (.slice e)) (hti : tinf P e = some (zs, esz, bytes)) (hpos : 0 < esz) (hb1 : m0 + m ≤ 1099511627776) (hb2 : bytes ≤ 100) :
    ∃ f i', stepAppend P T T v y g n = some f ∧ OwnI e esz (f.ap g) f.v (m0 + m) (l ++ news) i' ∧ ((i' = i ∧ f.a = []) ∨ (i = none ∧ i' = some n ∧ f.a.length = 1)) ∧ (∀ k, k < n → some k ≠ i → f.ap g k = g k) := by
  have hbytes : ∀ q, q ≤ 1099511627776 → q * bytes ≤ 140737488355328 := fun q hq => by
    have : q * bytes ≤ 1099511627776 * 100 := Nat.mul_le_mul hq hb2
    omega
  rcases h with ⟨rfl, rfl, rfl, rfl⟩ | ⟨k, rfl, rfl, h3, h4⟩
  · by_cases hm : m = 0
    · subst hm
      have : news = [] := List.eq_nil_of_length_eq_zero (by simpa using hn)
      subst this
      refine ⟨{ v := .slice none 0 0 }, none, ?_, OwnI.nil e esz _, .inl ⟨rfl, rfl⟩, fun k _ _ => rfl⟩
      simp [stepAppend, ht, hti, hs]
    · refine ⟨{ v := .slice (some ⟨n, 0, some news.length⟩) m esz, r := srcBlk y, j := n, a := [⟨false, e, news⟩] }, some n, ?_, ?_, .inr ⟨rfl, rfl, rfl⟩, fun k hk _ => ?_⟩
      · have h1 := hbytes m (by omega)
        simp only [stepAppend, if_true, ht, hti, hs, hm, if_false]
        rw [if_pos ⟨hpos, by omega, h1⟩]
      · refine .inr ⟨n, rfl, by simp, by simp [ap_new], by simp [hn]⟩
      · rw [ap_new, upd_ne _ _ (by omega)]
  · refine ⟨{ v := .slice (some ⟨k, 0, some (l ++ news).length⟩) (m0 + m) esz, r := k :: srcBlk y, w := [(k, ⟨false, e, l ++ news⟩)] }, some k, ?_, ?_, .inl ⟨rfl, rfl⟩, fun q _ hq => ?_⟩
    · have h1 := hbytes (m0 + m) hb1
      simp only [stepAppend, if_true, ht, hti, hs, rd, h3]
      rw [if_pos ⟨trivial, trivial, trivial, trivial, h4, hpos, by omega, h1⟩]
    · refine .inr ⟨k, rfl, rfl, by simp [ap_wr], by simp [Nat.add_mul, h4, hn]⟩
    · rw [ap_wr, upd_ne _ _ (fun e => hq (by rw [e]))]

/-- 'append(v, c)': the literal's block, then the append. -/
theorem own_push {T e : TypeId} {zs : List Value} {bytes m0 : Nat} {v c : Value} {l : List Value} {i : Option Nat} (h : OwnI e 1 g v m0 l i) (hi : ∀ k, i = some k → k < n)
    (ht : P.underlying T = some (.slice e)) (hti : tinf P e = some (zs, 1, bytes)) (hb1 : m0 + 1 ≤ 1099511627776) (hb2 : bytes ≤ 100) :
    ∃ f i', stepAppend P T T v (.slice (some ⟨n, 0, some 1⟩) 1 1) (upd g n (some ⟨false, e, [c]⟩)) (n + 1) = some f ∧ OwnI e 1 (f.ap (upd g n (some ⟨false, e, [c]⟩))) f.v (m0 + 1) (l ++ [c]) i' ∧
      (∀ k, i' = some k → (i = some k ∨ k = n + 1) ∧ k < n + 1 + f.a.length) ∧ (∀ k, k < n → some k ≠ i → f.ap (upd g n (some ⟨false, e, [c]⟩)) k = g k) := by
  have h' : OwnI e 1 (upd g n (some ⟨false, e, [c]⟩)) v m0 l i := h.keep fun k hk => upd_ne _ _ (by have := hi k hk; omega)
  have hs : srcCells (.slice (some ⟨n, 0, some 1⟩) 1 1) (upd g n (some ⟨false, e, [c]⟩)) 1 = some (1, [c]) := by simp [srcCells, rd]
  obtain ⟨f, i', h1, h2, h3, h4⟩ := own_append (P := P) (n := n + 1) h' hs rfl ht hti (by omega) hb1 hb2
  refine ⟨f, i', h1, h2, fun k hk => ?_, fun k hk hne => by rw [h4 k (by omega) hne, upd_ne _ _ (by omega)]⟩
  rcases h3 with ⟨e1, e2⟩ | ⟨_, e2, e3⟩
  · rw [e1] at hk
    exact ⟨.inl hk, by have := hi k hk; simp [e2]; omega⟩
  · rw [e2] at hk
    cases hk
    exact ⟨.inr rfl, by omega⟩
end

/-- A slice that is read: m elements of esz cells, the cells cs. -/
def Src (g : Heap) (v : Value) (esz m : Nat) (cs : List Value) : Prop :=
  (v = .slice none 0 0 ∧ m = 0 ∧ cs = []) ∨ (∃ a, v = .slice (some a) 0 esz ∧ m = 0 ∧ cs = []) ∨
    ∃ a b, v = .slice (some a) m esz ∧ 0 < m ∧ rd g a = some b ∧ cs = (b.cells.drop a.off).take (m * esz) ∧ a.off + m * esz ≤ b.cells.length

theorem Src.cells {g : Heap} {v : Value} {esz m : Nat} {cs : List Value} (h : Src g v esz m cs) : srcCells v g esz = some (m, cs) := by
  rcases h with ⟨rfl, rfl, rfl⟩ | ⟨a, rfl, rfl, rfl⟩ | ⟨a, b, rfl, h0, hb, hc, _⟩
  · rfl
  · simp [srcCells]
  · simp [srcCells, hb, hc, show m ≠ 0 by omega]

theorem Src.length {g : Heap} {v : Value} {esz m : Nat} {cs : List Value} (h : Src g v esz m cs) : cs.length = m * esz := by
  rcases h with ⟨_, rfl, rfl⟩ | ⟨a, _, rfl, rfl⟩ | ⟨a, b, _, h0, hb, hc, hle⟩
  · simp
  · simp
  · rw [hc]; simp; omega

theorem Src.congr {g g' : Heap} {v : Value} {esz m : Nat} {cs : List Value} (h : Src g v esz m cs) (hg : ∀ i ∈ srcBlk v, g' i = g i) : Src g' v esz m cs := by
  rcases h with h | h | ⟨a, b, rfl, h0, hb, hc, hle⟩
  · exact .inl h
  · exact .inr (.inl h)
  · refine .inr (.inr ⟨a, b, rfl, h0, ?_, hc, hle⟩)
    rw [rd_congr (hg a.block (by simp [srcBlk]; omega))]
    exact hb

theorem Src.dom {g : Heap} {v : Value} {esz m : Nat} {cs : List Value} (h : Src g v esz m cs) : ∀ i ∈ srcBlk v, (g i).isSome = true := by
  rcases h with ⟨rfl, _, _⟩ | ⟨a, rfl, _, _⟩ | ⟨a, b, rfl, h0, hb, _, _⟩
  · simp [srcBlk]
  · simp [srcBlk]
  · intro i hi
    simp only [srcBlk, show m ≠ 0 by omega, if_false, List.mem_singleton] at hi
    subst hi
    rw [(rd_spec hb).2]
    rfl

theorem Src.len {P : Program} {g : Heap} {v : Value} {esz m : Nat} {cs : List Value} {T e : TypeId} (h : Src g v esz m cs) (ht : P.underlying T = some (.slice e)) : stepLen P T v = some { v := .int .i64 m } := by
  rcases h with ⟨rfl, rfl, _⟩ | ⟨a, rfl, rfl, _⟩ | ⟨a, b, rfl, _⟩ <;> simp [stepLen, ht]

theorem Src.shape {g : Heap} {v : Value} {esz m : Nat} {cs : List Value} (h : Src g v esz m cs) : ∃ a e, v = .slice a m e := by
  rcases h with ⟨rfl, rfl, _⟩ | ⟨a, rfl, rfl, _⟩ | ⟨a, b, rfl, _⟩
  · exact ⟨none, 0, rfl⟩
  · exact ⟨some a, esz, rfl⟩
  · exact ⟨some a, esz, rfl⟩

/-- Element i of one cell: its address, and what is read there. -/
theorem Src.at1 {P : Program} {g : Heap} {v : Value} {m : Nat} {cs : List Value} {T e : TypeId} (h : Src g v 1 m cs) {i : Nat} {c : Value} (hc : cs[i]? = some c) (ht : P.underlying T = some (.slice e)) (hs : tsize P e = some 1) (ha : aggT P e = some false) :
    ∃ p, (∀ k, stepIndex P T v (.int k (i : Int)) = some { v := .pointer (some p) }) ∧ stepLoad P e (.pointer (some p)) g = some { v := c, r := [p.block] } ∧ p.block ∈ srcBlk v := by
  have hlt := (List.getElem?_eq_some_iff.1 hc).1
  rcases h with ⟨_, rfl, rfl⟩ | ⟨a, _, rfl, rfl⟩ | ⟨a, b, rfl, h0, hb, hcs, hle⟩
  · simp at hlt
  · simp at hlt
  · obtain ⟨h1, h2⟩ := rd_spec hb
    have him : i < m := by rw [hcs] at hlt; simp at hlt; omega
    refine ⟨{ a with off := a.off + i }, fun k => ?_, ?_, by simp [srcBlk]; omega⟩
    · simp [stepIndex, ht, h1, hs, him]
    · have hb' : rd g { a with off := a.off + i } = some b := hb
      have hcell : b.cells[a.off + i]? = some c := by
        rw [hcs, List.getElem?_take, if_pos (by omega), List.getElem?_drop] at hc
        exact hc
      simp [stepLoad, hb', ha, hcell]

theorem Src.slice {P : Program} {g : Heap} {v : Value} {esz m : Nat} {cs : List Value} {T e : TypeId} (h : Src g v esz m cs) (ht : P.underlying T = some (.slice e)) (hs : tsize P e = some esz) (lo hi : Option Value) (l k : Nat)
    (hl : boundOf lo 0 = some (l : Int)) (hh : boundOf hi (m : Int) = some (k : Int)) (h1 : l ≤ k) (h2 : k ≤ m) :
    ∃ v', stepSlice P T v lo hi = some { v := v' } ∧ Src g v' esz (k - l) ((cs.drop (l * esz)).take ((k - l) * esz)) ∧ (∀ i ∈ srcBlk v', i ∈ srcBlk v) ∧ (∀ s, SVT s v → SVT s v') := by
  rcases h with ⟨rfl, rfl, rfl⟩ | ⟨a, rfl, rfl, rfl⟩ | ⟨a, b, rfl, h0, hb, hcs, hle⟩
  · have : l = 0 := by omega
    have : k = 0 := by omega
    subst l k
    refine ⟨.slice none 0 0, ?_, .inl ⟨rfl, rfl, by simp⟩, by simp [srcBlk], fun s h => h⟩
    simp only [stepSlice, ht]
    rw [hh, hl]
    simp [hs]
  · have : l = 0 := by omega
    have : k = 0 := by omega
    subst l k
    refine ⟨.slice (some ⟨0, 0, none⟩) 0 esz, ?_, .inr (.inl ⟨_, rfl, rfl, by simp⟩), by simp [srcBlk], fun s h => .inl rfl⟩
    simp only [stepSlice, ht]
    rw [hh, hl]
    simp [hs]
  · by_cases e0 : l = k
    · subst e0
      refine ⟨.slice (some ⟨0, 0, none⟩) 0 esz, ?_, .inr (.inl ⟨_, rfl, by omega, by simp⟩), by simp [srcBlk], fun s h => .inl rfl⟩
      simp only [stepSlice, ht]
      rw [hh, hl]
      simp only [hs, if_true]
      rw [if_pos (by omega)]
    · refine ⟨.slice (some { a with off := a.off + l * esz }) (k - l) esz, ?_, .inr (.inr ⟨{ a with off := a.off + l * esz }, b, rfl, by omega, hb, ?_, ?_⟩), ?_, fun s h => h⟩
      · simp only [stepSlice, ht]
        rw [hh, hl]
        simp only [hs, if_true]
        rw [if_pos (by omega), if_neg (by omega)]
        simp only [Int.toNat_natCast]
        congr 3
        omega
      · rw [hcs, List.drop_take, List.drop_drop, List.take_take]
        congr 1
        have : (k - l) * esz + l * esz ≤ m * esz := by rw [← Nat.add_mul]; exact Nat.mul_le_mul_right _ (by omega)
        omega
      · have : (k - l) * esz + l * esz ≤ m * esz := by rw [← Nat.add_mul]; exact Nat.mul_le_mul_right _ (by omega)
        simp only
        omega
      · intro i hi
        simp only [srcBlk, show k - l ≠ 0 by omega, if_false, List.mem_singleton] at hi
        simp [srcBlk, hi]
        omega

theorem Src.str {P : Program} {g : Heap} {v : Value} {m : Nat} {ns : List Int} {T D e : TypeId} (h : Src g v 1 m (ns.map (Value.int .u8))) (ht : P.underlying T = some (.slice e)) (he : P.underlying e = some (.int .u8)) (hd : P.underlying D = some .string) :
    ∃ r, stepConv P T D v g = some { v := .string (bstr ns), r := r } ∧ ∀ i ∈ r, i ∈ srcBlk v := by
  rcases h with ⟨rfl, rfl, hc⟩ | ⟨a, rfl, rfl, hc⟩ | ⟨a, b, rfl, h0, hb, hcs, hle⟩
  · have : ns = [] := by simpa using hc
    subst this
    exact ⟨[], by simp [stepConv, ht, he, hd, bstr], by simp⟩
  · have : ns = [] := by simpa using hc
    subst this
    exact ⟨[], by simp [stepConv, ht, he, hd, bstr], by simp⟩
  · refine ⟨[a.block], ?_, by simp [srcBlk]; omega⟩
    rw [Nat.mul_one] at hcs
    simp [stepConv, ht, he, hd, hb, ← hcs, show m ≠ 0 by omega]

theorem OwnI.toSrc {e : TypeId} {esz : Nat} {g : Heap} {v : Value} {m : Nat} {l : List Value} {i : Option Nat} (h : OwnI e esz g v m l i) : Src g v esz m l := by
  rcases h with ⟨_, h0, h1, h2⟩ | ⟨k, _, h2, h3, h4⟩
  · exact .inl ⟨h0, h1, h2⟩
  · by_cases hm : m = 0
    · subst hm
      have : l = [] := List.eq_nil_of_length_eq_zero (by simpa using h4.symm)
      exact .inr (.inl ⟨_, h2, rfl, this⟩)
    · refine .inr (.inr ⟨_, ⟨false, e, l⟩, h2, by omega, by simp [rd, h3], ?_, by simp [h4]⟩)
      rw [h4]
      simp

theorem build_one {P : Program} {T e : TypeId} {z : Value} {by' : Nat} (ht : P.underlying T = some (.slice e)) (hti : tinf P e = some ([z], 1, by')) (k : IntKind) (x : Int) (j : Nat) :
    stepBuildSlice P T 1 [(0, .int k x)] j = some { v := .slice (some ⟨j, 0, some 1⟩) 1 1, j := j, a := [⟨false, e, [.int k x]⟩] } := by
  simp [stepBuildSlice, ht, hti, fillL, Value.cells, isTup, putAll, List.replicate]

theorem build_nil {P : Program} {T e : TypeId} {z : Value} {by' : Nat} (ht : P.underlying T = some (.slice e)) (hti : tinf P e = some ([z], 1, by')) (j : Nat) :
    stepBuildSlice P T 0 [] j = some { v := .slice (some ⟨j, 0, some 0⟩) 0 1, j := j, a := [⟨false, e, []⟩] } := by
  simp [stepBuildSlice, ht, hti, fillL]

section
variable {P : Program} {t : Nat → Value} {g : Heap} {n : Nat} {Q : AQ}

theorem w_assoc {a b c : Code} (h : awp P (.seq a (.seq b c)) Q t g n) : awp P (.seq (.seq a b) c) Q t g n := by
  have h' : awp P a (athen (awp P b (athen (awp P c Q) Q)) Q) t g n := h
  show awp P a (athen (awp P b (athen (awp P c Q) Q)) (athen (awp P c Q) Q)) t g n
  refine awp_mono ?_ h'
  intro e t g n he
  cases e <;> exact he

theorem s_run {id : Nat} {ops : Array Oper} {b : Code} {t' : Nat → Value} {g' : Heap} {n' : Nat} (h : runL P ops ops.toList ⟨t, g, n⟩ = some ⟨t', g', n'⟩) (hk : awp P b Q t' g' n') : awp P (.seq (.region id ops false) b) Q t g n := ops_run h hk

theorem s_take {id : Nat} {ops : Array Oper} {b : Code} {t' : Nat → Value} {g' : Heap} {n' : Nat} (k : Nat) (h : runL P ops (ops.toList.take k) ⟨t, g, n⟩ = some ⟨t', g', n'⟩) (hk : awpOps P ops (awp P b Q) (ops.toList.drop k) t' g' n') : awp P (.seq (.region id ops false) b) Q t g n := ops_take k h hk

theorem s_draw {id : Nat} {ops : Array Oper} {b : Code} {t' : Nat → Value} {g' : Heap} {n' : Nat} (bf : Array Nat) (hd : drawOK ops bf = true) (h : runR P ops ops.toList ⟨t, g, n⟩ = some ⟨t', g', n'⟩) (hk : awp P b Q t' g' n') : awp P (.seq (.region id ops true) b) Q t g n :=
  draw_run (id := id) bf hd h hk

theorem s_skip {b : Code} (h : awp P b Q t g n) : awp P (.seq .skip b) Q t g n := h
theorem s_ret {b : Code} (h : Q .ret t g n) : awp P (.seq .ret b) Q t g n := h
theorem s_exit {id : Nat} {b : Code} (h : Q (.exit id) t g n) : awp P (.seq (.exit id) b) Q t g n := h

theorem s_cond {c : Operand} {x y b : Code} {q : Bool} (hc : evl t c = .bool q) (h1 : q = true → awp P (.seq x b) Q t g n) (h2 : q = false → awp P (.seq y b) Q t g n) : awp P (.seq (.cond c x y) b) Q t g n :=
  ⟨q, hc, h1, h2⟩
theorem s_true {c : Operand} {x y b : Code} (hc : evl t c = .bool true) (h : awp P (.seq x b) Q t g n) : awp P (.seq (.cond c x y) b) Q t g n := w_true hc h
theorem s_false {c : Operand} {x y b : Code} (hc : evl t c = .bool false) (h : awp P (.seq y b) Q t g n) : awp P (.seq (.cond c x y) b) Q t g n := w_false hc h

/-- A block whose loop has one way out: behind it J holds. -/
theorem s_block {id : Nat} {c b : Code} (J : (Nat → Value) → Heap → Nat → Prop) (h : awp P c (fun e t g n => match e with | .normal => J t g n | .exit id' => if id' = id then J t g n else Q (.exit id') t g n | e => Q e t g n) t g n)
    (hk : ∀ t g n, J t g n → awp P b Q t g n) : awp P (.seq (.block id c) b) Q t g n := by
  refine awp_mono (c := c) ?_ h
  intro e t g n he
  cases e with
  | normal => exact hk _ _ _ he
  | exit id' =>
    simp only [ainBlock] at he ⊢
    split at he
    · rename_i e; rw [if_pos e]; exact hk _ _ _ he
    · rename_i e; rw [if_neg e]; exact he
  | _ => exact he
end

end Go.Proofs.Ytdpkhijbikbhnaa.Abs

/-
  The abstract machine, part 13: how a body ends.
-/
namespace Go.Proofs.Ytdpkhijbikbhnaa.Abs
open Go Go.RowKit

theorem ren1_plain {σ : Nat → Nat} {c : Value} (h : plain c = true) : ren1 σ c = c := by
  cases c with
  | pointer a => cases a with
    | none => rfl
    | some a => simp [plain] at h
  | slice a l e => cases a with
    | none => rfl
    | some a => simp [plain] at h
  | _ => rfl

theorem map_ren_plain {σ : Nat → Nat} {l : List Value} (h : ∀ c ∈ l, plain c = true) : l.map (ren1 σ) = l := by
  exact (List.map_congr_left (f := ren1 σ) (g := id) (fun c hc => ren1_plain (h c hc))).trans (by simp)

theorem renB_plain {σ : Nat → Nat} {b : Blk} (h : ∀ c ∈ b.cells, plain c = true) : renB σ b = b := by
  unfold renB
  rw [map_ren_plain h]

theorem renA_old {σ : Nat → Nat} {s : Nat → Prop} (hσ : ∀ i, s i → σ i = i) {c : Value} (hc : SVA s c) : renA σ c = c := by
  cases c with
  | agg cs =>
    simp only [renA]
    have : cs.map (ren1 σ) = cs := by
      apply Array.toList_inj.1
      simp only [Array.toList_map]
      exact (List.map_congr_left (f := ren1 σ) (g := id) (fun c h => ren1_old hσ (hc c h))).trans (by simp)
    rw [this]
  | pointer a => exact ren1_old (c := .pointer a) hσ hc
  | slice a l e => exact ren1_old (c := .slice a l e) hσ hc
  | _ => rfl

theorem renT_old {σ : Nat → Nat} {s : Nat → Prop} (hσ : ∀ i, s i → σ i = i) {c : Value} (hc : SVT s c) : renT σ c = c := by
  cases c with
  | tuple cs =>
    simp only [renT]
    have : cs.map (renA σ) = cs := by
      apply Array.toList_inj.1
      simp only [Array.toList_map]
      exact (List.map_congr_left (f := renA σ) (g := id) (fun c h => renA_old hσ (hc c h))).trans (by simp)
    rw [this]
  | iface k v => cases v with
    | agg cs =>
      simp only [renT]
      have : cs.map (ren1 σ) = cs := by
        apply Array.toList_inj.1
        simp only [Array.toList_map]
        exact (List.map_congr_left (f := ren1 σ) (g := id) (fun c h => ren1_old hσ (hc c h))).trans (by simp)
      rw [this]
    | _ => rfl
  | agg cs => exact renA_old (c := .agg cs) hσ hc
  | pointer a => exact ren1_old (c := .pointer a) hσ hc
  | slice a l e => exact ren1_old (c := .slice a l e) hσ hc
  | _ => rfl

section
variable {s2 : Nat → Prop} {g2 g' : Heap} {n : Nat} {v' : Value}

/-- Nothing made, nothing written. -/
theorem fin_none {v : Value} {r : List Nat} {j : Nat} (hv : v' = v) (hsv : SVT s2 v) (hold : ∀ i b, g2 i = some b → g' i = some b) :
    Abs.Fin { v := v, r := r, j := j } [] s2 g2 n g' v' := by
  have hσ : ∀ i, sig ({ v := v, r := r, j := j } : Eff) [] i = i := fun i => by unfold sig; split <;> simp
  refine ⟨rfl, by simp, by simp, ?_, by simp, by simp, by simp, fun i b _ h => hold i b h, SVT.imp (fun _ => .inl) hsv, by simp, by simp⟩
  rw [hv, renT_old (fun i _ => hσ i) hsv]

/-- One new slice of plain cells. -/
theorem fin_slice {e : TypeId} {cs : List Value} {m esz j k : Nat} {r : List Nat} (hv : v' = .slice (some ⟨k, 0, some cs.length⟩) m esz) (hk : n ≤ k) (hg : g' k = some ⟨false, e, cs⟩) (hp : ∀ c ∈ cs, plain c = true)
    (hold : ∀ i b, g2 i = some b → g' i = some b) :
    Abs.Fin { v := .slice (some ⟨j, 0, some cs.length⟩) m esz, r := r, j := j, a := [⟨false, e, cs⟩] } [k] s2 g2 n g' v' := by
  refine ⟨rfl, by simpa using hk, by simp, ?_, fun i b hi => ?_, by simp, by simp, fun i b _ h => hold i b h, ?_, ?_, by simp⟩
  · rw [hv]
    simp [renT, renA, ren1, sig]
  · cases i with
    | zero => simp at hi; subst hi; exact ⟨k, rfl, by rw [hg, renB_plain hp]⟩
    | succ i => simp at hi
  · exact .inr (.inr ⟨Nat.le_refl _, by simp⟩)
  · intro b hb c hc
    simp at hb
    subst hb
    exact SV1_plain (hp c hc)
end

theorem plain_ints {α : Type} {k : IntKind} {f : α → Int} {l : List α} : ∀ c ∈ l.map (fun x => Value.int k (f x)), plain c = true := by
  intro c hc
  obtain ⟨x, _, rfl⟩ := List.mem_map.1 hc
  rfl

/-- What a range's body must come to: R where the round ends, and where it leaves the loop what stands behind it. -/
def rngPost (id id1 : Nat) (R : (Nat → Value) → Heap → Nat → Prop) (Q : AQ) : AQ
  | .normal, t, g, n => R t g n
  | .exit e, t, g, n => if e = id1 then R t g n else if e = id then Q .normal t g n else Q (.exit e) t g n
  | e, t, g, n => Q e t g n

/-- 'for i := range M': J k holds at the head of round k. -/
theorem range_loop {P : Program} {Q : AQ} {id id1 ra rb : Nat} {i m c d : Tmp} {ty1 ty2 ty3 T1 T2 T3 T4 : TypeId} {p1 p2 p3 : String} {a1 a2 a3 : Array Edge} {body : Code} {t : Nat → Value} {g : Heap} {n : Nat}
    (M : Nat) (J : Nat → (Nat → Value) → Heap → Nat → Prop) (hM : M ≤ 4611686018427387904) (h0 : t i = .int .i64 0) (hm : t m = .int .i64 M) (hJ0 : J 0 t g n)
    (hd : i ≠ m ∧ c ≠ i ∧ c ≠ m ∧ d ≠ i ∧ d ≠ m)
    (hJ : ∀ k t g n x v, (x = c ∨ x = d ∨ x = i) → J k t g n → J k (upd t x v) g n)
    (hbody : ∀ k t g n, k < M → t i = .int .i64 k → t m = .int .i64 M → J k t g n → awp P body (rngPost id id1 (fun t' g' n' => t' i = .int .i64 k ∧ t' m = .int .i64 M ∧ J (k + 1) t' g' n') Q) t g n)
    (hend : ∀ t g n, J M t g n → Q .normal t g n) :
    awp P (.block id (.loop (.seq (.region ra #[⟨some c, .binOp .lss T1 (.tmp i) (.tmp m) T2, ty1, p1, a1, none⟩] false)
      (.seq (.cond (.tmp c) .skip (.exit id)) (.seq (.block id1 body) (.region rb #[⟨some d, .binOp .add T3 (.tmp i) (.const (.int .i64 1)) T4, ty2, p2, a2, none⟩, ⟨some i, .move (.tmp d), ty3, p3, a3, none⟩] false)))))) Q t g n := by
  obtain ⟨d1, d2, d3, d4, d5⟩ := hd
  refine w_block (w_loop (fun t g n => ∃ k, k ≤ M ∧ t i = .int .i64 k ∧ t m = .int .i64 M ∧ J k t g n) (fun t _ _ => match t i with | .int _ k => M - k.toNat | _ => 0) ⟨0, by omega, h0, hm, hJ0⟩ ?_)
  rintro t g n ⟨k, hk, hi, hm, hJk⟩
  refine s_run (t' := upd t c (.bool (decide ((k : Int) < M)))) (g' := g) (n' := n) (by simp only [runL, awant_none, astep, evl, put, ap_none, List.length_nil, Nat.add_zero, stepBin, abin, hi, hm, if_true]) ?_
  have hJc := hJ k t g n c (.bool (decide ((k : Int) < M))) (.inl rfl) hJk
  have hi' : upd t c (.bool (decide ((k : Int) < M))) i = .int .i64 k := by rw [upd_ne _ _ (Ne.symm d2)]; exact hi
  have hm' : upd t c (.bool (decide ((k : Int) < M))) m = .int .i64 M := by rw [upd_ne _ _ (Ne.symm d3)]; exact hm
  by_cases hlt : k < M
  · refine s_true (by simp only [evl, upd_self]; simp; exact hlt) (s_skip (w_seq (w_block ?_)))
    refine awp_mono ?_ (hbody k _ g n hlt hi' hm' hJc)
    have inc : ∀ t' g' n', (t' i = .int .i64 k ∧ t' m = .int .i64 M ∧ J (k + 1) t' g' n') → awp P (.region rb #[⟨some d, .binOp .add T3 (.tmp i) (.const (.int .i64 1)) T4, ty2, p2, a2, none⟩, ⟨some i, .move (.tmp d), ty3, p3, a3, none⟩] false)
        (athen (fun t'' g'' n'' => (∃ k, k ≤ M ∧ t'' i = .int .i64 k ∧ t'' m = .int .i64 M ∧ J k t'' g'' n'') ∧ (match t'' i with | .int _ k => M - k.toNat | _ => 0) < (match t i with | .int _ k => M - k.toNat | _ => 0)) (ainBlock id Q)) t' g' n' := by
      rintro t' g' n' ⟨q1, q2, q3⟩
      have hw : IntKind.i64.wrap ((k : Int) + 1) = ((k + 1 : Nat) : Int) := by
        rw [IntKind.wrap_i64]
        omega
      refine region_run (t' := upd (upd t' d (.int .i64 ((k + 1 : Nat) : Int))) i (.int .i64 ((k + 1 : Nat) : Int))) (g' := g') (n' := n') (by simp only [runL, awant_none, astep, evl, put, ap_none, List.length_nil, Nat.add_zero, stepBin, abin, q1, if_true, hw, upd_self]) ?_
      clear hw
      refine ⟨⟨k + 1, by omega, by simp, ?_, hJ _ _ _ _ _ _ (.inr (.inr rfl)) (hJ _ _ _ _ _ _ (.inr (.inl rfl)) q3)⟩, ?_⟩
      · rw [upd_ne _ _ (Ne.symm d1), upd_ne _ _ (Ne.symm d5)]; exact q2
      · rw [hi, upd_self]
        show M - ((k + 1 : Nat) : Int).toNat < M - (k : Int).toNat
        rw [Int.toNat_natCast, Int.toNat_natCast]
        exact Nat.sub_lt_sub_left hlt (Nat.lt_succ_self k)
    intro e t' g' n' he
    cases e with
    | normal => exact inc t' g' n' he
    | exit e =>
      simp only [rngPost] at he
      simp only [ainBlock]
      split at he
      · rename_i e1; rw [if_pos e1]; exact inc t' g' n' he
      · rename_i e1
        rw [if_neg e1]
        simp only [athen, ainBlock]
        exact he
    | _ => exact he
  · refine s_false (by simp only [evl, upd_self]; simp; omega) (s_exit ?_)
    have : k = M := by omega
    subst this
    simp only [athen, ainBlock, if_true]
    exact hend _ _ _ hJc

/-- The same with what stands behind it. -/
theorem s_range {P : Program} {Q : AQ} {id id1 ra rb : Nat} {i m c d : Tmp} {ty1 ty2 ty3 T1 T2 T3 T4 : TypeId} {p1 p2 p3 : String} {a1 a2 a3 : Array Edge} {body rest : Code} {t : Nat → Value} {g : Heap} {n : Nat}
    (M : Nat) (J : Nat → (Nat → Value) → Heap → Nat → Prop) (hM : M ≤ 4611686018427387904) (h0 : t i = .int .i64 0) (hm : t m = .int .i64 M) (hJ0 : J 0 t g n)
    (hd : i ≠ m ∧ c ≠ i ∧ c ≠ m ∧ d ≠ i ∧ d ≠ m)
    (hJ : ∀ k t g n x v, (x = c ∨ x = d ∨ x = i) → J k t g n → J k (upd t x v) g n)
    (hbody : ∀ k t g n, k < M → t i = .int .i64 k → t m = .int .i64 M → J k t g n → awp P body (rngPost id id1 (fun t' g' n' => t' i = .int .i64 k ∧ t' m = .int .i64 M ∧ J (k + 1) t' g' n') (athen (awp P rest Q) Q)) t g n)
    (hend : ∀ t g n, J M t g n → awp P rest Q t g n) :
    awp P (.seq (.block id (.loop (.seq (.region ra #[⟨some c, .binOp .lss T1 (.tmp i) (.tmp m) T2, ty1, p1, a1, none⟩] false)
      (.seq (.cond (.tmp c) .skip (.exit id)) (.seq (.block id1 body) (.region rb #[⟨some d, .binOp .add T3 (.tmp i) (.const (.int .i64 1)) T4, ty2, p2, a2, none⟩, ⟨some i, .move (.tmp d), ty3, p3, a3, none⟩] false)))))) rest) Q t g n :=
  w_seq (range_loop M J hM h0 hm hJ0 hd hJ hbody hend)

/-- The first of two, and what holds behind it. -/
theorem s_cut {P : Program} {Q : AQ} {a b : Code} {t : Nat → Value} {g : Heap} {n : Nat} (K : (Nat → Value) → Heap → Nat → Prop) (h : awp P a (fun e t g n => e = .normal ∧ K t g n) t g n) (hk : ∀ t g n, K t g n → awp P b Q t g n) : awp P (.seq a b) Q t g n := by
  refine awp_mono (c := a) ?_ h
  rintro e t g n ⟨rfl, hK⟩
  exact hk _ _ _ hK

/-- Operations that look at no memory. -/
def runP (P : Program) (ops : Array Oper) : List Oper → St → Option St
  | [], s => some s
  | o :: rest, s => match awant ops o s.t with
    | some true => match astep P o.op (evl s.t) s.g s.n with
      | some f => if f.r.isEmpty && f.w.isEmpty && f.a.isEmpty then runP P ops rest ⟨put s.t o.dst f.v, s.g, s.n⟩ else none
      | none => none
    | some false => runP P ops rest ⟨put s.t o.dst undef, s.g, s.n⟩
    | none => none

section
variable {P : Program} {ops : Array Oper} {bf : Array Nat} {K : (Nat → Value) → Heap → Nat → Prop}

theorem d_weak : ∀ {l : List Oper} {idx : Nat} {acc acc' : List FP} {t : Nat → Value} {g : Heap} {n : Nat}, (∀ p ∈ acc, p ∈ acc') → awpD P ops bf K l idx acc' t g n → awpD P ops bf K l idx acc t g n
  | [], _, _, _, _, _, _, _, h => h
  | o :: rest, idx, acc, acc', t, g, n, hs, h => by
    obtain ⟨b, hb, h⟩ := h
    refine ⟨b, hb, ?_⟩
    cases b with
    | true =>
      obtain ⟨f, hf, hp, h⟩ := h
      refine ⟨f, hf, fun p hq => hp p (hs p hq), d_weak (fun p hq => ?_) h⟩
      split
      · rename_i e; rw [if_pos e] at hq; exact hs p hq
      · rename_i e
        rw [if_neg e] at hq
        rcases List.mem_cons.1 hq with rfl | hq
        · simp
        · exact List.mem_cons_of_mem _ (hs p hq)
    | false => exact d_weak hs h

theorem d_step {o : Oper} {rest : List Oper} {idx : Nat} {acc : List FP} {t : Nat → Value} {g : Heap} {n : Nat} (f : Eff) (h : astep P o.op (evl t) g n = some f) (hw : awant ops o t = some true)
    (hp : ∀ p ∈ acc, (bf.getD idx 0).testBit p.1 = true ∨ ((∀ x ∈ p.2.2, x ∉ f.r ∧ x ∉ f.wr) ∧ ∀ x ∈ p.2.1, x ∉ f.wr))
    (hk : awpD P ops bf K rest (idx + 1) ((idx, f.r, f.wr) :: acc) (put t o.dst f.v) (f.ap g) (n + f.a.length)) : awpD P ops bf K (o :: rest) idx acc t g n := by
  refine ⟨true, hw, f, .inl h, hp, d_weak (fun p hq => ?_) hk⟩
  split at hq
  · exact List.mem_cons_of_mem _ hq
  · exact hq

theorem d_call {o : Oper} {rest : List Oper} {idx : Nat} {acc : List FP} {t : Nat → Value} {g : Heap} {n : Nat} {c : Call} {fo : Operand} (k : FuncId) (f : Eff) (ho : o.op = .call c) (hc : c.callee = .value fo) (hf : evl t fo = .func (.func k) #[] #[]) (hw : awant ops o t = some true)
    (hspec : FnSpec P k (c.args.toList.map (evl t)) g f) (hj : f.a ≠ [] → f.j = n)
    (hp : ∀ p ∈ acc, (bf.getD idx 0).testBit p.1 = true ∨ ((∀ x ∈ p.2.2, x ∉ f.r ∧ x ∉ f.wr) ∧ ∀ x ∈ p.2.1, x ∉ f.wr))
    (hk : awpD P ops bf K rest (idx + 1) ((idx, f.r, f.wr) :: acc) (put t o.dst f.v) (f.ap g) (n + f.a.length)) : awpD P ops bf K (o :: rest) idx acc t g n := by
  refine ⟨true, hw, f, .inr (.inl ⟨c, fo, k, ho, hc, hf, hj, hspec⟩), hp, d_weak (fun p hq => ?_) hk⟩
  split at hq
  · exact List.mem_cons_of_mem _ hq
  · exact hq

theorem d_heap {l : List Oper} {idx : Nat} {acc : List FP} {t : Nat → Value} {g : Heap} {n : Nat} (h : ∀ G, G = g → awpD P ops bf K l idx acc t G n) : awpD P ops bf K l idx acc t g n := h g rfl

theorem d_pure (k : Nat) : ∀ {l : List Oper} {idx : Nat} {acc : List FP} {t : Nat → Value} {g : Heap} {n : Nat} {s : St}, runP P ops (l.take k) ⟨t, g, n⟩ = some s → awpD P ops bf K (l.drop k) (idx + (l.take k).length) acc s.t s.g s.n → awpD P ops bf K l idx acc t g n := by
  induction k with
  | zero => intro l idx acc t g n s h hk; simp only [List.take_zero, runP, Option.some.injEq] at h; subst h; simpa using hk
  | succ k ih =>
    intro l idx acc t g n s h hk
    cases l with
    | nil => simp only [List.take_nil, runP, Option.some.injEq] at h; subst h; simpa using hk
    | cons o rest =>
      simp only [List.take_succ_cons, runP] at h
      simp only [List.drop_succ_cons, List.take_succ_cons, List.length_cons] at hk
      rw [show idx + ((rest.take k).length + 1) = idx + 1 + (rest.take k).length by omega] at hk
      split at h
      · rename_i hw
        split at h
        · rename_i f hf
          split at h
          · rename_i he
            simp only [Bool.and_eq_true] at he
            obtain ⟨⟨h0, h1⟩, h2⟩ := he
            obtain ⟨h3, h4⟩ := wr_nil h1 h2
            have h5 : f.a.length = 0 := by simp only [List.isEmpty_iff] at h2; simp [h2]
            refine ⟨true, hw, f, .inl hf, fun p hp => .inr ⟨?_, ?_⟩, ?_⟩
            · simp only [List.isEmpty_iff] at h0; rw [h0, h3]; simp
            · rw [h3]; simp
            · rw [h0, h3, h4, h5]
              exact ih h hk
          · cases h
        · cases h
      · rename_i hw
        exact ⟨false, hw, ih h hk⟩
      · cases h

theorem region_draw {id : Nat} {Q : AQ} {t : Nat → Value} {g : Heap} {n : Nat} (bf : Array Nat) (hd : drawOK ops bf = true) (h : awpD P ops bf (Q .normal) ops.toList 0 [] t g n) : awp P (.region id ops true) Q t g n := ⟨bf, hd, h⟩
theorem s_drawn {id : Nat} {Q : AQ} {b : Code} {t : Nat → Value} {g : Heap} {n : Nat} (bf : Array Nat) (hd : drawOK ops bf = true) (h : awpD P ops bf (awp P b Q) ops.toList 0 [] t g n) : awp P (.seq (.region id ops true) b) Q t g n := ⟨bf, hd, h⟩
end

theorem bit_of {bf : Array Nat} {i p : Nat} (j k : Nat) (hj : i = j) (hk : p = k) (h : (bf.getD j 0).testBit k = true) : (bf.getD i 0).testBit p = true := by subst hj hk; exact h

theorem w_gen {P : Program} {c : Code} {Q : AQ} {t : Nat → Value} {g : Heap} {n : Nat} (I : (Nat → Value) → Prop) (h0 : I t) (h : ∀ t, I t → awp P c Q t g n) : awp P c Q t g n := h t h0

end Go.Proofs.Ytdpkhijbikbhnaa.Abs

/-
  The abstract machine, part 14: from a contract to a call with given arguments.
-/
namespace Go.Proofs.Ytdpkhijbikbhnaa.Abs
open Go Go.RowKit

abbrev Ent := Option (Addr × TypeId × List Value)

def gOf (L : List Ent) : Heap := fun i => match L[i]? with
  | some (some e) => some ⟨true, e.2.1, e.2.2⟩
  | _ => none

def rOf (L : List Ent) : Ren := fun i => match L[i]? with
  | some (some e) => ⟨e.1.block, e.1.off, 0⟩
  | _ => ⟨0, 0, 0⟩

/-- The cells that an entry names stand there. -/
def EntIn (w : World) : Ent → Prop
  | none => True
  | some e => e.2.2 ≠ [] ∧ (∀ c ∈ e.2.2, plain c = true) ∧ ∀ (i : Nat) (c : Value), e.2.2[i]? = some c → w.cell? (e.1.add i) = some c

theorem gOf_some {L : List Ent} {i : Nat} {b : Blk} (h : gOf L i = some b) : ∃ e, L[i]? = some (some e) ∧ b = ⟨true, e.2.1, e.2.2⟩ ∧ rOf L i = ⟨e.1.block, e.1.off, 0⟩ := by
  unfold gOf at h
  split at h
  · rename_i e he
    cases h
    exact ⟨e, he, rfl, by simp [rOf, he]⟩
  · cases h

theorem cell_plain {w : World} {x : Addr} {c : Value} (h : w.cell? (x.add 0) = some c) : x.spot = none ∧ x.block < w.heap.size := by
  have h0 : x.add 0 = x := by simp [Addr.add]
  rw [h0] at h
  unfold World.cell? at h
  split at h
  · rename_i c' t' z' hh
    split at h
    · cases h
    · rename_i hs
      refine ⟨by cases hx : x.spot with
        | none => rfl
        | some s => rw [hx] at hs; simp at hs, ?_⟩
      exact (Array.getElem?_eq_some_iff.1 hh).1
  · cases h

theorem add_plain {x : Addr} (h : x.spot = none) (k : Nat) : x.add k = ⟨x.block, x.off + k, none⟩ := by
  unfold Addr.add
  split
  · rename_i e; subst e; rw [← h]; rfl
  · rfl

theorem hr_args {w : World} {L : List Ent} (h : ∀ e ∈ L, EntIn w e) : HR w.heap.size w (rOf L) (gOf L) (fun i => i < L.length) w := by
  refine ⟨Below.refl _ _, Nat.le_refl _, fun i b hb => ?_, ⟨L.length, fun i hi => hi⟩, fun i b hb c hc => ?_, fun i b hb _ => ?_, fun i b hb hf => ?_, fun i j b b' hb _ hf _ => ?_, KeepsOthers.refl _⟩
  · obtain ⟨e, he, _, _⟩ := gOf_some hb
    exact (List.getElem?_eq_some_iff.1 he).1
  · obtain ⟨e, he, rfl, _⟩ := gOf_some hb
    exact SV1_plain ((h _ (List.mem_of_getElem? he)).2.1 c hc)
  · obtain ⟨e, he, rfl, hr⟩ := gOf_some hb
    obtain ⟨h1, h2, h3⟩ := h _ (List.mem_of_getElem? he)
    rw [hr]
    have key : e.1.spot = none ∧ e.1.block < w.heap.size := by
      cases hcs : e.2.2 with
      | nil => exact absurd hcs h1
      | cons c cs => exact cell_plain (h3 0 c (by rw [hcs]; rfl))
    refine ⟨key.2, fun k c hc => ⟨c, ?_, VR_plain (h2 c (List.mem_of_getElem? hc))⟩⟩
    have := h3 k c hc
    rw [add_plain key.1] at this
    exact this
  · obtain ⟨e, he, rfl, _⟩ := gOf_some hb; cases hf
  · obtain ⟨e, he, rfl, _⟩ := gOf_some hb; cases hf

/-- A slice that came in, in place i of the list. -/
def argV (i : Nat) (a : Option Addr) (len esz : Nat) : Value :=
  match a with
  | none => .slice none 0 0
  | some _ => if len = 0 then .slice (some ⟨0, 0, none⟩) 0 esz else .slice (some ⟨i, 0, some (len * esz)⟩) len esz

def argE (a : Option Addr) (len : Nat) (e : TypeId) (cs : List Value) : Ent :=
  match a with
  | none => none
  | some x => if len = 0 then none else some (x, e, cs)

theorem argV_VV {L : List Ent} {i len cap esz : Nat} {a : Option Addr} {e : TypeId} {cs : List Value} {s : Nat → Prop} (hL : L[i]? = some (argE a len e cs)) (hs : s i) (hcs : cs.length = len * esz) (h1 : len ≤ cap) (h2 : cap ≤ maxLen) (hn : a = none → len = 0 ∧ cap = 0) {w : World} (hE : EntIn w (argE a len e cs)) :
    VV (rOf L) (gOf L) s (argV i a len esz) (.slice a len cap) := by
  cases a with
  | none =>
    obtain ⟨rfl, rfl⟩ := hn rfl
    exact VV_slice.2 ⟨⟨rfl, rfl, rfl⟩, trivial⟩
  | some x =>
    by_cases h0 : len = 0
    · subst h0
      simp only [argV, if_true]
      exact VV_slice.2 ⟨⟨x, cap, rfl, h1, h2, fun _ => rfl, fun ver b hv => by cases hv⟩, .inl rfl⟩
    · simp only [argV, h0, if_false]
      simp only [argE, h0, if_false] at hL hE
      refine VV_slice.2 ⟨⟨x, cap, rfl, h1, h2, fun h => (by simp at h), fun ver b hv hb => ?_⟩, .inr hs⟩
      obtain ⟨e', he', rfl, hr⟩ := gOf_some hb
      rw [hL] at he'
      cases he'
      cases hv
      simp only [hcs, Nat.le_refl, true_and]
      intro _
      rw [hr]
      refine ⟨?_, by omega, fun h => by cases h⟩
      have hx : x.spot = none := by
        cases hcc : cs with
        | nil => exact absurd hcc hE.1
        | cons c cs' => exact (cell_plain (hE.2.2 0 c (by simp [hcc]))).1
      simp only [Nat.add_zero]
      rw [← hx]

theorem argV_src {L : List Ent} {i len esz : Nat} {a : Option Addr} {e : TypeId} {cs : List Value} (hL : L[i]? = some (argE a len e cs)) (hcs : cs.length = len * esz) (hn : a = none → len = 0) : Src (gOf L) (argV i a len esz) esz len cs := by
  cases a with
  | none =>
    have := hn rfl
    subst this
    exact .inl ⟨rfl, rfl, List.eq_nil_of_length_eq_zero (by simpa using hcs)⟩
  | some x =>
    by_cases h0 : len = 0
    · subst h0
      exact .inr (.inl ⟨⟨0, 0, none⟩, by simp [argV], rfl, List.eq_nil_of_length_eq_zero (by simpa using hcs)⟩)
    · simp only [argE, h0, if_false] at hL
      refine .inr (.inr ⟨⟨i, 0, some (len * esz)⟩, ⟨true, e, cs⟩, by simp [argV, h0], by omega, ?_, ?_, ?_⟩)
      · simp [rd, gOf, hL, hcs]
      · simp only [List.drop_zero]; rw [← hcs]; simp
      · simp [hcs]

/-- What a law's walk asks for. -/
theorem law_calls {P : Program} {k : FuncId} {fn : Func} {args : List Value} {args' : Array Value} {g : Heap} {ρ : Ren} {s : Nat → Prop} {r : List Nat} {w : World} (hf : P.funcs[k]? = some fn) (hname : (fn.name == "runtime.NumGoroutine") = false) (hb : fn.body.isNone = false)
    (hspec : FnSpec P k args g { v := .bool true, r := r }) (hR : HR w.heap.size w ρ g s w) (ha : All2 (VV ρ g s) args args'.toList) :
    Calls P k args' w fun e w' => e = .returned (.bool true) ∧ Below w.heap.size w w' := by
  have h := hspec g s (fun _ _ => rfl) (fun i h1 h2 => by simp at h1 h2) w.heap.size w ρ w args' ⟨some 0, .move (.const (.bool true)), 0, "", #[], none⟩ { tmps := #[undef], defers := [] }
    (fun a w' => a.tmps[0]? = some (.bool true) ∧ Below w.heap.size w w') (fun _ _ _ => False) hR ha (fun ρ' w' v' hR' _ hv => by
      have := VV_bool.1 hv
      subst this
      exact ⟨by simp [Act.put], hR'.below⟩)
  have hcall : (callFunc k args').run P w = .ok (.enter k args') w := by
    unfold callFunc
    simp only [Sem.run_bind, run_program, Result.andThen_ok, hf, hname, Bool.false_eq_true, if_false, hb, Sem.run_pure]
  rw [hcall, Oper.upon_enter] at h
  refine h.mono fun e w' he => ?_
  cases e with
  | returned v =>
    obtain ⟨h1, h2⟩ := he
    simp [Act.put] at h1
    exact ⟨by rw [h1], h2⟩
  | panicked c => exact he.elim
  | outgrown => obtain ⟨_, _, h⟩ := he; exact h.elim

/-- A row of integers that came in. -/
def Row (k : IntKind) (w : World) (a : Option Addr) (len cap : Nat) (zs : List Int) : Prop :=
  (a = none ∧ len = 0 ∧ cap = 0 ∧ zs = []) ∨
  ∃ x, a = some x ∧ len ≤ cap ∧ cap ≤ maxLen ∧ zs.length = cap ∧ (∀ i, i < zs.length → w.cell? (x.add i) = some (.int k (zs.getD i 0))) ∧ ∀ n ∈ zs, (Lit.int k n).wf = true

theorem row_in {k : IntKind} {w : World} {a : Option Addr} {len cap : Nat} {zs : List Int} (h : Row k w a len cap zs) (e : TypeId) : EntIn w (argE a len e ((zs.take len).map (Value.int k))) ∧ len ≤ cap ∧ cap ≤ maxLen ∧ (a = none → len = 0 ∧ cap = 0) ∧ ((zs.take len).map (Value.int k)).length = len := by
  rcases h with ⟨rfl, rfl, rfl, rfl⟩ | ⟨x, rfl, h1, h2, h3, h4, h5⟩
  · exact ⟨trivial, Nat.le_refl _, Nat.zero_le _, fun _ => ⟨rfl, rfl⟩, rfl⟩
  · have hl : ((zs.take len).map (Value.int k)).length = len := by simp; omega
    refine ⟨?_, h1, h2, by simp, hl⟩
    unfold argE
    by_cases h0 : len = 0
    · simp only [h0, if_true]; trivial
    · simp only [h0, if_false]
      refine ⟨fun hh => ?_, fun c hc => ?_, fun i c hc => ?_⟩
      · simp only at hh
        rw [hh] at hl; simp at hl; omega
      · obtain ⟨z, _, rfl⟩ := List.mem_map.1 hc; rfl
      · simp only [List.getElem?_map, Option.map_eq_some_iff] at hc
        obtain ⟨z, hz, rfl⟩ := hc
        rw [List.getElem?_take] at hz
        split at hz
        · obtain ⟨hi, e⟩ := List.getElem?_eq_some_iff.1 hz
          rw [h4 i hi]
          simp [List.getD, List.getElem?_eq_getElem hi, e]
        · cases hz

theorem All2_nil {α β : Type} {R : α → β → Prop} : All2 R [] [] := ⟨rfl, by simp⟩
theorem All2_cons {α β : Type} {R : α → β → Prop} {a : α} {b : β} {l : List α} {l' : List β} (h : R a b) (hl : All2 R l l') : All2 R (a :: l) (b :: l') := by
  refine ⟨by simp [hl.1], fun i x hx => ?_⟩
  cases i with
  | zero => simp at hx; subst hx; exact ⟨b, rfl, h⟩
  | succ i => simpa using hl.2 i x (by simpa using hx)

end Go.Proofs.Ytdpkhijbikbhnaa.Abs

/-
  The abstract machine, part 15: cells of an owned slice, written.
-/
namespace Go.Proofs.Ytdpkhijbikbhnaa.Abs
open Go Go.RowKit

theorem own_at {P : Program} {T e : TypeId} {g : Heap} {k : Nat} {l : List Value} (h : g k = some ⟨false, e, l⟩) {i : Nat} {c : Value} (hc : l[i]? = some c) (ht : P.underlying T = some (.slice e)) (hs : tsize P e = some 1) (ha : aggT P e = some false) :
    (∀ q, stepIndex P T (.slice (some ⟨k, 0, some l.length⟩) l.length 1) (.int q (i : Int)) = some { v := .pointer (some ⟨k, i, some l.length⟩) }) ∧
    stepLoad P e (.pointer (some ⟨k, i, some l.length⟩)) g = some { v := c, r := [k] } ∧
    ∀ q x, stepStore P e (.pointer (some ⟨k, i, some l.length⟩)) (.int q x) g = some { v := undef, r := [k], w := [(k, ⟨false, e, l.set i (.int q x)⟩)] } := by
  have hlt := (List.getElem?_eq_some_iff.1 hc).1
  have hr : rd g ⟨k, i, some l.length⟩ = some ⟨false, e, l⟩ := by simp [rd, h]
  refine ⟨fun q => ?_, ?_, fun q x => ?_⟩
  · simp [stepIndex, ht, hs, hlt]
  · simp [stepLoad, hr, ha, hc]
  · simp [stepStore, hr, isTup, hs, Value.cells, putAll]
    omega
end Go.Proofs.Ytdpkhijbikbhnaa.Abs

/-
  The abstract machine, part 16: statements whose order is open, the reading parts of them.
-/
namespace Go.Proofs.Ytdpkhijbikbhnaa.Abs
open Go Go.RowKit

section
variable {P : Program} {ops : Array Oper} {bf : Array Nat} {K : (Nat → Value) → Heap → Nat → Prop}

/-- k operations that at most read, where nothing was written so far. -/
theorem d_reads (k : Nat) : ∀ {l : List Oper} {idx : Nat} {acc : List FP} {t : Nat → Value} {g : Heap} {n : Nat} {s : St}, (∀ p ∈ acc, p.2.2 = []) → runR P ops (l.take k) ⟨t, g, n⟩ = some s →
    (∀ acc' : List FP, (∀ p ∈ acc', p.2.2 = []) → awpD P ops bf K (l.drop k) (idx + (l.take k).length) acc' s.t s.g s.n) → awpD P ops bf K l idx acc t g n := by
  induction k with
  | zero => intro l idx acc t g n s ha h hk; simp only [List.take_zero, runR, Option.some.injEq] at h; subst h; simpa using hk acc ha
  | succ k ih =>
    intro l idx acc t g n s ha h hk
    cases l with
    | nil => simp only [List.take_nil, runR, Option.some.injEq] at h; subst h; simpa using hk acc ha
    | cons o rest =>
      simp only [List.take_succ_cons, runR] at h
      have hk' : ∀ acc' : List FP, (∀ p ∈ acc', p.2.2 = []) → awpD P ops bf K (rest.drop k) (idx + 1 + (rest.take k).length) acc' s.t s.g s.n := fun acc' h' => by
        have := hk acc' h'
        simp only [List.drop_succ_cons, List.take_succ_cons, List.length_cons] at this
        rwa [show idx + ((rest.take k).length + 1) = idx + 1 + (rest.take k).length by omega] at this
      split at h
      · rename_i hw
        split at h
        · rename_i f hf
          split at h
          · rename_i he
            simp only [Bool.and_eq_true] at he
            obtain ⟨h3, h4⟩ := wr_nil he.1 he.2
            have h5 : f.a.length = 0 := by have := he.2; simp only [List.isEmpty_iff] at this; simp [this]
            refine ⟨true, hw, f, .inl hf, fun p hp => .inr ⟨by rw [ha p hp]; simp, by rw [h3]; simp⟩, ?_⟩
            rw [h4, h5]
            refine ih ?_ h hk'
            intro p hp
            split at hp
            · exact ha p hp
            · rcases List.mem_cons.1 hp with rfl | hp
              · exact h3
              · exact ha p hp
          · cases h
        · cases h
      · rename_i hw
        exact ⟨false, hw, ih ha h hk'⟩
      · cases h

/-- What writes nothing meets nothing, where nothing was written so far. -/
theorem d_free {acc : List FP} {i : Nat} {f : Eff} (ha : ∀ p ∈ acc, p.2.2 = []) (hf : f.wr = []) : ∀ p ∈ acc, (bf.getD i 0).testBit p.1 = true ∨ ((∀ x ∈ p.2.2, x ∉ f.r ∧ x ∉ f.wr) ∧ ∀ x ∈ p.2.1, x ∉ f.wr) :=
  fun p hp => .inr ⟨by rw [ha p hp]; simp, by rw [hf]; simp⟩
end
end Go.Proofs.Ytdpkhijbikbhnaa.Abs

/-
  The abstract machine, part 17: a body's end with one new block, whatever the value.
-/
namespace Go.Proofs.Ytdpkhijbikbhnaa.Abs
open Go Go.RowKit

section
variable {s2 : Nat → Prop} {g2 g' : Heap} {n : Nat} {v' : Value}

theorem fin_one {v : Value} {e : TypeId} {cs : List Value} {j k : Nat} {r : List Nat} (hv : v' = renT (fun i => if i = j then k else i) v) (hsv : SVT (fun i => s2 i ∨ i = j) v) (hk : n ≤ k) (hg : g' k = some ⟨false, e, cs⟩) (hp : ∀ c ∈ cs, plain c = true)
    (hold : ∀ i b, g2 i = some b → g' i = some b) : Abs.Fin { v := v, r := r, j := j, a := [⟨false, e, cs⟩] } [k] s2 g2 n g' v' := by
  have hsig : (sig ({ v := v, r := r, j := j, a := [⟨false, e, cs⟩] } : Eff) [k]) = fun i => if i = j then k else i := by
    funext i
    unfold sig
    by_cases h : i = j
    · subst h; simp
    · rw [if_neg h]
      show (if j ≤ i then _ else i) = i
      split
      · have : i - j ≠ 0 := by omega
        simp [this]
      · rfl
  refine ⟨rfl, by simpa using hk, by simp, by rw [hsig]; exact hv, fun i b hi => ?_, by simp, by simp, fun i b _ h => hold i b h, ?_, ?_, by simp⟩
  · cases i with
    | zero => simp at hi; subst hi; exact ⟨k, rfl, by rw [hg, renB_plain hp]⟩
    | succ i => simp at hi
  · refine SVT.imp (fun i hi => ?_) hsv
    rcases hi with hi | rfl
    · exact .inl hi
    · exact .inr ⟨Nat.le_refl _, by simp⟩
  · intro b hb c hc
    simp at hb
    subst hb
    exact SV1_plain (hp c hc)
end
end Go.Proofs.Ytdpkhijbikbhnaa.Abs
