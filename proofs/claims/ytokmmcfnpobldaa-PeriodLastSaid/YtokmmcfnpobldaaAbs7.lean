/-
  The abstract machine, part 7: contracts of functions, single steps, the state of a frame.
-/
import Derived.Test.YtokmmcfnpobldaaAbs6
namespace Go.Proofs.Ytokmmcfnpobldaa.Abs
open Go Go.RowKit

/-- What a call of function k does. -/
def CallSim (P : Program) (k : FuncId) (args : List Value) (g : Heap) (s : Nat → Prop) (f : Eff) : Prop :=
  ∀ (base : Nat) (w0 : World) (ρ : Ren) (w : World) (args' : Array Value) (o : Oper) (a : Act) (K : Act → World → Prop) (Q : Exit → Act → World → Prop), HR base w0 ρ g s w →
    All2 (VV ρ g s) args args'.toList →
    (∀ ρ' w' v', HR base w0 ρ' (f.ap g) (f.sn s) w' → Mono ρ g s ρ' (f.ap g) → VV ρ' (f.ap g) (f.sn s) f.v v' → K (a.put o.dst v') w') →
    o.upon P a K Q ((callFunc k args').run P w)

def Fresh (f : Eff) (s : Nat → Prop) : Prop := ∀ i, f.j ≤ i → i < f.j + f.a.length → ¬ s i

/-- A contract: it hangs on the blocks that its effect names alone. -/
def FnSpec (P : Program) (k : FuncId) (args : List Value) (g : Heap) (f : Eff) : Prop :=
  ∀ (g2 : Heap) (s2 : Nat → Prop), (∀ i ∈ f.fp, g2 i = g i) → Fresh f s2 → CallSim P k args g2 s2 f

/-- One operation. -/
def Stp (P : Program) (o : Op) (ev : Operand → Value) (g : Heap) (j : Nat) (f : Eff) : Prop :=
  astep P o ev g j = some f ∨ ∃ c fo k, o = .call c ∧ c.callee = .value fo ∧ ev fo = .func (.func k) #[] #[] ∧ (f.a ≠ [] → f.j = j) ∧ FnSpec P k (c.args.toList.map ev) g f

theorem Stp.j {P : Program} {o : Op} {ev : Operand → Value} {g : Heap} {j : Nat} {f : Eff} (h : Stp P o ev g j f) (ha : f.a ≠ []) : f.j = j := by
  rcases h with h | ⟨c, fo, k, _, _, _, hj, _⟩
  · exact step_j h ha
  · exact hj ha

theorem callFunc_app {P : Program} (k : FuncId) (args : Array Value) : (#[] : Array Value) ++ args ++ (#[] : Array Value) = args := by simp

theorem Stp.sim {P : Program} {o : Oper} {ev ev' : Operand → Value} {g g' : Heap} {s' : Nat → Prop} {j : Nat} {f : Eff} (h : Stp P o.op ev g j f) (he : ∀ x ∈ o.op.operands, ev' x = ev x)
    (hg : ∀ i ∈ f.fp, g' i = g i) (hs : Fresh f s') : OpSim P o ev' g' s' f := by
  rcases h with h | ⟨c, fo, k, ho, hc, hf, _, hspec⟩
  · have h1 := step_local h hg
    rw [← step_ev he] at h1
    refine sim_step h1 fun ha => ?_
    have := step_j h ha
    subst this
    refine hs _ (Nat.le_refl _) ?_
    have : 0 < f.a.length := List.length_pos_iff.2 ha
    omega
  · intro base w0 ρ w a K Q hR hv hk
    obtain ⟨callee, args, argTypes⟩ := c
    simp only at hc
    subst hc
    simp only [ho, Op.operands, Call.operands] at he hv
    have hfo := hv fo (by simp)
    rw [he fo (by simp), hf, VV_func] at hfo
    unfold Oper.wp
    have hex : (execOp a.eval o).run P w = (callFunc k (args.map a.eval)).run P w := by
      unfold execOp
      simp only [ho, resolve, hfo, Deferred.ofValue, invoke, Sem.run_bind, Sem.run_pure, Result.andThen_ok]
      simp
    rw [hex]
    refine hspec g' s' hg hs base w0 ρ w (args.map a.eval) o a K Q hR ⟨by simp, fun i v hi => ?_⟩ hk
    simp only [List.getElem?_map, Option.map_eq_some_iff] at hi
    obtain ⟨x, hx, rfl⟩ := hi
    have hm : x ∈ args := by simpa using List.mem_of_getElem? hx
    refine ⟨a.eval x, by simp only [Array.toList_map, List.getElem?_map, hx, Option.map_some], ?_⟩
    have h2 := hv x (by simp [hm])
    rw [he x (by simp [hm])] at h2
    exact h2

-- the state of a frame
def evl (t : Nat → Value) : Operand → Value
  | .tmp i => t i
  | .const v => v
  | .func f => .func (.func f) #[] #[]
  | .global _ => undef

def okv : Value → Bool
  | .agg cs => cs.toList.all plain
  | .tuple vs => vs.isEmpty
  | v => plain v

def okOperand : Operand → Bool
  | .tmp _ => true
  | .const v => okv v
  | .func _ => true
  | .global _ => false

theorem VV_okv {ρ : Ren} {g : Heap} {s : Nat → Prop} {v : Value} (h : okv v = true) : VV ρ g s v v := by
  cases v with
  | agg cs =>
    have h' : ∀ c ∈ cs.toList, plain c = true := fun c hc => List.all_eq_true.1 h c hc
    exact ⟨⟨cs, rfl, All2_plain h'⟩, fun c hc => SV1_plain (h' c hc)⟩
  | tuple vs =>
    have : vs = #[] := by simpa [okv] using h
    subst this
    exact VV_undef
  | _ => exact VV_plain h

def put (t : Nat → Value) (dst : Option Tmp) (v : Value) : Nat → Value :=
  match dst with
  | some d => upd t d v
  | none => t

structure TR (N : Nat) (ρ : Ren) (g : Heap) (s : Nat → Prop) (t : Nat → Value) (a : Act) : Prop where
  defers : a.defers = []
  size : a.tmps.size = N
  val : ∀ i, VV ρ g s (t i) (a.tmps.getD i undef)

theorem TR.eval {N : Nat} {ρ : Ren} {g : Heap} {s : Nat → Prop} {t : Nat → Value} {a : Act} (h : TR N ρ g s t a) {x : Operand} (hx : okOperand x = true) : VV ρ g s (evl t x) (a.eval x) := by
  cases x with
  | tmp i => exact h.val i
  | const v => exact VV_okv hx
  | func f => exact VV_func.2 rfl
  | global g => simp [okOperand] at hx

theorem VV.mono {ρ ρ' : Ren} {g g' : Heap} {s s' : Nat → Prop} {v v' : Value} (hm : Mono ρ g s ρ' g') (hs : ∀ i, s i → s' i) (h : VV ρ g s v v') : VV ρ' g' s' v v' :=
  ⟨VT.mono hm h.2 h.1, SVT.imp hs h.2⟩

theorem TR.mono {N : Nat} {ρ ρ' : Ren} {g g' : Heap} {s s' : Nat → Prop} {t : Nat → Value} {a : Act} (h : TR N ρ g s t a) (hm : Mono ρ g s ρ' g') (hs : ∀ i, s i → s' i) : TR N ρ' g' s' t a :=
  ⟨h.defers, h.size, fun i => (h.val i).mono hm hs⟩

def okDst (N : Nat) (dst : Option Tmp) : Bool :=
  match dst with
  | some d => decide (d < N)
  | none => true

theorem TR.put {N : Nat} {ρ : Ren} {g : Heap} {s : Nat → Prop} {t : Nat → Value} {a : Act} (h : TR N ρ g s t a) {dst : Option Tmp} (hd : okDst N dst = true) {v v' : Value} (hv : VV ρ g s v v') :
    TR N ρ g s (put t dst v) (a.put dst v') := by
  cases dst with
  | none => exact h
  | some d =>
    have hd' : d < N := by simpa [okDst] using hd
    refine ⟨h.defers, by simp [Act.put, h.size], fun i => ?_⟩
    by_cases e : i = d
    · subst e
      have : ((a.put (some i) v').tmps).getD i undef = v' := by simp [Act.put, h.size, hd']
      rw [this]
      simpa [Abs.put] using hv
    · have : ((a.put (some d) v').tmps).getD i undef = a.tmps.getD i undef := by simp [Act.put, Array.getElem?_setIfInBounds_ne (Ne.symm e)]
      rw [this]
      simpa [Abs.put, upd_ne _ _ e] using h.val i

/-- Whether an operation is wanted: its guard is a bool by then. -/
def awant (ops : Array Oper) (o : Oper) (t : Nat → Value) : Option Bool :=
  match o.guard with
  | none => some true
  | some (j, want) => match (ops[j]?).bind (·.dst) with
    | some d => match t d with
      | .bool b => some (b == want)
      | _ => none
    | none => none

theorem awant_spec {N : Nat} {ρ : Ren} {g : Heap} {s : Nat → Prop} {t : Nat → Value} {a : Act} (h : TR N ρ g s t a) {ops : Array Oper} {o : Oper} {b : Bool} (hw : awant ops o t = some b) :
    Region.wanted o (yielded ops a.tmps) = b := by
  unfold awant at hw
  unfold Region.wanted
  cases hg : o.guard with
  | none => simp [hg] at hw; simp [hw]
  | some p =>
    obtain ⟨j, want⟩ := p
    simp only [hg] at hw ⊢
    cases hd : (ops[j]?).bind (·.dst) with
    | none => simp [hd] at hw
    | some d =>
      simp only [hd] at hw
      cases ht : t d <;> simp only [ht, reduceCtorEq, Option.some.injEq] at hw
      rename_i b'
      have hv := h.val d
      rw [ht, VV_bool] at hv
      have hlt : d < a.tmps.size := by
        rcases Nat.lt_or_ge d a.tmps.size with hlt | hge
        · exact hlt
        · have : a.tmps.getD d undef = undef := by simp [hge]
          rw [this] at hv
          cases hv
      have hget : a.tmps[d]? = some (.bool b') := by
        rw [Array.getElem?_eq_getElem hlt]
        simp only [Array.getD, hlt, dite_true] at hv
        rw [← hv]
        rfl
      unfold yielded
      simp only [hd, Option.bind_some, hget]
      rw [← hw]
      cases b' <;> cases want <;> rfl

def okOper (N : Nat) (o : Oper) : Bool := okDst N o.dst && o.op.operands.toList.all okOperand

/-- The operations in the text's order. -/
def awpOps (P : Program) (ops : Array Oper) (K : (Nat → Value) → Heap → Nat → Prop) : List Oper → (Nat → Value) → Heap → Nat → Prop
  | [], t, g, n => K t g n
  | o :: rest, t, g, n => ∃ b, awant ops o t = some b ∧
    if b then ∃ f, Stp P o.op (evl t) g n f ∧ awpOps P ops K rest (put t o.dst f.v) (f.ap g) (n + f.a.length)
    else awpOps P ops K rest (put t o.dst undef) g n

theorem sn_lt {f : Eff} {n : Nat} (hf : f.a ≠ [] → f.j = n) : ∀ i, f.sn (· < n) i → i < n + f.a.length := by
  intro i hi
  rcases hi with hi | hi
  · omega
  · by_cases ha : f.a = []
    · simp [ha] at hi; omega
    · have := hf ha; omega

theorem awpOps_sound {P : Program} {N : Nat} {ops : Array Oper} {K : (Nat → Value) → Heap → Nat → Prop} {base : Nat} {w0 : World} {ρ0 : Ren} {g0 : Heap} {s0 : Nat → Prop} {Q : Exit → Act → World → Prop}
    (hQ : ∀ ρ t g n w a, K t g n → HR base w0 ρ g (· < n) w → TR N ρ g (· < n) t a → Mono ρ0 g0 s0 ρ g → (∀ i, s0 i → i < n) → Q .normal a w) :
    ∀ (l : List Oper) (ρ : Ren) (t : Nat → Value) (g : Heap) (n : Nat) (w : World) (a : Act), (∀ o ∈ l, okOper N o = true) → awpOps P ops K l t g n → HR base w0 ρ g (· < n) w → TR N ρ g (· < n) t a →
      Mono ρ0 g0 s0 ρ g → (∀ i, s0 i → i < n) → wpList P ops Q l a w
  | [], ρ, t, g, n, w, a, _, h, hR, hT, hM, hS => hQ ρ t g n w a h hR hT hM hS
  | o :: l, ρ, t, g, n, w, a, hok, h, hR, hT, hM, hS => by
    obtain ⟨b, hb, h⟩ := h
    have hok0 := hok o (by simp)
    simp only [okOper, Bool.and_eq_true] at hok0
    have hops : ∀ x ∈ o.op.operands, okOperand x = true := fun x hx => List.all_eq_true.1 hok0.2 x (by simpa using hx)
    have hw := awant_spec hT hb
    unfold wpList
    cases b with
    | false =>
      rw [if_neg (by simp [hw])]
      exact awpOps_sound hQ l ρ _ g n w _ (fun o ho => hok o (by simp [ho])) (by simpa using h) hR (hT.put hok0.1 VV_undef) hM hS
    | true =>
      rw [if_pos hw]
      simp only [if_true] at h
      obtain ⟨f, hf, h⟩ := h
      refine .inl (hf.sim (ev' := evl t) (fun _ _ => rfl) (fun _ _ => rfl) (fun i h1 h2 => ?_) base w0 ρ w a _ Q hR (fun x hx => hT.eval (hops x hx)) fun ρ' w' v' hR' hM' hv' => ?_)
      · have : f.a ≠ [] := by
          intro e
          simp [e] at h2
          omega
        have := hf.j this
        show ¬ i < n
        omega
      · have hlt := sn_lt (n := n) hf.j
        have hR2 : HR base w0 ρ' (f.ap g) (· < n + f.a.length) w' := hR'.seenMore hlt ⟨_, fun i hi => hi⟩
        refine awpOps_sound hQ l ρ' _ _ _ w' _ (fun o ho => hok o (by simp [ho])) h hR2 ((hT.mono hM' (fun i hi => by omega)).put hok0.1 (hv'.imp hlt)) (hM.trans hS hM') (fun i hi => by have := hS i hi; omega)

end Go.Proofs.Ytokmmcfnpobldaa.Abs
