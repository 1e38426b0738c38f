import Derived.Test.YtahinegnblankaaW4
namespace Go.Proofs.Ytahinegnblankaa
open Go Abs
set_option linter.unusedSimpArgs false
set_option linter.unusedVariables false

def cl : Code → Code
  | .seq a _ => a
  | c => c
def cr : Code → Code
  | .seq _ b => b
  | c => c
def cb : Code → Code
  | .block _ c => c
  | .loop c => c
  | c => c
def ct : Code → Code
  | .cond _ x _ => x
  | c => c
def ce : Code → Code
  | .cond _ _ y => y
  | c => c

section
variable {P : Program} {ops : Array Oper} {bf : Array Nat} {K : (Nat → Value) → Heap → Nat → Prop} {o : Oper} {rest : List Oper} {idx lo hi : Nat} {acc : List FP} {t : Nat → Value} {g : Heap} {n : Nat}

/-- A call that reads below lo and makes blocks. -/
theorem d_newcall {c : Call} {fo : Operand} (k : FuncId) (f : Eff) (ho : o.op = .call c) (hc : c.callee = .value fo) (hf : evl t fo = .func (.func k) #[] #[]) (hw : awant ops o t = some true)
    (hspec : FnSpec P k (c.args.toList.map (evl t)) g f) (hj : f.a ≠ [] → f.j = n) (ha : AccB lo n idx acc) (hr : ∀ x ∈ f.r, x < lo) (h1 : f.w = []) (hlo : lo ≤ n)
    (hk : ∀ acc', AccB lo (n + f.a.length) (idx + 1) acc' → (∀ p ∈ acc', ∀ x ∈ p.2.2, n ≤ x → p.1 = idx) → awpD P ops bf K rest (idx + 1) acc' (put t o.dst f.v) (f.ap g) (n + f.a.length)) : awpD P ops bf K (o :: rest) idx acc t g n := by
  have hwr : ∀ x ∈ f.wr, n ≤ x ∧ x < n + f.a.length := by
    intro x hx
    simp only [Eff.wr, h1, List.map_nil, List.nil_append, List.mem_range'_1] at hx
    by_cases e : f.a = []
    · simp [e] at hx; omega
    · rw [hj e] at hx; omega
  refine d_call k f ho hc hf hw hspec hj (fun p hp => .inr ⟨fun x hx => ⟨fun h2 => ?_, fun h2 => ?_⟩, fun x hx h2 => ?_⟩) (hk _ ((ha.le (Nat.le_refl _) (by omega) (Nat.le_refl _)).cons (fun x hx => by have := hr x hx; omega) (fun x hx => by have := hwr x hx; omega)) ?_)
  · have := (ha p hp).2.1 x hx
    have := hr x h2
    omega
  · have := (ha p hp).2.1 x hx
    have := hwr x h2
    omega
  · have := (ha p hp).2.2 x hx
    have := hwr x h2
    omega
  · intro p hp x hx hn
    rcases List.mem_cons.1 hp with rfl | hp
    · rfl
    · have := (ha p hp).2.1 x hx
      omega

/-- What such a call made is read, behind it. -/
theorem d_rdnew (m i : Nat) (f : Eff) (h : astep P o.op (evl t) g n = some f) (hw : awant ops o t = some true) (ha : AccB lo hi idx acc) (hm : ∀ p ∈ acc, ∀ x ∈ p.2.2, m ≤ x → p.1 = i) (hb : (bf.getD idx 0).testBit i = true) (hr : ∀ x ∈ f.r, m ≤ x ∧ x < hi) (h1 : f.w = []) (h2 : f.a = [])
    (hk : ∀ acc', AccB lo hi (idx + 1) acc' → awpD P ops bf K rest (idx + 1) acc' (put t o.dst f.v) g n) : awpD P ops bf K (o :: rest) idx acc t g n := by
  have hwr : f.wr = [] := by simp [Eff.wr, h1, h2]
  refine d_step f h hw (fun p hp => ?_) ?_
  · by_cases e : p.1 = i
    · left; rw [e]; exact hb
    · right
      refine ⟨fun x hx => ⟨fun hx' => ?_, by rw [hwr]; simp⟩, by rw [hwr]; simp⟩
      exact e (hm p hp x hx (hr x hx').1)
  · have e : f.ap g = g := by simp [Eff.ap, h1, h2, setAll, addAll]
    rw [e, h2, hwr]
    exact hk _ (ha.cons (fun x hx => (hr x hx).2) (by simp))
end

section
variable {P : Program} {ops : Array Oper} {bf : Array Nat} {K : (Nat → Value) → Heap → Nat → Prop} {o : Oper} {rest : List Oper} {idx lo hi : Nat} {acc : List FP} {t : Nat → Value} {g : Heap} {n : Nat}

/-- A call that stands behind all that was before, and makes nothing. -/
theorem d_fcall {c : Call} {fo : Operand} (k : FuncId) (f : Eff) (ho : o.op = .call c) (hc : c.callee = .value fo) (hf : evl t fo = .func (.func k) #[] #[]) (hw : awant ops o t = some true)
    (hspec : FnSpec P k (c.args.toList.map (evl t)) g f) (hfa : f.a = []) (ha : AccB lo hi idx acc) (hb : bf.getD idx 0 = 2 ^ idx - 1) (hr : ∀ x ∈ f.r, x < hi) (hwr : ∀ x ∈ f.wr, lo ≤ x ∧ x < hi)
    (hk : ∀ acc', AccB lo hi (idx + 1) acc' → awpD P ops bf K rest (idx + 1) acc' (put t o.dst f.v) (f.ap g) n) : awpD P ops bf K (o :: rest) idx acc t g n := by
  refine d_call k f ho hc hf hw hspec (fun h => (h hfa).elim) (fun p hp => .inl (by rw [hb]; exact full_bit (ha p hp).1)) ?_
  have := hk _ (ha.cons hr hwr)
  rw [hfa]
  exact this
end

end Go.Proofs.Ytahinegnblankaa
