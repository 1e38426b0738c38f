import Derived.Test.YtahinegnblankaaP34
namespace Go.Proofs.Ytahinegnblankaa
open Go Abs
set_option linter.unusedSimpArgs false
set_option linter.unusedVariables false

section
variable {P : Program} {ops : Array Oper} {bf : Array Nat} {K : (Nat → Value) → Heap → Nat → Prop} {o : Oper} {rest : List Oper} {idx lo hi : Nat} {acc : List FP} {t : Nat → Value} {g : Heap} {n : Nat}
/-- A call that stands behind all that was before. -/
theorem d_fcall1 {c : Call} {fo : Operand} (k : FuncId) (f : Eff) (ho : o.op = .call c) (hc : c.callee = .value fo) (hf : evl t fo = .func (.func k) #[] #[]) (hw : awant ops o t = some true)
    (hspec : FnSpec P k (c.args.toList.map (evl t)) g f) (hj : f.a ≠ [] → f.j = n) (ha : AccB lo hi idx acc) (hb : bf.getD idx 0 = 2 ^ idx - 1) (hr : ∀ x ∈ f.r, x < n + f.a.length) (hwr : ∀ x ∈ f.wr, lo ≤ x ∧ x < n + f.a.length) (hn : hi ≤ n + f.a.length)
    (hk : ∀ acc', AccB lo (n + f.a.length) (idx + 1) acc' → awpD P ops bf K rest (idx + 1) acc' (put t o.dst f.v) (f.ap g) (n + f.a.length)) : awpD P ops bf K (o :: rest) idx acc t g n :=
  d_call1 k f ho hc hf hw hspec hj ha (fun p hp => .inl (by rw [hb]; exact full_bit (ha p hp).1)) hr hwr hn hk
end

end Go.Proofs.Ytahinegnblankaa
