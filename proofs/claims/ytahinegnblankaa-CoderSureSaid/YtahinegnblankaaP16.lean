import Derived.Test.YtahinegnblankaaP15
namespace Go.Proofs.Ytahinegnblankaa
open Go Abs
set_option linter.unusedSimpArgs false
set_option linter.unusedVariables false

theorem mv_perm {r : List Nat} {k : Nat} (h : k < r.length) : (mv r k).Perm r := by
  have e : r = r.take k ++ byt r k :: r.drop (k + 1) := by rw [← drop_cons h, List.take_append_drop]
  conv => rhs; rw [e]
  exact List.perm_middle.symm

theorem idx_inj {l : List Nat} {x y : Nat} (hx : x ∈ l) (hy : y ∈ l) (h : idx l x = idx l y) : x = y := by rw [← idx_byt hx, h, idx_byt hy]

theorem idx_cons (a : Nat) (l : List Nat) (x : Nat) : idx (a :: l) x = if a = x then 0 else idx l x + 1 := by rw [idx]

theorem idx_app_left {a b : List Nat} {x : Nat} (h : x ∈ a) : idx (a ++ b) x = idx a x := by
  induction a with
  | nil => simp at h
  | cons y a ih =>
    rw [List.cons_append, idx_cons, idx_cons]
    split
    · rfl
    · rename_i hn
      rw [ih (by
        rcases List.mem_cons.1 h with h | h
        · exact absurd h.symm hn
        · exact h)]

theorem idx_app_right {a b : List Nat} {x : Nat} (h : x ∉ a) : idx (a ++ b) x = a.length + idx b x := by
  induction a with
  | nil => simp
  | cons y a ih =>
    rw [List.cons_append, idx_cons, if_neg (fun e => h (by simp [e])), ih (fun h' => h (by simp [h'])), List.length_cons]
    omega

/-- Where all are, once one went to the front. -/
theorem idx_mv {r : List Nat} (hn : r.Nodup) {x y : Nat} (hx : x ∈ r) (hy : y ∈ r) : idx (mv r (idx r y)) x = if x = y then 0 else idx r x + (if idx r x < idx r y then 1 else 0) := by
  have hk := idx_lt hy
  have hb := idx_byt hy
  rw [mv, hb, idx_cons]
  by_cases e : x = y
  · rw [if_pos e.symm, if_pos e]
  · rw [if_neg (fun h => e h.symm), if_neg e]
    have er : r = r.take (idx r y) ++ y :: r.drop (idx r y + 1) := by
      conv => lhs; rw [← List.take_append_drop (idx r y) r, drop_cons hk, hb]
    generalize hK : idx r y = K at *
    by_cases hm : x ∈ r.take K
    · have h1 : idx r x = idx (r.take K) x := by conv => lhs; rw [er]
                                                 exact idx_app_left hm
      have h2 := idx_lt hm
      have h3 : (r.take K).length = K := by simp; omega
      rw [idx_app_left hm, if_pos (by omega)]
      omega
    · have h1 : idx r x = (r.take K).length + (idx (r.drop (K + 1)) x + 1) := by
        conv => lhs; rw [er]
        rw [idx_app_right hm, idx_cons, if_neg (fun h => e h.symm)]
      have h3 : (r.take K).length = K := by simp; omega
      rw [idx_app_right hm, if_neg (by omega)]
      omega

theorem idx_at {r : List Nat} (hn : r.Nodup) {k : Nat} (hk : k < r.length) : idx r (byt r k) = k := by
  have hm : byt r k ∈ r := by rw [byt_eq hk]; exact List.getElem_mem hk
  have h1 := idx_lt hm
  have h2 : r[idx r (byt r k)] = r[k] := by rw [← byt_eq h1, ← byt_eq hk]; exact idx_byt hm
  have hp := List.pairwise_iff_getElem.1 hn
  rcases Nat.lt_trichotomy (idx r (byt r k)) k with h | h | h
  · exact absurd h2 (hp _ _ h1 hk h)
  · exact h
  · exact absurd h2.symm (hp _ _ hk h1 h)

theorem back_move {b : List Nat} (hb : ∀ x ∈ b, x < 256) : ∀ {r : List Nat}, Full r → back (move b r) r = b := by
  induction b with
  | nil => intro r _; rfl
  | cons c b ih =>
    intro r h
    have hc := hb c (by simp)
    rw [move, back, idx_byt (h.mem c hc), ih (fun y hy => hb y (by simp [hy])) (h.mv (h.idx hc))]

theorem move_back {b : List Nat} (hb : ∀ x ∈ b, x < 256) : ∀ {r : List Nat}, Full r → r.Nodup → move (back b r) r = b := by
  induction b with
  | nil => intro r _ _; rfl
  | cons c b ih =>
    intro r h hn
    have hc := hb c (by simp)
    have hcl : c < r.length := by rw [h.len]; exact hc
    rw [back, move, idx_at hn hcl, ih (fun y hy => hb y (by simp [hy])) (h.mv hc) ((mv_perm hcl).nodup_iff.2 hn)]

theorem row0_nodup : row0.Nodup := List.nodup_range

/-- The row behind bytes. -/
def after : List Nat → List Nat → List Nat
  | [], r => r
  | c :: b, r => after b (mv r (idx r c))

theorem after_snoc (b : List Nat) (c : Nat) : ∀ r, after (b ++ [c]) r = mv (after b r) (idx (after b r) c) := by
  induction b with
  | nil => intro r; rfl
  | cons x b ih => intro r; rw [List.cons_append, after, ih, after]

theorem move_snoc (b : List Nat) (c : Nat) : ∀ r, move (b ++ [c]) r = move b r ++ [idx (after b r) c] := by
  induction b with
  | nil => intro r; rfl
  | cons x b ih => intro r; rw [List.cons_append, move, ih, move, after, List.cons_append]

theorem move_run {b : List Nat} (hb : ∀ x ∈ b, x < 256) : ∀ {r : List Nat}, Full r → ∀ i, i + 1 < b.length → (byt (move b r) (i + 1) = 0 ↔ byt b (i + 1) = byt b i) := by
  induction b with
  | nil => intro r _ i hi; simp at hi
  | cons c b ih =>
    intro r h i hi
    have hc := hb c (by simp)
    rw [move, byt_cons, byt_cons]
    cases i with
    | zero =>
      cases b with
      | nil => simp at hi
      | cons d b =>
        rw [move, byt_zero, byt_zero, byt_zero, mv, idx_byt (h.mem c hc), idx_cons]
        by_cases e : c = d
        · rw [if_pos e]; simp [e]
        · rw [if_neg e]
          constructor
          · intro h; omega
          · intro h; exact absurd h.symm e
    | succ i =>
      rw [byt_cons]
      exact ih (fun y hy => hb y (by simp [hy])) (h.mv (h.idx hc)) i (by simpa using hi)

theorem move_zero {b : List Nat} (hb : ∀ x ∈ b, x < 256) (h : b ≠ []) : byt (move b row0) 0 = byt b 0 := by
  cases b with
  | nil => exact absurd rfl h
  | cons c b =>
    have hc := hb c (by simp)
    rw [move, byt_zero, byt_zero]
    have h1 : byt row0 c = c := by rw [byt_eq (by simpa using hc)]; simp
    have := idx_at row0_nodup (k := c) (by simpa using hc)
    rw [h1] at this
    exact this

section
variable {P : Program} {ops : Array Oper} {bf : Array Nat} {K : (Nat → Value) → Heap → Nat → Prop} {o : Oper} {rest : List Oper} {idx lo hi : Nat} {acc : List FP} {t : Nat → Value} {g : Heap} {n : Nat}

/-- A call that reads below lo and makes blocks. -/
theorem d_newcall {c : Call} {fo : Operand} (k : FuncId) (f : Eff) (ho : o.op = .call c) (hc : c.callee = .value fo) (hf : evl t fo = .func (.func k) #[] #[]) (hw : awant ops o t = some true)
    (hspec : FnSpec P k (c.args.toList.map (evl t)) g f) (hj : f.a ≠ [] → f.j = n) (ha : AccB lo n idx acc) (hr : ∀ x ∈ f.r, x < lo) (h1 : f.w = []) (hlo : lo ≤ n)
    (hk : ∀ acc', AccB lo (n + f.a.length) (idx + 1) acc' → (∀ p ∈ acc', ∀ x ∈ p.2.2, n ≤ x → p.1 = idx) → awpD P ops bf K rest (idx + 1) acc' (put t o.dst f.v) (f.ap g) (n + f.a.length)) : awpD P ops bf K (o :: rest) idx acc t g n := by
  have hwr : ∀ x ∈ f.wr, n ≤ x ∧ x < n + f.a.length := by
    intro x hx
    simp only [Eff.wr, h1, List.map_nil, List.nil_append, List.mem_range'_1] at hx
    by_cases e : f.a = []
    · simp [e] at hx; omega
    · rw [hj e] at hx; omega
  refine d_call k f ho hc hf hw hspec hj (fun p hp => .inr ⟨fun x hx => ⟨fun h2 => ?_, fun h2 => ?_⟩, fun x hx h2 => ?_⟩) (hk _ ((ha.le (Nat.le_refl _) (by omega) (Nat.le_refl _)).cons (fun x hx => by have := hr x hx; omega) (fun x hx => by have := hwr x hx; omega)) ?_)
  · have := (ha p hp).2.1 x hx
    have := hr x h2
    omega
  · have := (ha p hp).2.1 x hx
    have := hwr x h2
    omega
  · have := (ha p hp).2.2 x hx
    have := hwr x h2
    omega
  · intro p hp x hx hn
    rcases List.mem_cons.1 hp with rfl | hp
    · rfl
    · have := (ha p hp).2.1 x hx
      omega

/-- What such a call made is read, behind it. -/
theorem d_rdnew (m i : Nat) (f : Eff) (h : astep P o.op (evl t) g n = some f) (hw : awant ops o t = some true) (ha : AccB lo hi idx acc) (hm : ∀ p ∈ acc, ∀ x ∈ p.2.2, m ≤ x → p.1 = i) (hb : (bf.getD idx 0).testBit i = true) (hr : ∀ x ∈ f.r, m ≤ x ∧ x < hi) (h1 : f.w = []) (h2 : f.a = [])
    (hk : ∀ acc', AccB lo hi (idx + 1) acc' → awpD P ops bf K rest (idx + 1) acc' (put t o.dst f.v) g n) : awpD P ops bf K (o :: rest) idx acc t g n := by
  have hwr : f.wr = [] := by simp [Eff.wr, h1, h2]
  refine d_step f h hw (fun p hp => ?_) ?_
  · by_cases e : p.1 = i
    · left; rw [e]; exact hb
    · right
      refine ⟨fun x hx => ⟨fun hx' => ?_, by rw [hwr]; simp⟩, by rw [hwr]; simp⟩
      exact e (hm p hp x hx (hr x hx').1)
  · have e : f.ap g = g := by simp [Eff.ap, h1, h2, setAll, addAll]
    rw [e, h2, hwr]
    exact hk _ (ha.cons (fun x hx => (hr x hx).2) (by simp))
end

theorem move_known : move [1, 1, 0] row0 = [1, 0, 1] := by decide +kernel
theorem back_known : back [1, 0, 1] row0 = [1, 1, 0] := by decide +kernel

set_option maxRecDepth 10000 in
theorem fknown_spec (g : Heap) : FnSpec Try.prog 30 [] g { v := .bool true } := by
  refine spec_of_body [0] follows Try.func30 rfl (by kernel_rfl) (by simp [Try.f30]) (by kernel_rfl) rfl ?_
  intro g2 s2 n hg hfr hs hn hwf hsv
  refine s_run (by simp only [runL, List.drop_succ_cons, List.drop_zero, awant_some, Option.getD_some, List.getElem?_toArray, List.getElem?_cons_succ, List.getElem?_cons_zero, Option.bind_some, b_tt, b_tf, b_ft, b_ff, Bool.not_true, Bool.not_false, List.take_succ_cons, List.take_zero, awant_none, astep, evl, put, ap_none, ap_new, ap_wr, List.length_nil, List.length_cons, Nat.add_zero, Nat.zero_add, upd_app, stepBin, abin, stepUn, stepPick, stepExtract, stepCall, if_true, if_false, reduceCtorEq, ↓reduceIte, Nat.reduceEqDiff, Nat.reduceAdd, List.map_cons, List.map_nil, Option.map_some, Option.map_none, Bool.false_eq_true, Int.reduceLE, Int.reduceToNat, ne_eq, not_false_eq_true, and_self, and_true, true_and, decide_true, decide_false, Int.reduceEq, Int.reduceLT, Int.reduceBEq, Int.reduceBNe, not_true_eq_false, undef] <;> rfl) ?_
  refine s_take 1 (by simp only [runL, List.drop_succ_cons, List.drop_zero, awant_some, Option.getD_some, List.getElem?_toArray, List.getElem?_cons_succ, List.getElem?_cons_zero, Option.bind_some, b_tt, b_tf, b_ft, b_ff, Bool.not_true, Bool.not_false, List.take_succ_cons, List.take_zero, awant_none, astep, evl, put, ap_none, ap_new, ap_wr, List.length_nil, List.length_cons, Nat.add_zero, Nat.zero_add, upd_app, stepBin, abin, stepUn, stepPick, stepExtract, stepCall, if_true, if_false, reduceCtorEq, ↓reduceIte, Nat.reduceEqDiff, Nat.reduceAdd, List.map_cons, List.map_nil, Option.map_some, Option.map_none, Bool.false_eq_true, Int.reduceLE, Int.reduceToNat, ne_eq, not_false_eq_true, and_self, and_true, true_and, decide_true, decide_false, Int.reduceEq, Int.reduceLT, Int.reduceBEq, Int.reduceBNe, not_true_eq_false, undef, lit24_3] <;> rfl) (ops_heap fun G1 hG1 => ?_)
  have b1 : G1 n = some ⟨false, 5, bs [1, 1, 0]⟩ := by rw [hG1]; simp [upd_app]
  have k1 : Kp n g2 G1 := by rw [hG1]; exact kp_upd (Kp.refl _ _) (Nat.le_refl _)
  have hm := move_spec _ [1, 1, 0] G1 (n + 1) (by decide) (by decide) (src_bs (m := 3) b1 rfl)
  rw [move_known] at hm
  refine ops_call 26 _ rfl hm (by intro _; rfl) (ops_heap fun G2 hG2 => ?_)
  have b2 : G2 (n + 1) = some ⟨false, 5, bs [1, 0, 1]⟩ := by rw [hG2]; simp [ap_new, upd_app]
  have k2 : Kp (n + 1) G1 G2 := by rw [hG2]; exact kp_ap (Kp.refl _ _) rfl (fun _ => Nat.le_refl _)
  obtain ⟨r1, x1, _⟩ := src_str (src_bs (m := 3) b2 rfl)
  have x1 : stepConv Try.prog 24 9 (.slice (some ⟨n + 1, 0, some 3⟩) 3 1) G2 = some { v := .string (nstr [1, 0, 1]), r := r1 } := x1
  have hs1 : ((nstr [1, 0, 1]).toList == (ByteArray.mk #[1, 0, 1]).toList) = true := by decide +kernel
  refine ops_take 4 (by simp only [runL, List.drop_succ_cons, List.drop_zero, awant_some, Option.getD_some, List.getElem?_toArray, List.getElem?_cons_succ, List.getElem?_cons_zero, Option.bind_some, b_tt, b_tf, b_ft, b_ff, Bool.not_true, Bool.not_false, List.take_succ_cons, List.take_zero, awant_none, astep, evl, put, ap_none, ap_new, ap_wr, List.length_nil, List.length_cons, Nat.add_zero, Nat.zero_add, upd_app, stepBin, abin, stepUn, stepPick, stepExtract, stepCall, if_true, if_false, reduceCtorEq, ↓reduceIte, Nat.reduceEqDiff, Nat.reduceAdd, List.map_cons, List.map_nil, Option.map_some, Option.map_none, Bool.false_eq_true, Int.reduceLE, Int.reduceToNat, ne_eq, not_false_eq_true, and_self, and_true, true_and, decide_true, decide_false, Int.reduceEq, Int.reduceLT, Int.reduceBEq, Int.reduceBNe, not_true_eq_false, undef, x1, hs1, lit24_3] <;> rfl) (ops_heap fun G3 hG3 => ?_)
  have b3 : G3 (n + 2) = some ⟨false, 5, bs [1, 0, 1]⟩ := by rw [hG3]; simp [upd_app]
  have k3 : Kp (n + 2) G2 G3 := by rw [hG3]; exact kp_upd (Kp.refl _ _) (Nat.le_refl _)
  have hb := fback_spec _ [1, 0, 1] G3 (n + 3) (by decide) (by decide) (src_bs (m := 3) b3 rfl)
  rw [back_known] at hb
  refine g_call 27 _ (by simp only [runL, List.drop_succ_cons, List.drop_zero, awant_some, Option.getD_some, List.getElem?_toArray, List.getElem?_cons_succ, List.getElem?_cons_zero, Option.bind_some, b_tt, b_tf, b_ft, b_ff, Bool.not_true, Bool.not_false, List.take_succ_cons, List.take_zero, awant_none, astep, evl, put, ap_none, ap_new, ap_wr, List.length_nil, List.length_cons, Nat.add_zero, Nat.zero_add, upd_app, stepBin, abin, stepUn, stepPick, stepExtract, stepCall, if_true, if_false, reduceCtorEq, ↓reduceIte, Nat.reduceEqDiff, Nat.reduceAdd, List.map_cons, List.map_nil, Option.map_some, Option.map_none, Bool.false_eq_true, Int.reduceLE, Int.reduceToNat, ne_eq, not_false_eq_true, and_self, and_true, true_and, decide_true, decide_false, Int.reduceEq, Int.reduceLT, Int.reduceBEq, Int.reduceBNe, not_true_eq_false, undef] <;> rfl) rfl hb (by intro _; rfl) (ops_heap fun G4 hG4 => ?_)
  have b4 : G4 (n + 3) = some ⟨false, 5, bs [1, 1, 0]⟩ := by rw [hG4]; simp [ap_new, upd_app]
  have k4 : Kp (n + 3) G3 G4 := by rw [hG4]; exact kp_ap (Kp.refl _ _) rfl (fun _ => Nat.le_refl _)
  obtain ⟨r2, x2, _⟩ := src_str (src_bs (m := 3) b4 rfl)
  have x2 : stepConv Try.prog 24 9 (.slice (some ⟨n + 3, 0, some 3⟩) 3 1) G4 = some { v := .string (nstr [1, 1, 0]), r := r2 } := x2
  have hs2 : ((nstr [1, 1, 0]).toList == (ByteArray.mk #[1, 1, 0]).toList) = true := by decide +kernel
  refine ops_run (by simp only [runL, List.drop_succ_cons, List.drop_zero, awant_some, Option.getD_some, List.getElem?_toArray, List.getElem?_cons_succ, List.getElem?_cons_zero, Option.bind_some, b_tt, b_tf, b_ft, b_ff, Bool.not_true, Bool.not_false, List.take_succ_cons, List.take_zero, awant_none, astep, evl, put, ap_none, ap_new, ap_wr, List.length_nil, List.length_cons, Nat.add_zero, Nat.zero_add, upd_app, stepBin, abin, stepUn, stepPick, stepExtract, stepCall, if_true, if_false, reduceCtorEq, ↓reduceIte, Nat.reduceEqDiff, Nat.reduceAdd, List.map_cons, List.map_nil, Option.map_some, Option.map_none, Bool.false_eq_true, Int.reduceLE, Int.reduceToNat, ne_eq, not_false_eq_true, and_self, and_true, true_and, decide_true, decide_false, Int.reduceEq, Int.reduceLT, Int.reduceBEq, Int.reduceBNe, not_true_eq_false, undef, x2, hs2] <;> rfl) ?_
  refine w_ret ⟨.inr rfl, by simp, [], fin_plain hs hwf (fun q hq => ?_) ?_ trivial⟩
  · show G4 q = g2 q
    rw [k4 q (by omega), k3 q (by omega), k2 q (by omega), k1 q hq]
  · simp [resVal, upd_app]
end Go.Proofs.Ytahinegnblankaa
