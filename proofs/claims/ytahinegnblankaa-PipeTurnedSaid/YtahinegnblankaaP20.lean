import Derived.Test.YtahinegnblankaaQ0
namespace Go.Proofs.Ytahinegnblankaa
open Go Abs
set_option linter.unusedSimpArgs false
set_option linter.unusedVariables false

section
variable {P : Program} {ops : Array Oper} {bf : Array Nat} {K : (Nat → Value) → Heap → Nat → Prop}

/-- The same as d_reads; and the numbers of what was done are kept. -/
theorem d_readsB (k : Nat) : ∀ {l : List Oper} {idx : Nat} {acc : List FP} {t : Nat → Value} {g : Heap} {n : Nat} {s : St}, (∀ p ∈ acc, p.1 < idx ∧ p.2.2 = []) → runR P ops (l.take k) ⟨t, g, n⟩ = some s →
    (∀ acc' : List FP, (∀ p ∈ acc', p.1 < idx + (l.take k).length ∧ p.2.2 = []) → awpD P ops bf K (l.drop k) (idx + (l.take k).length) acc' s.t s.g s.n) → awpD P ops bf K l idx acc t g n := by
  induction k with
  | zero => intro l idx acc t g n s ha h hk; simp only [List.take_zero, runR, Option.some.injEq] at h; subst h; simpa using hk acc (by simpa using ha)
  | succ k ih =>
    intro l idx acc t g n s ha h hk
    cases l with
    | nil => simp only [List.take_nil, runR, Option.some.injEq] at h; subst h; simpa using hk acc (by simpa using ha)
    | cons o rest =>
      simp only [List.take_succ_cons, runR] at h
      have hk' : ∀ acc' : List FP, (∀ p ∈ acc', p.1 < idx + 1 + (rest.take k).length ∧ p.2.2 = []) → awpD P ops bf K (rest.drop k) (idx + 1 + (rest.take k).length) acc' s.t s.g s.n := fun acc' h' => by
        have := hk acc' (fun p hp => by
          have := h' p hp
          simp only [List.take_succ_cons, List.length_cons]
          exact ⟨by omega, this.2⟩)
        simp only [List.drop_succ_cons, List.take_succ_cons, List.length_cons] at this
        rwa [show idx + ((rest.take k).length + 1) = idx + 1 + (rest.take k).length by omega] at this
      have ha' : ∀ p ∈ acc, p.1 < idx + 1 ∧ p.2.2 = [] := fun p hp => ⟨by have := (ha p hp).1; omega, (ha p hp).2⟩
      split at h
      · rename_i hw
        split at h
        · rename_i f hf
          split at h
          · rename_i he
            simp only [Bool.and_eq_true] at he
            obtain ⟨h3, h4⟩ := wr_nil he.1 he.2
            have h5 : f.a.length = 0 := by have := he.2; simp only [List.isEmpty_iff] at this; simp [this]
            refine ⟨true, hw, f, .inl hf, fun p hp => .inr ⟨by rw [(ha p hp).2]; simp, by rw [h3]; simp⟩, ?_⟩
            rw [h4, h5]
            refine ih ?_ h hk'
            intro p hp
            split at hp
            · exact ha' p hp
            · rcases List.mem_cons.1 hp with rfl | hp
              · exact ⟨by simp, h3⟩
              · exact ha' p hp
          · cases h
        · cases h
      · rename_i hw
        exact ⟨false, hw, ih ha' h hk'⟩
      · cases h

theorem region_drawn {id : Nat} {ops : Array Oper} {Q : AQ} {t : Nat → Value} {g : Heap} {n : Nat} (bf : Array Nat) (hd : drawOK ops bf = true) (h : awpD P ops bf (Q .normal) ops.toList 0 [] t g n) : awp P (.region id ops true) Q t g n := ⟨bf, hd, h⟩

/-- The last operation, behind all others. -/
theorem d_last {o : Oper} {idx : Nat} {acc : List FP} {t : Nat → Value} {g : Heap} {n : Nat} (f : Eff) (h : astep P o.op (evl t) g n = some f) (hw : awant ops o t = some true) (ha : ∀ p ∈ acc, p.1 < idx ∧ p.2.2 = []) (hb : bf.getD idx 0 = 2 ^ idx - 1)
    (hk : K (put t o.dst f.v) (f.ap g) (n + f.a.length)) : awpD P ops bf K [o] idx acc t g n :=
  d_step f h hw (fun p hp => .inl (by rw [hb]; exact full_bit (ha p hp).1)) hk
end

section
variable {s2 : Nat → Prop} {g2 g' : Heap} {n : Nat} {v' : Value}

/-- Two new blocks that may hold one another's places. -/
theorem fin_new2 {v : Value} {r : List Nat} {j k0 k1 : Nat} {b0 b1 : Blk} (hv : v' = renT (fun i => if i = j then k0 else if i = j + 1 then k1 else i) v) (hsv : SVT (fun i => s2 i ∨ (j ≤ i ∧ i < j + 2)) v) (hk0 : n ≤ k0) (hk1 : n ≤ k1) (hne : k0 ≠ k1)
    (h0 : g' k0 = some (renB (fun i => if i = j then k0 else if i = j + 1 then k1 else i) b0)) (h1 : g' k1 = some (renB (fun i => if i = j then k0 else if i = j + 1 then k1 else i) b1)) (hs0 : ∀ c ∈ b0.cells, SV1 (fun i => s2 i ∨ (j ≤ i ∧ i < j + 2)) c) (hs1 : ∀ c ∈ b1.cells, SV1 (fun i => s2 i ∨ (j ≤ i ∧ i < j + 2)) c)
    (hold : ∀ i b, g2 i = some b → g' i = some b) : Abs.Fin { v := v, r := r, j := j, a := [b0, b1] } [k0, k1] s2 g2 n g' v' := by
  have hsig : (sig ({ v := v, r := r, j := j, a := [b0, b1] } : Eff) [k0, k1]) = fun i => if i = j then k0 else if i = j + 1 then k1 else i := by
    funext i
    unfold sig
    by_cases e0 : i = j
    · subst e0; simp
    · by_cases e1 : i = j + 1
      · subst e1; simp
      · rw [if_neg e0, if_neg e1]
        show (if j ≤ i then _ else i) = i
        split
        · rw [List.getElem?_eq_none (by simp; omega)]; rfl
        · rfl
  refine ⟨rfl, by simp [hk0, hk1], by simpa using hne, by rw [hsig]; exact hv, fun m b hm => ?_, by simp, by simp, fun i b _ h => hold i b h, hsv, fun b hb c hc => ?_, by simp⟩
  · rw [hsig]
    rcases m with _ | _ | m
    · simp at hm; subst hm; exact ⟨k0, rfl, h0⟩
    · simp at hm; subst hm; exact ⟨k1, rfl, h1⟩
    · simp at hm
  · simp at hb
    rcases hb with rfl | rfl
    · exact hs0 c hc
    · exact hs1 c hc
end

theorem aggT22 : aggT Try.prog 22 = some false := by kernel_rfl
theorem tsize22 : tsize Try.prog 22 = some 1 := by kernel_rfl
theorem foff87_0 : foff Try.prog 87 0 = some 0 := by kernel_rfl
theorem foff87_1 : foff Try.prog 87 1 = some 1 := by kernel_rfl
theorem foff89_0 : foff Try.prog 89 0 = some 0 := by kernel_rfl
theorem nchk (a : Addr) : stepNilCheck (.pointer (some a)) = some { v := .pointer (some a) } := rfl
theorem fld87_0 (p : Nat) (s : Option Nat) : stepField Try.prog 87 (.pointer (some ⟨p, 0, s⟩)) 0 = some { v := .pointer (some ⟨p, 0, s⟩) } := by simp [stepField, foff87_0]
theorem fld87_1 (p : Nat) (s : Option Nat) : stepField Try.prog 87 (.pointer (some ⟨p, 0, s⟩)) 1 = some { v := .pointer (some ⟨p, 1, s⟩) } := by simp [stepField, foff87_1]
theorem fld89_0 (p : Nat) (s : Option Nat) : stepField Try.prog 89 (.pointer (some ⟨p, 0, s⟩)) 0 = some { v := .pointer (some ⟨p, 0, s⟩) } := by simp [stepField, foff89_0]

/-- A cell that does not lie in an aggregate is read. -/
theorem ld_at {P : Program} {T k e : Nat} {g : Heap} {ro : Bool} {cs : List Value} {i : Nat} {c : Value} {s : Option Nat} (h : g k = some ⟨ro, e, cs⟩) (hs : s = some cs.length) (hc : cs[i]? = some c) (ha : aggT P T = some false) : stepLoad P T (.pointer (some ⟨k, i, s⟩)) g = some { v := c, r := [k] } := by
  subst hs
  simp [stepLoad, rd, h, ha, hc]
/-- A cell is written. -/
theorem st_at {P : Program} {T k e : Nat} {g : Heap} {cs : List Value} {i : Nat} {c d : Value} {s : Option Nat} (h : g k = some ⟨false, e, cs⟩) (hs : s = some cs.length) (hi : i < cs.length) (ht : tsize P T = some 1) (hc : c.cells = #[c]) (hc2 : isTup c = false) : stepStore P T (.pointer (some ⟨k, i, s⟩)) c g = some { v := undef, r := [k], w := [(k, ⟨false, e, cs.set i c⟩)] } := by
  subst hs
  simp [stepStore, rd, h, hc2, ht, hc, putAll]
  omega

/-- A model of the program: the block of its two cells and the block of its counts. -/
structure Mo (p q : Nat) (c : List Nat) (g : Heap) : Prop where
  hp : g p = some ⟨false, 87, [.slice (some ⟨q, 0, some c.length⟩) c.length 1, .int .i64 (c.sum : Nat)]⟩
  hq : g q = some ⟨false, 3, ints c⟩

/-- A model of the document. -/
structure Ro (p q : Nat) (c : List Nat) (g : Heap) : Prop where
  hp : g p = some ⟨false, 89, [.slice (some ⟨q, 0, some c.length⟩) c.length 1]⟩
  hq : g q = some ⟨false, 3, ints c⟩

abbrev ptr2 (p : Nat) : Value := .pointer (some ⟨p, 0, some 2⟩)
abbrev ptr1 (p : Nat) : Value := .pointer (some ⟨p, 0, some 1⟩)

section
variable {p q : Nat} {c : List Nat} {g g' : Heap}
theorem Mo.ne (h : Mo p q c g) : p ≠ q := by
  intro e
  have := h.hp
  rw [e, h.hq] at this
  simp at this
theorem Ro.ne (h : Ro p q c g) : p ≠ q := by
  intro e
  have := h.hp
  rw [e, h.hq] at this
  simp at this
theorem Mo.congr (h : Mo p q c g) (hp : g' p = g p) (hq : g' q = g q) : Mo p q c g' := ⟨by rw [hp]; exact h.hp, by rw [hq]; exact h.hq⟩
theorem Ro.congr (h : Ro p q c g) (hp : g' p = g p) (hq : g' q = g q) : Ro p q c g' := ⟨by rw [hp]; exact h.hp, by rw [hq]; exact h.hq⟩
theorem Mo.ld0 (h : Mo p q c g) : stepLoad Try.prog 22 (.pointer (some ⟨p, 0, some 2⟩)) g = some { v := .slice (some ⟨q, 0, some c.length⟩) c.length 1, r := [p] } := ld_at h.hp rfl rfl aggT22
theorem Mo.ld1 (h : Mo p q c g) : stepLoad Try.prog 3 (.pointer (some ⟨p, 1, some 2⟩)) g = some { v := .int .i64 (c.sum : Nat), r := [p] } := ld_at h.hp rfl rfl aggT3
theorem Ro.ld0 (h : Ro p q c g) : stepLoad Try.prog 22 (.pointer (some ⟨p, 0, some 1⟩)) g = some { v := .slice (some ⟨q, 0, some c.length⟩) c.length 1, r := [p] } := ld_at h.hp rfl rfl aggT22
end

theorem len22 (q m : Nat) (s : Option Nat) : stepLen Try.prog 22 (.slice (some ⟨q, 0, s⟩) m 1) = some { v := .int .i64 m } := by simp [stepLen, Try.underlying22]
theorem len22' (a : Option Addr) (m k : Nat) : stepLen Try.prog 22 (.slice a m k) = some { v := .int .i64 m } := by simp [stepLen, Try.underlying22]
theorem idx22 (q m i s : Nat) (h : i < m) : stepIndex Try.prog 22 (.slice (some ⟨q, 0, some s⟩) m 1) (.int .i64 (i : Int)) = some { v := .pointer (some ⟨q, i, some s⟩) } := by simp [stepIndex, Try.underlying22, tsize3, h]
theorem ldq {q i : Nat} {c : List Nat} {g : Heap} (h : g q = some ⟨false, 3, ints c⟩) (hi : i < c.length) : stepLoad Try.prog 3 (.pointer (some ⟨q, i, some c.length⟩)) g = some { v := .int .i64 (byt c i), r := [q] } := ld_at h (by simp) (ints_at hi) aggT3
theorem stq {q i x : Nat} {c : List Nat} {g : Heap} (h : g q = some ⟨false, 3, ints c⟩) (hi : i < c.length) : stepStore Try.prog 3 (.pointer (some ⟨q, i, some c.length⟩)) (.int .i64 (x : Int)) g = some { v := undef, r := [q], w := [(q, ⟨false, 3, ints (c.set i x)⟩)] } := by
  rw [st_at (d := undef) h (by simp) (by simpa using hi) tsize3 rfl rfl, ints_set]

theorem nptr51 (a : Option Addr) : stepBin Try.prog .neq 51 (.pointer a) (.pointer none) = some { v := .bool (!a.isNone) } := by simp [stepBin, abin, Try.underlying51]
theorem eptr51 (a : Option Addr) : stepBin Try.prog .eql 51 (.pointer a) (.pointer none) = some { v := .bool a.isNone } := by simp [stepBin, abin, Try.underlying51]
theorem nptr53 (a : Option Addr) : stepBin Try.prog .neq 53 (.pointer a) (.pointer none) = some { v := .bool (!a.isNone) } := by simp [stepBin, abin, Try.underlying53]
theorem eptr53 (a : Option Addr) : stepBin Try.prog .eql 53 (.pointer a) (.pointer none) = some { v := .bool a.isNone } := by simp [stepBin, abin, Try.underlying53]

/-- A symbol that the model has. -/
def inR (x : Int) (m : Nat) : Bool := decide (0 ≤ x ∧ x < (m : Int))
theorem inR_t {x : Int} {m : Nat} (h : inR x m = true) : ∃ s : Nat, x = s ∧ s < m := by
  have := of_decide_eq_true h
  exact ⟨x.toNat, by omega, by omega⟩
theorem inR_nat {s m : Nat} (h : s < m) : inR (s : Int) m = true := decide_eq_true ⟨by omega, by omega⟩

set_option maxRecDepth 10000 in
theorem is_spec (p q : Nat) (c : List Nat) (x : Int) (g : Heap) (h : Mo p q c g) : FnSpec Try.prog 78 [ptr2 p, .int .i64 x] g { v := .bool (inR x c.length), r := [p, q] } := by
  refine spec_of_body [4] follows Try.func78 rfl (by kernel_rfl) (by simp [Try.f78]) (by kernel_rfl) rfl ?_
  intro g2 s2 n hg hfr hs hn hwf hsv
  have h2 : Mo p q c g2 := h.congr (hg p (by simp [Eff.fp])) (hg q (by simp [Eff.fp]))
  refine s_run (by simp only [runL, awant_none, astep, evl, put, ap_none, List.length_nil, Nat.add_zero, undef] <;> rfl) ?_
  by_cases h0 : 0 ≤ x
  · have d0 : decide (x ≥ 0) = true := decide_eq_true h0
    by_cases h1 : x < (c.length : Int)
    · have d1 : decide (x < (c.length : Int)) = true := decide_eq_true h1
      refine s_run (by simp only [runL, awant_some, Option.getD_some, List.getElem?_toArray, List.getElem?_cons_succ, List.getElem?_cons_zero, Option.bind_some, b_tt, Bool.not_false, awant_none, astep, evl, put, ap_none, List.length_nil, Nat.add_zero, upd_app, stepBin, abin, stepPick, stepCall, reduceCtorEq, ↓reduceIte, Nat.reduceEqDiff, Try.underlying51, Option.isNone_some, d0, d1, nchk, fld87_0, h2.ld0, len22] <;> rfl) ?_
      exact w_ret ⟨.inr rfl, by simp, [], fin_none (by simp [resVal, inR, h0, h1]) trivial (fun _ _ h => h)⟩
    · have d1 : decide (x < (c.length : Int)) = false := decide_eq_false h1
      refine s_run (by simp only [runL, awant_some, Option.getD_some, List.getElem?_toArray, List.getElem?_cons_succ, List.getElem?_cons_zero, Option.bind_some, b_tt, Bool.not_false, awant_none, astep, evl, put, ap_none, List.length_nil, Nat.add_zero, upd_app, stepBin, abin, stepPick, stepCall, reduceCtorEq, ↓reduceIte, Nat.reduceEqDiff, Try.underlying51, Option.isNone_some, d0, d1, nchk, fld87_0, h2.ld0, len22] <;> rfl) ?_
      exact w_ret ⟨.inr rfl, by simp, [], fin_none (by simp [resVal, inR, h0, h1]) trivial (fun _ _ h => h)⟩
  · have d0 : decide (x ≥ 0) = false := decide_eq_false h0
    refine s_run (by simp only [runL, awant_some, Option.getD_some, List.getElem?_toArray, List.getElem?_cons_succ, List.getElem?_cons_zero, Option.bind_some, b_tt, b_ft, Bool.not_false, awant_none, astep, evl, put, ap_none, List.length_nil, Nat.add_zero, upd_app, stepBin, abin, stepPick, reduceCtorEq, ↓reduceIte, Nat.reduceEqDiff, Bool.false_eq_true, undef, Try.underlying51, Option.isNone_some, d0] <;> rfl) ?_
    exact w_ret ⟨.inr rfl, by simp, [], fin_none (by simp [resVal, inR, h0]) trivial (fun _ _ h => h)⟩

set_option maxRecDepth 10000 in
theorem is_nil (x : Int) (g : Heap) : FnSpec Try.prog 78 [.pointer none, .int .i64 x] g { v := .bool false } := by
  refine spec_of_body [4] follows Try.func78 rfl (by kernel_rfl) (by simp [Try.f78]) (by kernel_rfl) rfl ?_
  intro g2 s2 n hg hfr hs hn hwf hsv
  refine s_run (by simp only [runL, awant_none, astep, evl, put, ap_none, List.length_nil, Nat.add_zero, undef] <;> rfl) ?_
  refine s_run (by simp only [runL, awant_some, Option.getD_some, List.getElem?_toArray, List.getElem?_cons_succ, List.getElem?_cons_zero, Option.bind_some, b_ft, Bool.not_true, awant_none, astep, evl, put, ap_none, List.length_nil, Nat.add_zero, upd_app, stepBin, abin, stepPick, reduceCtorEq, ↓reduceIte, Nat.reduceEqDiff, Bool.false_eq_true, undef, Try.underlying51, Option.isNone_none] <;> rfl) ?_
  exact w_ret ⟨.inr rfl, by simp, [], fin_none (by simp [resVal]) trivial (fun _ _ h => h)⟩

set_option maxRecDepth 10000 in
theorem total_spec (p q : Nat) (c : List Nat) (g : Heap) (h : Mo p q c g) : FnSpec Try.prog 45 [ptr2 p] g { v := .int .i64 (c.sum : Nat), r := [p, q] } := by
  refine spec_of_body [2] follows Try.func45 rfl (by kernel_rfl) (by simp [Try.f45]) (by kernel_rfl) rfl ?_
  intro g2 s2 n hg hfr hs hn hwf hsv
  have h2 : Mo p q c g2 := h.congr (hg p (by simp [Eff.fp])) (hg q (by simp [Eff.fp]))
  refine s_run (by simp only [runL, awant_none, astep, evl, put, ap_none, List.length_nil, Nat.add_zero, undef] <;> rfl) ?_
  refine w_assoc (s_run (by simp only [runL, Option.getD_some, List.getElem?_cons_zero, awant_none, astep, evl, put, ap_none, List.length_nil, Nat.add_zero, upd_app, stepBin, abin, reduceCtorEq, ↓reduceIte, Try.underlying51, Option.isNone_some] <;> rfl) ?_)
  refine s_false (by simp [evl]) (s_skip ?_)
  refine s_run (by simp only [runL, Option.getD_some, List.getElem?_cons_zero, awant_none, astep, evl, put, ap_none, List.length_nil, Nat.add_zero, upd_app, reduceCtorEq, ↓reduceIte, nchk, fld87_1, h2.ld1] <;> rfl) ?_
  exact w_ret ⟨.inr rfl, by simp, [], fin_none (by simp [resVal]) trivial (fun _ _ h => h)⟩

set_option maxRecDepth 10000 in
theorem total_nil (g : Heap) : FnSpec Try.prog 45 [.pointer none] g { v := .int .i64 0 } := by
  refine spec_of_body [2] follows Try.func45 rfl (by kernel_rfl) (by simp [Try.f45]) (by kernel_rfl) rfl ?_
  intro g2 s2 n hg hfr hs hn hwf hsv
  refine s_run (by simp only [runL, awant_none, astep, evl, put, ap_none, List.length_nil, Nat.add_zero, undef] <;> rfl) ?_
  refine w_assoc (s_run (by simp only [runL, Option.getD_some, List.getElem?_cons_zero, awant_none, astep, evl, put, ap_none, List.length_nil, Nat.add_zero, upd_app, stepBin, abin, reduceCtorEq, ↓reduceIte, Try.underlying51, Option.isNone_none] <;> rfl) ?_)
  refine s_true (by simp [evl]) (w_assoc (s_run (by simp only [runL, awant_none, astep, evl, put, ap_none, List.length_nil, Nat.add_zero] <;> rfl) ?_))
  exact s_ret ⟨.inr rfl, by simp, [], fin_none (by simp [resVal]) trivial (fun _ _ h => h)⟩

/-- What a model answers of a symbol. -/
abbrev spanV (c : List Nat) (s : Nat) : Value := .tuple #[.int .i64 ((c.take s).sum : Nat), .int .i64 (byt c s), .bool true]
abbrev spanN : Value := .tuple #[.int .i64 0, .int .i64 0, .bool false]

theorem sum_take_succ {c : List Nat} {k : Nat} (h : k < c.length) : (c.take (k + 1)).sum = (c.take k).sum + byt c k := by
  rw [List.take_succ_eq_append_getElem h, List.sum_append, byt_eq h]; simp
theorem sum_take_le (c : List Nat) (k : Nat) : (c.take k).sum ≤ c.sum := by
  have := congrArg List.sum (List.take_append_drop k c)
  rw [List.sum_append] at this
  omega

set_option maxRecDepth 10000 in
theorem span_no (p q : Nat) (c : List Nat) (x : Int) (g : Heap) (h : Mo p q c g) (hx : inR x c.length = false) : FnSpec Try.prog 47 [ptr2 p, .int .i64 x] g { v := spanN, r := [p, q] } := by
  refine spec_of_body [4, 5, 6] follows Try.func47 rfl (by kernel_rfl) (by simp [Try.f47]) (by kernel_rfl) rfl ?_
  intro g2 s2 n hg hfr hs hn hwf hsv
  have h2 : Mo p q c g2 := h.congr (hg p (by simp [Eff.fp])) (hg q (by simp [Eff.fp]))
  refine s_run (by simp only [runL, awant_none, astep, evl, put, ap_none, List.length_nil, Nat.add_zero, undef] <;> rfl) ?_
  refine w_assoc (s_take 2 (by simp only [runL, Option.getD_some, List.getElem?_cons_succ, List.getElem?_cons_zero, List.take_succ_cons, List.take_zero, awant_none, astep, evl, put, ap_none, List.length_nil, Nat.add_zero, upd_app, reduceCtorEq, ↓reduceIte, Nat.reduceEqDiff] <;> rfl) ?_)
  refine ops_call 78 _ rfl (is_spec p q c x g2 h2) (by simp) ?_
  refine ops_run (by simp only [runL, Bool.not_false, awant_none, astep, evl, put, ap_none, List.length_nil, Nat.add_zero, upd_app, stepUn, ↓reduceIte, hx] <;> rfl) ?_
  refine s_true (by simp [evl]) (w_assoc (s_run (by simp only [runL, awant_none, astep, evl, put, ap_none, List.length_nil, Nat.add_zero] <;> rfl) ?_))
  refine s_ret ⟨.inr rfl, by simp [upd_app, isTup], [], fin_none ?_ (by simp [SVT, SVA, SV1]) (fun _ _ h => h)⟩
  simp [resVal, upd_app]

set_option maxRecDepth 10000 in
theorem span_nil (x : Int) (g : Heap) : FnSpec Try.prog 47 [.pointer none, .int .i64 x] g { v := spanN } := by
  refine spec_of_body [4, 5, 6] follows Try.func47 rfl (by kernel_rfl) (by simp [Try.f47]) (by kernel_rfl) rfl ?_
  intro g2 s2 n hg hfr hs hn hwf hsv
  refine s_run (by simp only [runL, awant_none, astep, evl, put, ap_none, List.length_nil, Nat.add_zero, undef] <;> rfl) ?_
  refine w_assoc (s_take 2 (by simp only [runL, Option.getD_some, List.getElem?_cons_succ, List.getElem?_cons_zero, List.take_succ_cons, List.take_zero, awant_none, astep, evl, put, ap_none, List.length_nil, Nat.add_zero, upd_app, reduceCtorEq, ↓reduceIte, Nat.reduceEqDiff] <;> rfl) ?_)
  refine ops_call 78 _ rfl (is_nil x g2) (by simp) ?_
  refine ops_run (by simp only [runL, Bool.not_false, awant_none, astep, evl, put, ap_none, List.length_nil, Nat.add_zero, upd_app, stepUn, ↓reduceIte] <;> rfl) ?_
  refine s_true (by simp [evl]) (w_assoc (s_run (by simp only [runL, awant_none, astep, evl, put, ap_none, List.length_nil, Nat.add_zero] <;> rfl) ?_))
  refine s_ret ⟨.inr rfl, by simp [upd_app, isTup], [], fin_none ?_ (by simp [SVT, SVA, SV1]) (fun _ _ h => h)⟩
  simp [resVal, upd_app]

set_option maxRecDepth 10000 in
theorem span_yes (p q : Nat) (c : List Nat) (s : Nat) (g : Heap) (h : Mo p q c g) (hc : c.sum ≤ 2 ^ 40) (hl : c.length ≤ 2 ^ 40) (hs : s < c.length) : FnSpec Try.prog 47 [ptr2 p, .int .i64 s] g { v := spanV c s, r := [p, q] } := by
  refine spec_of_body [4, 5, 6] follows Try.func47 rfl (by kernel_rfl) (by simp [Try.f47]) (by kernel_rfl) rfl ?_
  intro g2 s2 n hg hfr hs' hn hwf hsv
  have h2 : Mo p q c g2 := h.congr (hg p (by simp [Eff.fp])) (hg q (by simp [Eff.fp]))
  refine s_run (by simp only [runL, awant_none, astep, evl, put, ap_none, List.length_nil, Nat.add_zero, undef] <;> rfl) ?_
  refine w_assoc (s_take 2 (by simp only [runL, Option.getD_some, List.getElem?_cons_succ, List.getElem?_cons_zero, List.take_succ_cons, List.take_zero, awant_none, astep, evl, put, ap_none, List.length_nil, Nat.add_zero, upd_app, reduceCtorEq, ↓reduceIte, Nat.reduceEqDiff] <;> rfl) ?_)
  refine ops_call 78 _ rfl (is_spec p q c s g2 h2) (by simp) ?_
  refine ops_run (by simp only [runL, Bool.not_true, awant_none, astep, evl, put, ap_none, List.length_nil, Nat.add_zero, upd_app, stepUn, ↓reduceIte, inR_nat hs] <;> rfl) ?_
  refine s_false (by simp [evl]) (s_skip ?_)
  have hsrc : Src g2 (.slice (some ⟨q, 0, some c.length⟩) c.length 1) 1 c.length (ints c) := src_ints h2.hq rfl
  obtain ⟨a1, a2, a3, _⟩ := src_slV (P := Try.prog) hsrc Try.underlying22 tsize3 none (some (.int .i64 (s : Int))) 0 s rfl rfl (by omega) (by omega)
  rw [Nat.sub_zero, List.drop_zero] at a2
  have a2' : Src g2 (slV (.slice (some ⟨q, 0, some c.length⟩) c.length 1) 0 s) 1 s (ints (c.take s)) := by rw [show ints (c.take s) = (ints c).take s from List.map_take]; exact a2
  have hlen := a2'.len Try.underlying22
  refine w_assoc (s_run (by simp only [runL, Option.getD_some, List.getElem?_cons_succ, List.getElem?_cons_zero, awant_none, astep, evl, put, ap_none, List.length_nil, Nat.add_zero, upd_app, stepCall, reduceCtorEq, ↓reduceIte, Nat.reduceEqDiff, Option.map_some, Option.map_none, nchk, fld87_0, h2.ld0, a1, hlen] <;> rfl) ?_)
  generalize slV (.slice (some ⟨q, 0, some c.length⟩) c.length 1) 0 s = v1 at a2' hlen
  refine s_rng s (fun k t g n' => g = g2 ∧ t 0 = ptr2 p ∧ t 1 = .int .i64 s ∧ t 18 = v1 ∧ t 4 = .int .i64 ((c.take k).sum : Nat)) (by omega) (by simp []) (by simp [upd_app]) (fun v => ⟨rfl, by simp [upd_app], by simp [upd_app], by simp [upd_app], by simp [upd_app]⟩) (by decide) ?_ ?_
  · rintro k t g n' hk t20 t19 ⟨rfl, t0, t1, t18, t4⟩
    obtain ⟨pa, i1, i2, _⟩ := a2'.at1 (P := Try.prog) (i := k) (c := .int .i64 (byt c k)) (by rw [List.getElem?_map, List.getElem?_take_of_lt hk]; simpa using ints_at (l := c) (i := k) (by omega)) Try.underlying22 tsize3 aggT3
    have hst := sum_take_succ (c := c) (k := k) (by omega)
    have hle := sum_take_le c (k + 1)
    have w1 : IntKind.i64.wrap (((c.take k).sum : Nat) + (byt c k : Nat)) = ((c.take (k + 1)).sum : Nat) := by rw [wrap_add (by omega), hst]
    refine s_run (by simp only [runL, awant_none, astep, evl, put, ap_none, List.length_nil, Nat.add_zero, upd_app, ↓reduceIte, t18, t20, i1, i2] <;> rfl) ?_
    refine region_run (id := 6) (by simp only [runL, awant_none, astep, evl, put, ap_none, List.length_nil, Nat.add_zero, upd_app, stepBin, abin, ↓reduceIte, Nat.reduceEqDiff, t4, w1] <;> rfl) ?_
    simp only [rangePost]
    exact ⟨by simp [upd_app, t20], by simp [upd_app, t19], fun _ _ _ => ⟨by trivial, by simp [upd_app, t0], by simp [upd_app, t1], by simp [upd_app, t18], by simp [upd_app]⟩⟩
  · rintro t g n' ⟨rfl, t0, t1, t18, t4⟩
    refine s_draw #[0, 0, 2, 6, 14, 0, 62, 126, 1, 511, 1023] (by decide +kernel) (by simp only [runR, awant_none, astep, evl, put, upd_app, reduceCtorEq, ↓reduceIte, Nat.reduceEqDiff, List.isEmpty_nil, Bool.and_self, t0, t1, t4, nchk, fld87_0, h2.ld0, idx22 _ _ _ _ hs, ldq h2.hq hs] <;> rfl) ?_
    refine w_ret ⟨.inr rfl, by simp [upd_app, isTup], [], fin_none ?_ (by simp [SVT, SVA, SV1]) (fun _ _ h => h)⟩
    simp [resVal, upd_app]

/-- The symbol to which a place belongs. -/
def find : List Nat → Nat → Nat
  | [], _ => 0
  | x :: c, v => if v < x then 0 else find c (v - x) + 1

theorem find_lt {c : List Nat} : ∀ {v : Nat}, v < c.sum → find c v < c.length := by
  induction c with
  | nil => intro v h; simp at h
  | cons x c ih =>
    intro v h
    rw [find]
    split
    · simp
    · have := ih (v := v - x) (by simp at h; omega)
      simp; omega

abbrev findV (c : List Nat) (v : Nat) : Value := .tuple #[.int .i64 (find c v), .bool true]
abbrev findN : Value := .tuple #[.int .i64 0, .bool false]
end Go.Proofs.Ytahinegnblankaa
