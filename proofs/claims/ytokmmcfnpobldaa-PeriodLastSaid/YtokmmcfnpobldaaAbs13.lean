/-
  The abstract machine, part 13: how a body ends.
-/
import Derived.Test.YtokmmcfnpobldaaAbs12
import Derived.Laws.BitsLemmas
namespace Go.Proofs.Ytokmmcfnpobldaa.Abs
open Go Go.RowKit

theorem ren1_plain {σ : Nat → Nat} {c : Value} (h : plain c = true) : ren1 σ c = c := by
  cases c with
  | pointer a => cases a with
    | none => rfl
    | some a => simp [plain] at h
  | slice a l e => cases a with
    | none => rfl
    | some a => simp [plain] at h
  | _ => rfl

theorem map_ren_plain {σ : Nat → Nat} {l : List Value} (h : ∀ c ∈ l, plain c = true) : l.map (ren1 σ) = l := by
  exact (List.map_congr_left (f := ren1 σ) (g := id) (fun c hc => ren1_plain (h c hc))).trans (by simp)

theorem renB_plain {σ : Nat → Nat} {b : Blk} (h : ∀ c ∈ b.cells, plain c = true) : renB σ b = b := by
  unfold renB
  rw [map_ren_plain h]

theorem renA_old {σ : Nat → Nat} {s : Nat → Prop} (hσ : ∀ i, s i → σ i = i) {c : Value} (hc : SVA s c) : renA σ c = c := by
  cases c with
  | agg cs =>
    simp only [renA]
    have : cs.map (ren1 σ) = cs := by
      apply Array.toList_inj.1
      simp only [Array.toList_map]
      exact (List.map_congr_left (f := ren1 σ) (g := id) (fun c h => ren1_old hσ (hc c h))).trans (by simp)
    rw [this]
  | pointer a => exact ren1_old (c := .pointer a) hσ hc
  | slice a l e => exact ren1_old (c := .slice a l e) hσ hc
  | _ => rfl

theorem renT_old {σ : Nat → Nat} {s : Nat → Prop} (hσ : ∀ i, s i → σ i = i) {c : Value} (hc : SVT s c) : renT σ c = c := by
  cases c with
  | tuple cs =>
    simp only [renT]
    have : cs.map (renA σ) = cs := by
      apply Array.toList_inj.1
      simp only [Array.toList_map]
      exact (List.map_congr_left (f := renA σ) (g := id) (fun c h => renA_old hσ (hc c h))).trans (by simp)
    rw [this]
  | agg cs => exact renA_old (c := .agg cs) hσ hc
  | pointer a => exact ren1_old (c := .pointer a) hσ hc
  | slice a l e => exact ren1_old (c := .slice a l e) hσ hc
  | _ => rfl

section
variable {s2 : Nat → Prop} {g2 g' : Heap} {n : Nat} {v' : Value}

/-- Nothing made, nothing written. -/
theorem fin_none {v : Value} {r : List Nat} {j : Nat} (hv : v' = v) (hsv : SVT s2 v) (hold : ∀ i b, g2 i = some b → g' i = some b) :
    Abs.Fin { v := v, r := r, j := j } [] s2 g2 n g' v' := by
  have hσ : ∀ i, sig ({ v := v, r := r, j := j } : Eff) [] i = i := fun i => by unfold sig; split <;> simp
  refine ⟨rfl, by simp, by simp, ?_, by simp, by simp, by simp, fun i b _ h => hold i b h, SVT.imp (fun _ => .inl) hsv, by simp, by simp⟩
  rw [hv, renT_old (fun i _ => hσ i) hsv]

/-- One new slice of plain cells. -/
theorem fin_slice {e : TypeId} {cs : List Value} {m esz j k : Nat} {r : List Nat} (hv : v' = .slice (some ⟨k, 0, some cs.length⟩) m esz) (hk : n ≤ k) (hg : g' k = some ⟨false, e, cs⟩) (hp : ∀ c ∈ cs, plain c = true)
    (hold : ∀ i b, g2 i = some b → g' i = some b) :
    Abs.Fin { v := .slice (some ⟨j, 0, some cs.length⟩) m esz, r := r, j := j, a := [⟨false, e, cs⟩] } [k] s2 g2 n g' v' := by
  refine ⟨rfl, by simpa using hk, by simp, ?_, fun i b hi => ?_, by simp, by simp, fun i b _ h => hold i b h, ?_, ?_, by simp⟩
  · rw [hv]
    simp [renT, renA, ren1, sig]
  · cases i with
    | zero => simp at hi; subst hi; exact ⟨k, rfl, by rw [hg, renB_plain hp]⟩
    | succ i => simp at hi
  · exact .inr (.inr ⟨Nat.le_refl _, by simp⟩)
  · intro b hb c hc
    simp at hb
    subst hb
    exact SV1_plain (hp c hc)
end

theorem plain_ints {α : Type} {k : IntKind} {f : α → Int} {l : List α} : ∀ c ∈ l.map (fun x => Value.int k (f x)), plain c = true := by
  intro c hc
  obtain ⟨x, _, rfl⟩ := List.mem_map.1 hc
  rfl

/-- What a range's body must come to: R where the round ends, and where it leaves the loop what stands behind it. -/
def rangePost (id id1 : Nat) (R : (Nat → Value) → Heap → Nat → Prop) (Q : AQ) : AQ
  | .normal, t, g, n => R t g n
  | .exit e, t, g, n => if e = id1 then R t g n else if e = id then Q .normal t g n else Q (.exit e) t g n
  | e, t, g, n => Q e t g n

/-- 'for i := range M': J k holds at the head of round k. -/
theorem range_loop {P : Program} {Q : AQ} {id id1 ra rb : Nat} {i m c d : Tmp} {ty1 ty2 ty3 T1 T2 T3 T4 : TypeId} {p1 p2 p3 : String} {a1 a2 a3 : Array Edge} {body : Code} {t : Nat → Value} {g : Heap} {n : Nat}
    (M : Nat) (J : Nat → (Nat → Value) → Heap → Nat → Prop) (hM : M ≤ 4611686018427387904) (h0 : t i = .int .i64 0) (hm : t m = .int .i64 M) (hJ0 : J 0 t g n)
    (hd : i ≠ m ∧ c ≠ i ∧ c ≠ m ∧ d ≠ i ∧ d ≠ m)
    (hJ : ∀ k t g n x v, (x = c ∨ x = d ∨ x = i) → J k t g n → J k (upd t x v) g n)
    (hbody : ∀ k t g n, k < M → t i = .int .i64 k → t m = .int .i64 M → J k t g n → awp P body (rangePost id id1 (fun t' g' n' => t' i = .int .i64 k ∧ t' m = .int .i64 M ∧ J (k + 1) t' g' n') Q) t g n)
    (hend : ∀ t g n, J M t g n → Q .normal t g n) :
    awp P (.block id (.loop (.seq (.region ra #[⟨some c, .binOp .lss T1 (.tmp i) (.tmp m) T2, ty1, p1, a1, none⟩] false)
      (.seq (.cond (.tmp c) .skip (.exit id)) (.seq (.block id1 body) (.region rb #[⟨some d, .binOp .add T3 (.tmp i) (.const (.int .i64 1)) T4, ty2, p2, a2, none⟩, ⟨some i, .move (.tmp d), ty3, p3, a3, none⟩] false)))))) Q t g n := by
  obtain ⟨d1, d2, d3, d4, d5⟩ := hd
  refine w_block (w_loop (fun t g n => ∃ k, k ≤ M ∧ t i = .int .i64 k ∧ t m = .int .i64 M ∧ J k t g n) (fun t _ _ => match t i with | .int _ k => M - k.toNat | _ => 0) ⟨0, by omega, h0, hm, hJ0⟩ ?_)
  rintro t g n ⟨k, hk, hi, hm, hJk⟩
  refine s_run (t' := upd t c (.bool (decide ((k : Int) < M)))) (g' := g) (n' := n) (by simp only [runL, awant_none, astep, evl, put, ap_none, List.length_nil, Nat.add_zero, stepBin, abin, hi, hm, if_true]) ?_
  have hJc := hJ k t g n c (.bool (decide ((k : Int) < M))) (.inl rfl) hJk
  have hi' : upd t c (.bool (decide ((k : Int) < M))) i = .int .i64 k := by rw [upd_ne _ _ (Ne.symm d2)]; exact hi
  have hm' : upd t c (.bool (decide ((k : Int) < M))) m = .int .i64 M := by rw [upd_ne _ _ (Ne.symm d3)]; exact hm
  by_cases hlt : k < M
  · refine s_true (by simp only [evl, upd_self]; simp; exact hlt) (s_skip (w_seq (w_block ?_)))
    refine awp_mono ?_ (hbody k _ g n hlt hi' hm' hJc)
    have inc : ∀ t' g' n', (t' i = .int .i64 k ∧ t' m = .int .i64 M ∧ J (k + 1) t' g' n') → awp P (.region rb #[⟨some d, .binOp .add T3 (.tmp i) (.const (.int .i64 1)) T4, ty2, p2, a2, none⟩, ⟨some i, .move (.tmp d), ty3, p3, a3, none⟩] false)
        (athen (fun t'' g'' n'' => (∃ k, k ≤ M ∧ t'' i = .int .i64 k ∧ t'' m = .int .i64 M ∧ J k t'' g'' n'') ∧ (match t'' i with | .int _ k => M - k.toNat | _ => 0) < (match t i with | .int _ k => M - k.toNat | _ => 0)) (ainBlock id Q)) t' g' n' := by
      rintro t' g' n' ⟨q1, q2, q3⟩
      have hw : IntKind.i64.wrap ((k : Int) + 1) = ((k + 1 : Nat) : Int) := by
        rw [IntKind.wrap_i64]
        omega
      refine region_run (t' := upd (upd t' d (.int .i64 ((k + 1 : Nat) : Int))) i (.int .i64 ((k + 1 : Nat) : Int))) (g' := g') (n' := n') (by simp only [runL, awant_none, astep, evl, put, ap_none, List.length_nil, Nat.add_zero, stepBin, abin, q1, if_true, hw, upd_self]) ?_
      clear hw
      refine ⟨⟨k + 1, by omega, by simp, ?_, hJ _ _ _ _ _ _ (.inr (.inr rfl)) (hJ _ _ _ _ _ _ (.inr (.inl rfl)) q3)⟩, ?_⟩
      · rw [upd_ne _ _ (Ne.symm d1), upd_ne _ _ (Ne.symm d5)]; exact q2
      · rw [hi, upd_self]
        show M - ((k + 1 : Nat) : Int).toNat < M - (k : Int).toNat
        rw [Int.toNat_natCast, Int.toNat_natCast]
        exact Nat.sub_lt_sub_left hlt (Nat.lt_succ_self k)
    intro e t' g' n' he
    cases e with
    | normal => exact inc t' g' n' he
    | exit e =>
      simp only [rangePost] at he
      simp only [ainBlock]
      split at he
      · rename_i e1; rw [if_pos e1]; exact inc t' g' n' he
      · rename_i e1
        rw [if_neg e1]
        simp only [athen, ainBlock]
        exact he
    | _ => exact he
  · refine s_false (by simp only [evl, upd_self]; simp; omega) (s_exit ?_)
    have : k = M := by omega
    subst this
    simp only [athen, ainBlock, if_true]
    exact hend _ _ _ hJc

/-- The same with what stands behind it. -/
theorem s_range {P : Program} {Q : AQ} {id id1 ra rb : Nat} {i m c d : Tmp} {ty1 ty2 ty3 T1 T2 T3 T4 : TypeId} {p1 p2 p3 : String} {a1 a2 a3 : Array Edge} {body rest : Code} {t : Nat → Value} {g : Heap} {n : Nat}
    (M : Nat) (J : Nat → (Nat → Value) → Heap → Nat → Prop) (hM : M ≤ 4611686018427387904) (h0 : t i = .int .i64 0) (hm : t m = .int .i64 M) (hJ0 : J 0 t g n)
    (hd : i ≠ m ∧ c ≠ i ∧ c ≠ m ∧ d ≠ i ∧ d ≠ m)
    (hJ : ∀ k t g n x v, (x = c ∨ x = d ∨ x = i) → J k t g n → J k (upd t x v) g n)
    (hbody : ∀ k t g n, k < M → t i = .int .i64 k → t m = .int .i64 M → J k t g n → awp P body (rangePost id id1 (fun t' g' n' => t' i = .int .i64 k ∧ t' m = .int .i64 M ∧ J (k + 1) t' g' n') (athen (awp P rest Q) Q)) t g n)
    (hend : ∀ t g n, J M t g n → awp P rest Q t g n) :
    awp P (.seq (.block id (.loop (.seq (.region ra #[⟨some c, .binOp .lss T1 (.tmp i) (.tmp m) T2, ty1, p1, a1, none⟩] false)
      (.seq (.cond (.tmp c) .skip (.exit id)) (.seq (.block id1 body) (.region rb #[⟨some d, .binOp .add T3 (.tmp i) (.const (.int .i64 1)) T4, ty2, p2, a2, none⟩, ⟨some i, .move (.tmp d), ty3, p3, a3, none⟩] false)))))) rest) Q t g n :=
  w_seq (range_loop M J hM h0 hm hJ0 hd hJ hbody hend)

/-- The first of two, and what holds behind it. -/
theorem s_cut {P : Program} {Q : AQ} {a b : Code} {t : Nat → Value} {g : Heap} {n : Nat} (K : (Nat → Value) → Heap → Nat → Prop) (h : awp P a (fun e t g n => e = .normal ∧ K t g n) t g n) (hk : ∀ t g n, K t g n → awp P b Q t g n) : awp P (.seq a b) Q t g n := by
  refine awp_mono (c := a) ?_ h
  rintro e t g n ⟨rfl, hK⟩
  exact hk _ _ _ hK

/-- Operations that look at no memory. -/
def runP (P : Program) (ops : Array Oper) : List Oper → St → Option St
  | [], s => some s
  | o :: rest, s => match awant ops o s.t with
    | some true => match astep P o.op (evl s.t) s.g s.n with
      | some f => if f.r.isEmpty && f.w.isEmpty && f.a.isEmpty then runP P ops rest ⟨put s.t o.dst f.v, s.g, s.n⟩ else none
      | none => none
    | some false => runP P ops rest ⟨put s.t o.dst undef, s.g, s.n⟩
    | none => none

section
variable {P : Program} {ops : Array Oper} {bf : Array Nat} {K : (Nat → Value) → Heap → Nat → Prop}

theorem d_weak : ∀ {l : List Oper} {idx : Nat} {acc acc' : List FP} {t : Nat → Value} {g : Heap} {n : Nat}, (∀ p ∈ acc, p ∈ acc') → awpD P ops bf K l idx acc' t g n → awpD P ops bf K l idx acc t g n
  | [], _, _, _, _, _, _, _, h => h
  | o :: rest, idx, acc, acc', t, g, n, hs, h => by
    obtain ⟨b, hb, h⟩ := h
    refine ⟨b, hb, ?_⟩
    cases b with
    | true =>
      obtain ⟨f, hf, hp, h⟩ := h
      refine ⟨f, hf, fun p hq => hp p (hs p hq), d_weak (fun p hq => ?_) h⟩
      split
      · rename_i e; rw [if_pos e] at hq; exact hs p hq
      · rename_i e
        rw [if_neg e] at hq
        rcases List.mem_cons.1 hq with rfl | hq
        · simp
        · exact List.mem_cons_of_mem _ (hs p hq)
    | false => exact d_weak hs h

theorem d_step {o : Oper} {rest : List Oper} {idx : Nat} {acc : List FP} {t : Nat → Value} {g : Heap} {n : Nat} (f : Eff) (h : astep P o.op (evl t) g n = some f) (hw : awant ops o t = some true)
    (hp : ∀ p ∈ acc, (bf.getD idx 0).testBit p.1 = true ∨ ((∀ x ∈ p.2.2, x ∉ f.r ∧ x ∉ f.wr) ∧ ∀ x ∈ p.2.1, x ∉ f.wr))
    (hk : awpD P ops bf K rest (idx + 1) ((idx, f.r, f.wr) :: acc) (put t o.dst f.v) (f.ap g) (n + f.a.length)) : awpD P ops bf K (o :: rest) idx acc t g n := by
  refine ⟨true, hw, f, .inl h, hp, d_weak (fun p hq => ?_) hk⟩
  split at hq
  · exact List.mem_cons_of_mem _ hq
  · exact hq

theorem d_call {o : Oper} {rest : List Oper} {idx : Nat} {acc : List FP} {t : Nat → Value} {g : Heap} {n : Nat} {c : Call} {fo : Operand} (k : FuncId) (f : Eff) (ho : o.op = .call c) (hc : c.callee = .value fo) (hf : evl t fo = .func (.func k) #[] #[]) (hw : awant ops o t = some true)
    (hspec : FnSpec P k (c.args.toList.map (evl t)) g f) (hj : f.a ≠ [] → f.j = n)
    (hp : ∀ p ∈ acc, (bf.getD idx 0).testBit p.1 = true ∨ ((∀ x ∈ p.2.2, x ∉ f.r ∧ x ∉ f.wr) ∧ ∀ x ∈ p.2.1, x ∉ f.wr))
    (hk : awpD P ops bf K rest (idx + 1) ((idx, f.r, f.wr) :: acc) (put t o.dst f.v) (f.ap g) (n + f.a.length)) : awpD P ops bf K (o :: rest) idx acc t g n := by
  refine ⟨true, hw, f, .inr ⟨c, fo, k, ho, hc, hf, hj, hspec⟩, hp, d_weak (fun p hq => ?_) hk⟩
  split at hq
  · exact List.mem_cons_of_mem _ hq
  · exact hq

theorem d_heap {l : List Oper} {idx : Nat} {acc : List FP} {t : Nat → Value} {g : Heap} {n : Nat} (h : ∀ G, G = g → awpD P ops bf K l idx acc t G n) : awpD P ops bf K l idx acc t g n := h g rfl

theorem d_pure (k : Nat) : ∀ {l : List Oper} {idx : Nat} {acc : List FP} {t : Nat → Value} {g : Heap} {n : Nat} {s : St}, runP P ops (l.take k) ⟨t, g, n⟩ = some s → awpD P ops bf K (l.drop k) (idx + (l.take k).length) acc s.t s.g s.n → awpD P ops bf K l idx acc t g n := by
  induction k with
  | zero => intro l idx acc t g n s h hk; simp only [List.take_zero, runP, Option.some.injEq] at h; subst h; simpa using hk
  | succ k ih =>
    intro l idx acc t g n s h hk
    cases l with
    | nil => simp only [List.take_nil, runP, Option.some.injEq] at h; subst h; simpa using hk
    | cons o rest =>
      simp only [List.take_succ_cons, runP] at h
      simp only [List.drop_succ_cons, List.take_succ_cons, List.length_cons] at hk
      rw [show idx + ((rest.take k).length + 1) = idx + 1 + (rest.take k).length by omega] at hk
      split at h
      · rename_i hw
        split at h
        · rename_i f hf
          split at h
          · rename_i he
            simp only [Bool.and_eq_true] at he
            obtain ⟨⟨h0, h1⟩, h2⟩ := he
            obtain ⟨h3, h4⟩ := wr_nil h1 h2
            have h5 : f.a.length = 0 := by simp only [List.isEmpty_iff] at h2; simp [h2]
            refine ⟨true, hw, f, .inl hf, fun p hp => .inr ⟨?_, ?_⟩, ?_⟩
            · simp only [List.isEmpty_iff] at h0; rw [h0, h3]; simp
            · rw [h3]; simp
            · rw [h0, h3, h4, h5]
              exact ih h hk
          · cases h
        · cases h
      · rename_i hw
        exact ⟨false, hw, ih h hk⟩
      · cases h

theorem region_draw {id : Nat} {Q : AQ} {t : Nat → Value} {g : Heap} {n : Nat} (bf : Array Nat) (hd : drawOK ops bf = true) (h : awpD P ops bf (Q .normal) ops.toList 0 [] t g n) : awp P (.region id ops true) Q t g n := ⟨bf, hd, h⟩
theorem s_drawn {id : Nat} {Q : AQ} {b : Code} {t : Nat → Value} {g : Heap} {n : Nat} (bf : Array Nat) (hd : drawOK ops bf = true) (h : awpD P ops bf (awp P b Q) ops.toList 0 [] t g n) : awp P (.seq (.region id ops true) b) Q t g n := ⟨bf, hd, h⟩
end

theorem bit_of {bf : Array Nat} {i p : Nat} (j k : Nat) (hj : i = j) (hk : p = k) (h : (bf.getD j 0).testBit k = true) : (bf.getD i 0).testBit p = true := by subst hj hk; exact h

theorem w_gen {P : Program} {c : Code} {Q : AQ} {t : Nat → Value} {g : Heap} {n : Nat} (I : (Nat → Value) → Prop) (h0 : I t) (h : ∀ t, I t → awp P c Q t g n) : awp P c Q t g n := h t h0

end Go.Proofs.Ytokmmcfnpobldaa.Abs
