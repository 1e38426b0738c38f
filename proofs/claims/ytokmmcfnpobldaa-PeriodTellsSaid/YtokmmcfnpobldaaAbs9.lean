/-
  The abstract machine, part 9: code, and a function's contract out of its body.
-/
import Derived.Test.YtokmmcfnpobldaaAbs8
namespace Go.Proofs.Ytokmmcfnpobldaa.Abs
open Go Go.RowKit

abbrev FP := Nat × List Nat × List Nat

/-- The operations of a statement whose order is open, in the text's order; acc: what was looked at and written so far. -/
def awpD (P : Program) (ops : Array Oper) (bf : Array Nat) (K : (Nat → Value) → Heap → Nat → Prop) : List Oper → Nat → List FP → (Nat → Value) → Heap → Nat → Prop
  | [], _, _, t, g, n => K t g n
  | o :: rest, idx, acc, t, g, n => ∃ b, awant ops o t = some b ∧
    if b then ∃ f, Stp P o.op (evl t) g n f ∧
      (∀ p ∈ acc, (bf.getD idx 0).testBit p.1 = true ∨ ((∀ x ∈ p.2.2, x ∉ f.r ∧ x ∉ f.wr) ∧ ∀ x ∈ p.2.1, x ∉ f.wr)) ∧
      awpD P ops bf K rest (idx + 1) (if f.r.isEmpty && f.wr.isEmpty then acc else (idx, f.r, f.wr) :: acc) (put t o.dst f.v) (f.ap g) (n + f.a.length)
    else awpD P ops bf K rest (idx + 1) acc (put t o.dst undef) g n

section
variable {P : Program} {ops : Array Oper} {bf : Array Nat} {t0 : Nat → Value} {g0 : Heap} {n0 : Nat}

theorem tD_congr {E E' : Nat → Option Eff} {sel : Nat → Bool} (m : Nat) : (∀ k, k < m → E' k = E k) → tD ops E' sel t0 m = tD ops E sel t0 m ∧ gD E' sel g0 m = gD E sel g0 m ∧ nD E' n0 m = nD E n0 m := by
  induction m with
  | zero => intro _; exact ⟨rfl, rfl, rfl⟩
  | succ m ih =>
    intro h
    obtain ⟨h1, h2, h3⟩ := ih (fun k hk => h k (by omega))
    have he := h m (by omega)
    simp only [tD, gD, nD, h1, h2, h3, valOf, apOf, lenOf, he, and_self]

structure RunTo (P : Program) (ops : Array Oper) (bf : Array Nat) (E : Nat → Option Eff) (t0 : Nat → Value) (g0 : Heap) (n0 m : Nat) : Prop where
  want : ∀ (i : Nat) (o : Oper), i < m → ops[i]? = some o → awant ops o (tD ops E allSel t0 i) = some (E i).isSome
  step : ∀ (i : Nat) (o : Oper) (f : Eff), i < m → ops[i]? = some o → E i = some f → Stp P o.op (evl (tD ops E allSel t0 i)) (gD E allSel g0 i) (nD E n0 i) f
  pair : ∀ (i k : Nat) (f f' : Eff), i < k → k < m → E i = some f → E k = some f' → (bf.getD k 0).testBit i = true ∨ Disj f f'

theorem RunTo.ext {E E' : Nat → Option Eff} {m : Nat} (h : RunTo P ops bf E t0 g0 n0 m) (he : ∀ k, k < m → E' k = E k) : RunTo P ops bf E' t0 g0 n0 m := by
  refine ⟨fun i o hi ho => ?_, fun i o f hi ho hf => ?_, fun i k f f' hik hk hf hf' => ?_⟩
  · rw [(tD_congr (ops := ops) (g0 := g0) (n0 := n0) (t0 := t0) (sel := allSel) i (fun k hk => he k (by omega))).1, he i hi]
    exact h.want i o hi ho
  · obtain ⟨h1, h2, h3⟩ := tD_congr (ops := ops) (g0 := g0) (n0 := n0) (t0 := t0) (sel := allSel) i (fun k hk => he k (by omega))
    rw [h1, h2, h3]
    exact h.step i o f hi ho (by rw [← he i hi]; exact hf)
  · exact h.pair i k f f' hik hk (by rw [← he i (by omega)]; exact hf) (by rw [← he k hk]; exact hf')

theorem awpD_run {K : (Nat → Value) → Heap → Nat → Prop} : ∀ (rest : List Oper) (idx : Nat) (acc : List FP) (E : Nat → Option Eff), ops.toList.drop idx = rest → idx ≤ ops.size →
    RunTo P ops bf E t0 g0 n0 idx → (∀ i f, i < idx → E i = some f → (f.r = [] ∧ f.wr = []) ∨ (i, f.r, f.wr) ∈ acc) →
    awpD P ops bf K rest idx acc (tD ops E allSel t0 idx) (gD E allSel g0 idx) (nD E n0 idx) →
    ∃ E', Run P ops bf E' t0 g0 n0 ∧ K (tD ops E' allSel t0 ops.size) (gD E' allSel g0 ops.size) (nD E' n0 ops.size)
  | [], idx, acc, E, hd, hle, hr, ha, h => by
    have he : idx = ops.size := by
      have := congrArg List.length hd
      simp at this
      omega
    subst he
    exact ⟨E, ⟨fun i o ho => hr.want i o (Array.getElem?_eq_some_iff.1 ho).1 ho, fun i o f ho hf => hr.step i o f (Array.getElem?_eq_some_iff.1 ho).1 ho hf, fun i k f f' hik hk => hr.pair i k f f' hik hk⟩, h⟩
  | o :: rest, idx, acc, E, hd, hle, hr, ha, h => by
    have hlt : idx < ops.size := by
      have := congrArg List.length hd
      simp at this
      omega
    have ho : ops[idx]? = some o := by
      have : (ops.toList.drop idx)[0]? = some o := by rw [hd]; rfl
      simpa using this
    have hd' : ops.toList.drop (idx + 1) = rest := by
      have := congrArg List.tail hd
      simpa using this
    obtain ⟨b, hb, h⟩ := h
    cases b with
    | false =>
      simp only [Bool.false_eq_true, if_false] at h
      let E' := upd E idx none
      have hE : ∀ k, k < idx → E' k = E k := fun k hk => upd_ne _ _ (by omega)
      obtain ⟨c1, c2, c3⟩ := tD_congr (ops := ops) (g0 := g0) (n0 := n0) (t0 := t0) (sel := allSel) idx hE
      have hEi : E' idx = none := upd_self _ _ _
      have hr0 := hr.ext hE
      refine awpD_run rest (idx + 1) acc E' hd' (by omega) ⟨fun i o' hi ho' => ?_, fun i o' f hi ho' hf => ?_, fun i k f f' hik hk hf hf' => ?_⟩ (fun i f hi hf => ?_) ?_
      · by_cases e : i = idx
        · subst e
          rw [ho] at ho'; cases ho'
          rw [c1, hEi]; exact hb
        · exact hr0.want i o' (by omega) ho'
      · by_cases e : i = idx
        · subst e; rw [hEi] at hf; cases hf
        · exact hr0.step i o' f (by omega) ho' hf
      · by_cases e : k = idx
        · subst e; rw [hEi] at hf'; cases hf'
        · exact hr0.pair i k f f' hik (by omega) hf hf'
      · by_cases e : i = idx
        · subst e; rw [hEi] at hf; cases hf
        · exact ha i f (by omega) (by rw [← hE i (by omega)]; exact hf)
      · have d1 : tD ops E' allSel t0 (idx + 1) = put (tD ops E allSel t0 idx) o.dst undef := by
          rw [tD, c1]; simp [allSel, dstOf, ho, valOf, hEi]
        have d2 : gD E' allSel g0 (idx + 1) = gD E allSel g0 idx := by rw [gD, c2]; simp [allSel, apOf, hEi]
        have d3 : nD E' n0 (idx + 1) = nD E n0 idx := by rw [nD, c3]; simp [lenOf, hEi]
        rw [d1, d2, d3]
        exact h
    | true =>
      simp only [if_true] at h
      obtain ⟨f, hf, hp, h⟩ := h
      let E' := upd E idx (some f)
      have hE : ∀ k, k < idx → E' k = E k := fun k hk => upd_ne _ _ (by omega)
      obtain ⟨c1, c2, c3⟩ := tD_congr (ops := ops) (g0 := g0) (n0 := n0) (t0 := t0) (sel := allSel) idx hE
      have hEi : E' idx = some f := upd_self _ _ _
      have hr0 := hr.ext hE
      refine awpD_run rest (idx + 1) (if f.r.isEmpty && f.wr.isEmpty then acc else (idx, f.r, f.wr) :: acc) E' hd' (by omega) ⟨fun i o' hi ho' => ?_, fun i o' f' hi ho' hf' => ?_, fun i k f1 f2 hik hk hf1 hf2 => ?_⟩ (fun i f' hi hf' => ?_) ?_
      · by_cases e : i = idx
        · subst e
          rw [ho] at ho'; cases ho'
          rw [c1, hEi]; exact hb
        · exact hr0.want i o' (by omega) ho'
      · by_cases e : i = idx
        · subst e
          rw [ho] at ho'; cases ho'
          rw [hEi] at hf'; cases hf'
          rw [c1, c2, c3]; exact hf
        · exact hr0.step i o' f' (by omega) ho' hf'
      · by_cases e : k = idx
        · subst e
          rw [hEi] at hf2; cases hf2
          have hf1' : E i = some f1 := by rw [← hE i hik]; exact hf1
          rcases ha i f1 hik hf1' with ⟨e1, e2⟩ | hm
          · right
            refine ⟨fun b hb => ?_, fun b hb => ?_⟩
            · rw [e2] at hb; simp at hb
            · rw [e1] at hb; simp at hb
          · rcases hp _ hm with h1 | h1
            · exact .inl h1
            · exact .inr h1
        · exact hr0.pair i k f1 f2 hik (by omega) hf1 hf2
      · by_cases e : i = idx
        · subst e
          rw [hEi] at hf'; cases hf'
          by_cases hemp : (f.r.isEmpty && f.wr.isEmpty) = true
          · simp only [Bool.and_eq_true, List.isEmpty_iff] at hemp
            exact .inl hemp
          · right; rw [if_neg hemp]; simp
        · rcases ha i f' (by omega) (by rw [← hE i (by omega)]; exact hf') with h1 | h1
          · exact .inl h1
          · right
            split
            · exact h1
            · simp [h1]
      · have d1 : tD ops E' allSel t0 (idx + 1) = put (tD ops E allSel t0 idx) o.dst f.v := by
          rw [tD, c1]; simp [allSel, dstOf, ho, valOf, hEi]
        have d2 : gD E' allSel g0 (idx + 1) = f.ap (gD E allSel g0 idx) := by rw [gD, c2]; simp [allSel, apOf, hEi]
        have d3 : nD E' n0 (idx + 1) = nD E n0 idx + f.a.length := by rw [nD, c3]; simp [lenOf, hEi]
        rw [d1, d2, d3]
        exact h
end

abbrev AQ := Exit → (Nat → Value) → Heap → Nat → Prop

def athen (next : (Nat → Value) → Heap → Nat → Prop) (Q : AQ) : AQ
  | .normal, t, g, n => next t g n
  | e, t, g, n => Q e t g n

def ainBlock (id : Nat) (Q : AQ) : AQ
  | .exit id', t, g, n => if id' = id then Q .normal t g n else Q (.exit id') t g n
  | e, t, g, n => Q e t g n

def awp (P : Program) : Code → AQ → (Nat → Value) → Heap → Nat → Prop
  | .skip, Q, t, g, n => Q .normal t g n
  | .region _ ops false, Q, t, g, n => awpOps P ops (Q .normal) ops.toList t g n
  | .region _ ops true, Q, t, g, n => ∃ bf, drawOK ops bf = true ∧ awpD P ops bf (Q .normal) ops.toList 0 [] t g n
  | .seq a b, Q, t, g, n => awp P a (athen (awp P b Q) Q) t g n
  | .cond c x y, Q, t, g, n => ∃ b, evl t c = .bool b ∧ (b = true → awp P x Q t g n) ∧ (b = false → awp P y Q t g n)
  | .block id c, Q, t, g, n => awp P c (ainBlock id Q) t g n
  | .loop c, Q, t, g, n => ∃ (I : (Nat → Value) → Heap → Nat → Prop) (μ : (Nat → Value) → Heap → Nat → Nat), I t g n ∧
      ∀ t g n, I t g n → awp P c (athen (fun t' g' n' => I t' g' n' ∧ μ t' g' n' < μ t g n) Q) t g n
  | .exit id, Q, t, g, n => Q (.exit id) t g n
  | .ret, Q, t, g, n => Q .ret t g n
  | _, _, _, _, _ => False

def okCode (N : Nat) : Code → Bool
  | .region _ ops _ => ops.toList.all (okOper N)
  | .seq a b => okCode N a && okCode N b
  | .cond c x y => okOperand c && okCode N x && okCode N y
  | .block _ c => okCode N c
  | .loop c => okCode N c
  | _ => true

section
variable {P : Program} {N base : Nat} {w0 : World} {ρ0 : Ren} {gg : Heap} {ss : Nat → Prop}

/-- A world and a frame that hold an abstract state. -/
structure Holds (N base : Nat) (w0 : World) (ρ0 : Ren) (gg : Heap) (ss : Nat → Prop) (t : Nat → Value) (g : Heap) (n : Nat) (a : Act) (w : World) : Prop where
  ex : ∃ ρ, HR base w0 ρ g (· < n) w ∧ TR N ρ g (· < n) t a ∧ Mono ρ0 gg ss ρ g ∧ ∀ i, ss i → i < n

def Lift (N base : Nat) (w0 : World) (ρ0 : Ren) (gg : Heap) (ss : Nat → Prop) (Q : AQ) : Exit → Act → World → Prop :=
  fun e a w => ∃ t g n, Q e t g n ∧ Holds N base w0 ρ0 gg ss t g n a w

open Classical in
theorem awp_sound (hm : P.follows .mixedOrders = true) : ∀ (c : Code) (Q : AQ) (t : Nat → Value) (g : Heap) (n : Nat) (a : Act) (w : World), okCode N c = true → awp P c Q t g n →
    Holds N base w0 ρ0 gg ss t g n a w → c.wp P (Lift N base w0 ρ0 gg ss Q) a w := by
  intro c
  induction c with
  | skip => exact fun Q t g n a w _ h hh => wp_skip ⟨t, g, n, h, hh⟩
  | exit id => exact fun Q t g n a w _ h hh => wp_exit ⟨t, g, n, h, hh⟩
  | ret => exact fun Q t g n a w _ h hh => wp_ret ⟨t, g, n, h, hh⟩
  | region id ops draw =>
    intro Q t g n a w hok h hh
    have hok' : ∀ o ∈ ops.toList, okOper N o = true := fun o ho => List.all_eq_true.1 hok o ho
    obtain ⟨ρ, hR, hT, hM, hS⟩ := hh.ex
    cases draw with
    | false =>
      refine wp_region_list (awpOps_sound (base := base) (w0 := w0) (ρ0 := ρ0) (g0 := gg) (s0 := ss) (fun ρ t g n w a hk hR hT hM hS => ⟨t, g, n, hk, ⟨ρ, hR, hT, hM, hS⟩⟩) ops.toList ρ t g n w a hok' h hR hT hM hS)
    | true =>
      obtain ⟨bf, hd, h⟩ := h
      have hd' := drawOK_spec hd
      obtain ⟨E, hrun, hK⟩ := awpD_run (P := P) (ops := ops) (bf := bf) (t0 := t) (g0 := g) (n0 := n) (K := Q .normal) ops.toList 0 [] (fun _ => none) (by simp) (by omega)
        ⟨fun i o hi => by omega, fun i o f hi => by omega, fun i k f f' _ hk => by omega⟩ (fun i f hi => by omega) h
      have hnone : ∀ (k : Nat), selOf (Array.replicate ops.size false) k = false := by
        intro k
        simp only [selOf, Array.getD]
        split <;> simp
      have e1 : ∀ m, tD ops E (selOf (Array.replicate ops.size false)) t m = t ∧ gD E (selOf (Array.replicate ops.size false)) g m = g := by
        intro m
        induction m with
        | zero => exact ⟨rfl, rfl⟩
        | succ m ih => rw [tD, gD, hnone m, ih.1, ih.2]; simp
      have e2 : ∀ i, sD E (selOf (Array.replicate ops.size false)) n ops.size i ↔ i < n := by
        intro i
        refine ⟨fun hi => ?_, .inl⟩
        rcases hi with hi | ⟨k, f, _, hs, _⟩
        · exact hi
        · rw [hnone k] at hs; cases hs
      have e3 : sD E (selOf (Array.replicate ops.size false)) n ops.size = (· < n) := funext fun i => propext (e2 i)
      refine wp_region_any hm (draw_sound (N := N) (base := base) (w0 := w0) (ρ0 := ρ0) (gg := gg) (ss := ss) hd' hrun hok' (fun ρ w a hR hT hM hS => ⟨_, _, _, hK, ⟨ρ, hR, hT, hM, hS⟩⟩) ops.size _ ρ _ a (by simp) ?_ ?_ ?_ ?_ ?_ hS)
      · intro j o _ hs; rw [hnone j] at hs; cases hs
      · unfold unlisted
        rw [List.countP_eq_length.2 (fun k _ => by simp [hnone k])]
        simp
      · rw [(e1 _).2, e3]
        exact hR.world rfl ⟨hR.below.os, hR.below.tape, hR.below.output, hR.below.size, hR.below.block⟩
      · rw [(e1 _).1, (e1 _).2, e3]; exact hT
      · rw [(e1 _).2]; exact hM
  | seq x y ihx ihy =>
    intro Q t g n a w hok h hh
    simp only [okCode, Bool.and_eq_true] at hok
    refine wp_seq (Code.wp_mono ?_ (ihx _ t g n a w hok.1 h hh))
    intro e a' w' he
    obtain ⟨t', g', n', hq, hh'⟩ := he
    cases e with
    | normal => exact ihy Q t' g' n' a' w' hok.2 hq hh'
    | exit id => exact ⟨t', g', n', hq, hh'⟩
    | goto l => exact ⟨t', g', n', hq, hh'⟩
    | ret => exact ⟨t', g', n', hq, hh'⟩
    | panic ch => exact ⟨t', g', n', hq, hh'⟩
    | outgrown => exact ⟨t', g', n', hq, hh'⟩
  | cond c x y ihx ihy =>
    intro Q t g n a w hok h hh
    simp only [okCode, Bool.and_eq_true] at hok
    obtain ⟨b, hb, h1, h2⟩ := h
    obtain ⟨ρ, hR, hT, hM, hS⟩ := hh.ex
    have hv := hT.eval hok.1.1
    rw [hb, VV_bool] at hv
    refine wp_cond hv ?_
    cases b with
    | true => exact ihx Q t g n a w hok.1.2 (h1 rfl) hh
    | false => exact ihy Q t g n a w hok.2 (h2 rfl) hh
  | block id c ih =>
    intro Q t g n a w hok h hh
    refine wp_block (Code.wp_mono ?_ (ih _ t g n a w hok h hh))
    intro e a' w' he
    obtain ⟨t', g', n', hq, hh'⟩ := he
    cases e with
    | normal => exact ⟨t', g', n', hq, hh'⟩
    | exit id' =>
      simp only [ainBlock] at hq
      simp only [Exit.inBlock]
      split at hq
      · rename_i e; rw [if_pos e]; exact ⟨t', g', n', hq, hh'⟩
      · rename_i e; rw [if_neg e]; exact ⟨t', g', n', hq, hh'⟩
    | goto l => exact ⟨t', g', n', hq, hh'⟩
    | ret => exact ⟨t', g', n', hq, hh'⟩
    | panic ch => exact ⟨t', g', n', hq, hh'⟩
    | outgrown => exact ⟨t', g', n', hq, hh'⟩
  | loop c ih =>
    intro Q t g n a w hok h hh
    obtain ⟨I, μ, hI, hround⟩ := h
    -- the least measure of a state that the world holds
    let S : Act → World → Nat → Prop := fun a w m => ∃ t g n, I t g n ∧ Holds N base w0 ρ0 gg ss t g n a w ∧ μ t g n = m
    have least : ∀ (p : Nat → Prop), (∃ m, p m) → ∃ m, p m ∧ ∀ k, p k → m ≤ k := by
      intro p ⟨m, hm⟩
      induction m using Nat.strongRecOn with
      | _ m ihm =>
        by_cases hlt : ∃ k, k < m ∧ p k
        · obtain ⟨k, hk, hp⟩ := hlt
          exact ihm k hk hp
        · exact ⟨m, hm, fun k hk => Nat.le_of_not_lt fun h => hlt ⟨k, h, hk⟩⟩
    let M : Act → World → Nat := fun a w => if h : ∃ m, S a w m then Classical.choose (least _ h) else 0
    have hM : ∀ a w (h : ∃ m, S a w m), S a w (M a w) ∧ ∀ k, S a w k → M a w ≤ k := by
      intro a w h
      have : M a w = Classical.choose (least _ h) := by simp only [M]; rw [dif_pos h]
      rw [this]
      exact Classical.choose_spec (least _ h)
    refine wp_loop (fun a w => ∃ m, S a w m) M ⟨_, t, g, n, hI, hh, rfl⟩ fun a' w' hex => ?_
    obtain ⟨⟨t', g', n', hI', hh', hμ⟩, _⟩ := hM a' w' hex
    refine Code.wp_mono ?_ (ih _ t' g' n' a' w' hok (hround t' g' n' hI') hh')
    intro e a'' w'' he
    obtain ⟨t2, g2, n2, hq, hh2⟩ := he
    cases e with
    | normal =>
      obtain ⟨hI2, hlt⟩ := hq
      refine ⟨⟨_, t2, g2, n2, hI2, hh2, rfl⟩, ?_⟩
      have := (hM a'' w'' ⟨_, t2, g2, n2, hI2, hh2, rfl⟩).2 _ ⟨t2, g2, n2, hI2, hh2, rfl⟩
      show M a'' w'' < M a' w'
      omega
    | exit id => exact ⟨t2, g2, n2, hq, hh2⟩
    | goto l => exact ⟨t2, g2, n2, hq, hh2⟩
    | ret => exact ⟨t2, g2, n2, hq, hh2⟩
    | panic ch => exact ⟨t2, g2, n2, hq, hh2⟩
    | outgrown => exact ⟨t2, g2, n2, hq, hh2⟩
  | _ => intro Q t g n a w _ h; exact h.elim
end

-- renaming
def ren1 (σ : Nat → Nat) : Value → Value
  | .pointer (some a) => .pointer (some { a with block := σ a.block })
  | .slice (some a) l e => .slice (some (if a.spot.isSome then { a with block := σ a.block } else a)) l e
  | v => v

def renA (σ : Nat → Nat) : Value → Value
  | .agg cs => .agg (cs.map (ren1 σ))
  | v => ren1 σ v

def renT (σ : Nat → Nat) : Value → Value
  | .tuple vs => .tuple (vs.map (renA σ))
  | v => renA σ v

def renB (σ : Nat → Nat) (b : Blk) : Blk := { b with cells := b.cells.map (ren1 σ) }

def sig (f : Eff) (ids : List Nat) : Nat → Nat := fun i => if f.j ≤ i then (ids[i - f.j]?).getD i else i

/-- What stands behind a body is what the effect says, its new blocks under other numbers (ids), and more that nobody knows of. -/
structure Fin (f : Eff) (ids : List Nat) (s2 : Nat → Prop) (g2 : Heap) (n : Nat) (g' : Heap) (v' : Value) : Prop where
  len : ids.length = f.a.length
  new : ∀ x ∈ ids, n ≤ x
  nodup : ids.Nodup
  val : v' = renT (sig f ids) f.v
  blk : ∀ (m : Nat) (b : Blk), f.a[m]? = some b → ∃ x, ids[m]? = some x ∧ g' x = some (renB (sig f ids) b)
  wrt : ∀ i, i ∈ f.w.map (·.1) → ∃ b, setAll g2 f.w i = some b ∧ g' i = some (renB (sig f ids) b)
  wdom : ∀ i, i ∈ f.w.map (·.1) → (g2 i).isSome = true
  old : ∀ i b, i ∉ f.w.map (·.1) → g2 i = some b → g' i = some b
  sv : SVT (f.sn s2) f.v
  sva : ∀ b ∈ f.a, ∀ c ∈ b.cells, SV1 (f.sn s2) c
  svw : ∀ p ∈ f.w, ∀ c ∈ p.2.cells, SV1 (f.sn s2) c

end Go.Proofs.Ytokmmcfnpobldaa.Abs
