import Derived.Test.YtdpkhijbikbhnaaT21
namespace Go.Proofs.Ytdpkhijbikbhnaa
open Go Abs Plain
set_option linter.unusedSimpArgs false
set_option linter.unusedVariables false

theorem min_nat (i j : Nat) : stepMin (.int .i64 (i : Nat)) (.int .i64 (j : Nat)) = some { v := .int .i64 ((min i j : Nat) : Int) } := by
  show some ({ v := .int .i64 (if (j : Int) < (i : Int) then (j : Int) else (i : Int)) } : Eff) = _
  by_cases h : j < i
  · rw [if_pos (by omega), Nat.min_eq_right (by omega)]
  · rw [if_neg (by omega), Nat.min_eq_left (by omega)]
def pcE (s nx : List Nat) (i : Nat) : Nat := min (byt nx i + 1) s.length
/-- The numbers from a place to the next one. -/
def pcL (s nx : List Nat) (i : Nat) : List Nat := (s.drop i).take (pcE s nx i - i)

set_option maxRecDepth 20000 in
theorem piece_spec (v u : Value) (s nx : List Nat) (i : Nat) (g : Heap) (hl : s.length ≤ 2 ^ 38) (hnx : ∀ x ∈ nx, x ≤ 2 ^ 38) (hi : i < nx.length) (hp : i ≤ pcE s nx i) (hv : Src g v 1 s.length (ints s)) (hu : Src g u 1 nx.length (ints nx)) :
    FnSpec Try.prog 56 [v, u, .int .i64 i] g { v := slV v i (pcE s nx i), r := srcBlk v ++ srcBlk u } := by
  refine spec_of_body [6] follows Try.func56 rfl (by kernel_rfl) (by simp [Try.f56]) (by kernel_rfl) rfl ?_
  intro g2 s2 n hg hfr hs hn hwf hsv
  have hv2 : Src g2 v 1 s.length (ints s) := hv.congr fun i hi => hg i (by simp [Eff.fp, hi])
  have hvd : ∀ i ∈ srcBlk v, i < n := dom_of hs hwf hv2
  have hu2 : Src g2 u 1 nx.length (ints nx) := hu.congr fun i hi => hg i (by simp [Eff.fp, hi])
  have hud : ∀ i ∈ srcBlk u, i < n := dom_of hs hwf hu2
  have hlen := hv2.len Try.underlying22
  obtain ⟨av, kv, hvf⟩ := src_form hv2
  clear hg hfr hn hv hu
  obtain ⟨p, i1, l1, _⟩ := srcN hu2 hi
  have hx := hnx (byt nx i) (by rw [byt_eq hi]; exact List.getElem_mem hi)
  have w1 : IntKind.i64.wrap (((byt nx i : Nat) : Int) + 1) = ((byt nx i + 1 : Nat) : Int) := wrap_succ (by omega)
  have hmn := min_nat (byt nx i + 1) s.length
  obtain ⟨e1, _, _, e4⟩ := src_slV (P := Try.prog) hv2 Try.underlying22 tsize3 (some (.int .i64 (i : Int))) (some (.int .i64 ((pcE s nx i : Nat) : Int))) i (pcE s nx i) (by simp [boundOf]) (by simp [boundOf]) hp (by unfold pcE; omega)
  have hpc : min (byt nx i + 1) s.length = pcE s nx i := rfl
  rw [hpc] at hmn
  have hsl : SV1 s2 v := by
    have := hsv v (by simp)
    rw [hvf] at this ⊢; exact this
  have hfin := e4 s2 hsl
  have hsvt : SVT s2 (slV v i (pcE s nx i)) := by
    obtain ⟨a2, k2, h2⟩ : ∃ a k m, slV v i (pcE s nx i) = .slice a m k := by
      rw [hvf]
      unfold slV
      cases av with
      | none => exact ⟨_, _, _, rfl⟩
      | some a =>
        simp only
        split
        · exact ⟨_, _, _, rfl⟩
        · exact ⟨_, _, _, rfl⟩
    obtain ⟨m2, h2⟩ := h2
    rw [h2] at hfin ⊢; exact hfin
  refine s_run (by simp only [runL, awant_none, astep, evl, put, ap_none, List.length_nil, Nat.add_zero, undef] <;> rfl) ?_
  refine s_run (by simp only [runL, Option.getD_some, List.getElem?_cons_succ, List.getElem?_cons_zero, awant_none, astep, evl, put, ap_none, List.length_nil, Nat.add_zero, upd_app, stepBin, abin, stepCall, reduceCtorEq, ↓reduceIte, Nat.reduceEqDiff, Option.map_some, i1, l1, w1, hlen, hmn, e1] <;> rfl) ?_
  exact w_ret ⟨.inr rfl, by simp, [], fin_none (by simp [resVal]) hsvt (fun _ _ h => h)⟩

/-- Of each of first: the one behind it. -/
def nxRun (s first : List Nat) : Nat → List Nat
  | 0 => List.replicate s.length 0
  | i + 1 => (nxRun s first i).set (byt first i) (if i + 1 < first.length then byt first (i + 1) else s.length)
def nxL (s first : List Nat) : List Nat := nxRun s first first.length
theorem nxRun_len (s first : List Nat) : ∀ i, (nxRun s first i).length = s.length
  | 0 => by simp [nxRun]
  | i + 1 => by simp [nxRun, nxRun_len s first i]
theorem nxRun_le {s first : List Nat} (hf : ∀ x ∈ first, x < s.length) : ∀ i, i ≤ first.length → ∀ x ∈ nxRun s first i, x ≤ s.length
  | 0, _, x, hx => by simp [nxRun] at hx; omega
  | i + 1, hi, x, hx => by
    rw [nxRun] at hx
    rcases List.mem_or_eq_of_mem_set hx with h | h
    · exact nxRun_le hf i (by omega) x h
    · subst h
      split
      · rename_i h
        have := hf (byt first (i + 1)) (by rw [byt_eq h]; exact List.getElem_mem h)
        omega
      · exact Nat.le_refl _

/-- The names so far, how many there are, and the last place. -/
abbrev NS := List Nat × Nat × Int
def newB (s nx : List Nat) (last : Int) (j : Nat) : Bool := decide (0 ≤ last) && (decide (byt nx j = s.length) || (decide (byt nx last.toNat = s.length) || !decide (pcL s nx last.toNat = pcL s nx j)))
def nmSt (s nx : List Nat) (p : NS) (j : Nat) : NS := if byt nx j = 0 then p else let m := if newB s nx p.2.2 j then p.2.1 + 1 else p.2.1; (p.1.set j m, m, (j : Int))
def nmRun (s nx order : List Nat) : Nat → NS
  | 0 => (List.replicate s.length 0, 0, -1)
  | i + 1 => nmSt s nx (nmRun s nx order i) (byt order i)
theorem nmRun_len (s nx order : List Nat) : ∀ i, (nmRun s nx order i).1.length = s.length
  | 0 => by simp [nmRun]
  | i + 1 => by
    have := nmRun_len s nx order i
    rw [nmRun, nmSt]
    split
    · exact this
    · simp [this]
theorem nmRun_n (s nx order : List Nat) : ∀ i, (nmRun s nx order i).2.1 ≤ i
  | 0 => by simp [nmRun]
  | i + 1 => by
    have := nmRun_n s nx order i
    rw [nmRun, nmSt]
    split
    · omega
    · simp only; split <;> omega
/-- The last place is one of those that were looked at. -/
theorem nmRun_last (s nx order : List Nat) (i : Nat) (hi : i ≤ order.length) : (nmRun s nx order i).2.2 = -1 ∨ ∃ y : Nat, (nmRun s nx order i).2.2 = (y : Int) ∧ y ∈ order ∧ byt nx y ≠ 0 := by
  induction i with
  | zero => exact .inl rfl
  | succ i ih =>
    have := ih (by omega)
    rw [nmRun, nmSt]
    split
    · exact this
    · rename_i h
      exact .inr ⟨byt order i, rfl, by rw [byt_eq (by omega)]; exact List.getElem_mem _, h⟩
theorem nmRun_le {s nx order : List Nat} (i : Nat) : ∀ x ∈ (nmRun s nx order i).1, x ≤ (nmRun s nx order i).2.1 := by
  induction i with
  | zero => intro x hx; simp [nmRun] at hx; simp [nmRun]; omega
  | succ i ih =>
    rw [nmRun, nmSt]
    split
    · exact ih
    · intro x hx
      simp only at hx ⊢
      rcases List.mem_or_eq_of_mem_set hx with h | h
      · have := ih x h; split <;> omega
      · rw [h]; exact Nat.le_refl _
def nmsL (s first order : List Nat) : List Nat := first.map (byt (nmRun s (nxL s first) order order.length).1)
def nmsN (s first order : List Nat) : Nat := (nmRun s (nxL s first) order order.length).2.1 + 1

/-- An answer of a new row and a number. -/
def rnE (l : List Nat) (m : Nat) (r : List Nat) (j : Nat) : Eff := { v := .tuple #[(newE 3 (ints l) r j).v, .int .i64 m], r := r, j := j, a := (newE 3 (ints l) r j).a }

theorem Own.fin_tupleI {s2 : Nat → Prop} {g2 g' : Heap} {n n' : Nat} {v' : Value} {e : TypeId} {l : List Value} {r : List Nat} {j : Nat} {q : Int} (h : Own e g' v' l n n') (hp : ∀ c ∈ l, plain c = true) (hs : ∀ i, s2 i → i < n)
    (hwf : ∀ i b, g2 i = some b → s2 i ∧ ∀ c ∈ b.cells, SV1 s2 c) (hk : Kp n g2 g') :
    ∃ ids, Abs.Fin { v := .tuple #[(newE e l r j).v, .int .i64 q], r := r, j := j, a := (newE e l r j).a } ids s2 g2 n g' (.tuple #[v', .int .i64 q]) := by
  have hold : ∀ i b, g2 i = some b → g' i = some b := fun i b hb => hk.at (hs i (hwf i b hb).1) hb
  obtain ⟨i, h, hi⟩ := h
  rcases h with ⟨_, rfl, h2, h3⟩ | ⟨k, rfl, rfl, h3, h4⟩
  · refine ⟨[], ?_⟩
    rw [newE_nil h2]
    exact fin_plain hs hwf hk rfl (by intro c hc; simp at hc; rcases hc with rfl | rfl <;> trivial)
  · have := hi k rfl
    refine ⟨[k], ?_⟩
    rw [newE_own this.2.2]
    refine fin_one ?_ ?_ this.1 h3 hp hold
    · simp [renT, renA, ren1]
    · intro c hc
      simp at hc
      rcases hc with rfl | rfl
      · exact .inr (.inr rfl)
      · trivial
end Go.Proofs.Ytdpkhijbikbhnaa
