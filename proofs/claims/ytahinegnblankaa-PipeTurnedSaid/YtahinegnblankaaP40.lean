import Derived.Test.YtahinegnblankaaP39
namespace Go.Proofs.Ytahinegnblankaa
open Go Abs
set_option linter.unusedSimpArgs false
set_option linter.unusedVariables false

theorem more_lt {F : List Nat} {c u k r : Nat} (hF : ∀ x ∈ F, x < 256) (h : c < r) : more F c u k < r * 256 ^ k := by
  have h1 : be ((F.drop u).take k) < 256 ^ ((F.drop u).take k).length := be_lt fun x hx => hF x (List.mem_of_mem_drop (List.mem_of_mem_take hx))
  have h2 : 256 ^ ((F.drop u).take k).length ≤ 256 ^ k := Nat.pow_le_pow_right (by omega) (by simp; omega)
  have h3 : (c + 1) * 256 ^ k ≤ r * 256 ^ k := Nat.mul_le_mul_right _ h
  rw [Nat.add_mul, Nat.one_mul] at h3
  unfold more
  omega

/-- Is a span there? -/
def tkO (c r : Nat) (x y z : Int) : Bool := spn x y z && decide (r / z.toNat * x.toNat ≤ c ∧ c < r / z.toNat * (x.toNat + y.toNat))
def tkR1 (r : Nat) (y z : Int) : Nat := r / z.toNat * y.toNat
def tkK (len u r : Nat) (y z : Int) : Nat := min (sh (tkR1 r y z)) (len - u)
def tkB (len u c r : Nat) (x y z : Int) : Bool := tkO c r x y z && decide (sh (tkR1 r y z) ≤ len - u)
def tkU (len u c r : Nat) (x y z : Int) : Nat := if tkO c r x y z then u + tkK len u r y z else u
def tkC (F : List Nat) (u c r : Nat) (x y z : Int) : Nat := if tkO c r x y z then more F (c - r / z.toNat * x.toNat) u (tkK F.length u r y z) else c
def tkR (len u c r : Nat) (x y z : Int) : Nat := if tkO c r x y z then tkR1 r y z * 256 ^ tkK len u r y z else r

/-- The number of a row lies in what is left. -/
def Lies (F N : List Nat) (r : Nat) : Prop := ∃ d, F.length = N.length + d ∧ be N * 256 ^ d ≤ be F ∧ be F < (be N + r) * 256 ^ d
theorem Lies.refl {N : List Nat} {r : Nat} (h : 0 < r) : Lies N N r := ⟨0, by simp, by simp, by simp; omega⟩

structure Enc (N : List Nat) (r : Nat) : Prop where
  b : ∀ x ∈ N, x < 256
  r1 : 2 ^ 24 ≤ r
  r2 : r < 2 ^ 32
  l : 4 ≤ N.length
  o : be N + r ≤ 256 ^ N.length

theorem be_put {N : List Nat} {r lo sz tot : Nat} (e : Enc N r) (ok : PutOk r lo sz tot) : be (putN N r lo sz tot) = (be N + r / tot * lo) * 256 ^ sh (r / tot * sz) := by
  have := ok.le
  have := ok.size
  have := e.o
  rw [putN, be_zeros, addN, be_tob_lt (by omega)]

theorem Enc.put {N : List Nat} {r lo sz tot : Nat} (e : Enc N r) (ok : PutOk r lo sz tot) : Enc (putN N r lo sz tot) (putR r sz tot) := by
  refine ⟨putN_lt, ok.norm.1, ok.norm.2, by rw [putN_len]; have := e.l; omega, ?_⟩
  have h1 := ok.le
  have h2 := e.o
  rw [be_put e ok, putN_len, putR, Nat.pow_add, ← Nat.add_mul]
  exact Nat.mul_le_mul_right _ (by omega)

theorem Enc.start : Enc [0, 0, 0, 0] 4294967295 := ⟨by decide, by omega, by omega, by decide, by decide⟩

theorem Lies.put {F N : List Nat} {r lo sz tot : Nat} (e : Enc N r) (ok : PutOk r lo sz tot) (h : Lies F (putN N r lo sz tot) (putR r sz tot)) : Lies F N r := by
  obtain ⟨d, h1, h2, h3⟩ := h
  rw [be_put e ok] at h2 h3
  rw [putN_len] at h1
  have hle := ok.le
  unfold putR at h3
  generalize sh (r / tot * sz) = k at *
  refine ⟨k + d, by omega, ?_, ?_⟩
  · have a1 : be N * (256 ^ k * 256 ^ d) ≤ (be N + r / tot * lo) * (256 ^ k * 256 ^ d) := Nat.mul_le_mul_right _ (by omega)
    rw [Nat.pow_add]
    rw [Nat.mul_assoc] at h2
    omega
  · rw [← Nat.add_mul, Nat.mul_assoc] at h3
    have a1 : (be N + r / tot * lo + r / tot * sz) * (256 ^ k * 256 ^ d) ≤ (be N + r) * (256 ^ k * 256 ^ d) := Nat.mul_le_mul_right _ (by omega)
    rw [Nat.pow_add]
    omega

theorem be_take {F : List Nat} {n d : Nat} (hF : ∀ x ∈ F, x < 256) (h : F.length = n + d) : be F = be (F.take n) * 256 ^ d + be (F.drop n) ∧ be (F.drop n) < 256 ^ d := by
  have h1 : (F.drop n).length = d := by simp; omega
  have h2 := be_lt (l := F.drop n) fun x hx => hF x (List.mem_of_mem_drop hx)
  rw [h1] at h2
  refine ⟨?_, h2⟩
  have h3 := be_app (F.take n) (F.drop n)
  rw [List.take_append_drop, h1] at h3
  exact h3

/-- What a reader holds: the bytes' number less what was put. -/
theorem back_step {F N : List Nat} {r lo sz tot c : Nat} (hF : ∀ x ∈ F, x < 256) (e : Enc N r) (ok : PutOk r lo sz tot) (h : Lies F (putN N r lo sz tot) (putR r sz tot)) (hc : c + be N = be (F.take N.length)) :
    (r / tot * lo ≤ c ∧ c < r / tot * (lo + sz)) ∧ sh (r / tot * sz) ≤ F.length - N.length ∧ more F (c - r / tot * lo) N.length (sh (r / tot * sz)) + be (putN N r lo sz tot) = be (F.take (putN N r lo sz tot).length) := by
  obtain ⟨d, h1, h2, h3⟩ := h
  rw [putN_len] at h1 ⊢
  rw [be_put e ok] at h2 h3 ⊢
  unfold putR at h3
  generalize sh (r / tot * sz) = k at *
  rw [Nat.mul_add (r / tot)]
  generalize r / tot * lo = ql at *
  generalize r / tot * sz = qs at *
  obtain ⟨a1, a2⟩ := be_take hF (show F.length = N.length + (k + d) by omega)
  rw [← hc] at a1
  rw [← Nat.add_mul] at h3
  rw [Nat.mul_assoc, ← Nat.pow_add] at h2 h3
  generalize hM : 256 ^ (k + d) = M at *
  have g1 : be N + ql ≤ c + be N := by
    apply Nat.le_of_lt_succ
    apply Nat.lt_of_mul_lt_mul_right (a := M)
    rw [Nat.succ_mul]
    omega
  have g2 : c + be N < be N + ql + qs := by
    apply Nat.lt_of_mul_lt_mul_right (a := M)
    omega
  refine ⟨by omega, by omega, ?_⟩
  have e1 : F.take (N.length + k) = F.take N.length ++ (F.drop N.length).take k := List.take_add
  have e2 : ((F.drop N.length).take k).length = k := by simp; omega
  rw [e1, be_app, e2, ← hc]
  unfold more
  have e3 : (c + be N) * 256 ^ k = (c - ql) * 256 ^ k + (be N + ql) * 256 ^ k := by
    rw [← Nat.add_mul]
    congr 1
    omega
  omega

/-- What spans put come to. -/
def encS (ps : List (Int × Int × Int)) : List Nat × Nat := ps.foldl (fun s p => (nxN s.1 s.2 p.1 p.2.1 p.2.2, nxR s.2 p.1 p.2.1 p.2.2)) ([0, 0, 0, 0], 4294967295)
theorem encS_snoc (ps : List (Int × Int × Int)) (p : Int × Int × Int) : encS (ps ++ [p]) = (nxN (encS ps).1 (encS ps).2 p.1 p.2.1 p.2.2, nxR (encS ps).2 p.1 p.2.1 p.2.2) := by simp [encS]
theorem Enc.nx {N : List Nat} {r : Nat} {x y z : Int} (e : Enc N r) : Enc (nxN N r x y z) (nxR r x y z) := by
  unfold nxN nxR
  split
  · rename_i h
    obtain ⟨lo, sz, tot, rfl, rfl, rfl, ok⟩ := spn_ok h e.r1 e.r2
    exact e.put ok
  · exact e
theorem encS_enc (ps : List (Int × Int × Int)) : Enc (encS ps).1 (encS ps).2 := by
  rw [← List.reverse_reverse ps]
  generalize ps.reverse = l
  induction l with
  | nil => exact Enc.start
  | cons p l ih => rw [List.reverse_cons, encS_snoc]; exact ih.nx
theorem encS_len (ps : List (Int × Int × Int)) : (encS ps).1.length ≤ 4 + 2 * ps.length := by
  rw [← List.reverse_reverse ps]
  generalize ps.reverse = l
  induction l with
  | nil => decide
  | cons p l ih =>
    rw [List.reverse_cons, encS_snoc]
    have := (nxN_len (N := (encS l.reverse).1) (r := (encS l.reverse).2) (x := p.1) (y := p.2.1) (z := p.2.2)).2
    simp at ih ⊢
    omega
theorem encS_lies {ps : List (Int × Int × Int)} (h : ∀ p ∈ ps, spn p.1 p.2.1 p.2.2 = true) : ∀ k i, i + k = ps.length → Lies (encS ps).1 (encS (ps.take i)).1 (encS (ps.take i)).2
  | 0, i, hi => by
    rw [List.take_of_length_le (by omega)]
    exact Lies.refl (by have := (encS_enc ps).r1; omega)
  | k + 1, i, hi => by
    have ih := encS_lies h k (i + 1) (by omega)
    have hl : i < ps.length := by omega
    rw [List.take_succ_eq_append_getElem hl, encS_snoc] at ih
    have e := encS_enc (ps.take i)
    have hs := h ps[i] (List.getElem_mem hl)
    unfold nxN nxR at ih
    rw [if_pos hs, if_pos hs] at ih
    obtain ⟨lo, sz, tot, e1, e2, e3, ok⟩ := spn_ok hs e.r1 e.r2
    rw [e1, e2, e3] at ih
    exact ih.put e ok
end Go.Proofs.Ytahinegnblankaa
