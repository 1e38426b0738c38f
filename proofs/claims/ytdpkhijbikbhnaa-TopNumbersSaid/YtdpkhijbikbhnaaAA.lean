import Derived.Test.YtdpkhijbikbhnaaT24
import Derived.Test.YtdpkhijbikbhnaaT29
namespace Go.Proofs.Ytdpkhijbikbhnaa
open Plain
set_option linter.unusedSimpArgs false
set_option linter.unusedVariables false

/- Buckets: how many numbers are less than c. -/
def stB (s : List Nat) (c : Nat) : Nat := s.countP fun x => decide (x < c)
theorem stB_succ (s : List Nat) (c : Nat) : stB s (c + 1) = stB s c + s.count c := by
  induction s with
  | nil => rfl
  | cons x l ih =>
    simp only [stB, List.countP_cons, List.count_cons] at ih ⊢
    rcases Nat.lt_trichotomy x c with h | h | h
    · have h1 : decide (x < c + 1) = true := decide_eq_true (by omega)
      have h2 : decide (x < c) = true := decide_eq_true h
      have h3 : (x == c) = false := by simpa using (by omega : x ≠ c)
      rw [h1, h2, h3]; simp only [if_true, Bool.false_eq_true, if_false]; omega
    · have h1 : decide (x < c + 1) = true := decide_eq_true (by omega)
      have h2 : decide (x < c) = false := decide_eq_false (by omega)
      have h3 : (x == c) = true := by simpa using h
      rw [h1, h2, h3]; simp only [if_true, Bool.false_eq_true, if_false]; omega
    · have h1 : decide (x < c + 1) = false := decide_eq_false (by omega)
      have h2 : decide (x < c) = false := decide_eq_false (by omega)
      have h3 : (x == c) = false := by simpa using (by omega : x ≠ c)
      rw [h1, h2, h3]; simp only [Bool.false_eq_true, if_false]; omega
theorem stB_zero (s : List Nat) : stB s 0 = 0 := by simp [stB]
theorem stB_le (s : List Nat) (c : Nat) : stB s c ≤ s.length := List.countP_le_length
theorem stB_mono {s : List Nat} {c d : Nat} (h : c ≤ d) : stB s c ≤ stB s d := by
  induction d with
  | zero => rw [show c = 0 by omega]; exact Nat.le_refl _
  | succ d ih =>
    by_cases e : c = d + 1
    · rw [e]; exact Nat.le_refl _
    · have := ih (by omega); rw [stB_succ]; omega
theorem stB_top {s : List Nat} {k : Nat} (h : ∀ x ∈ s, x < k) : stB s k = s.length := by
  unfold stB; rw [List.countP_eq_length]; intro x hx; exact decide_eq_true (h x hx)
/-- Buckets lie apart. -/
theorem stB_apart {s : List Nat} {c d p : Nat} (h1 : stB s c ≤ p) (h2 : p < stB s (c + 1)) (h3 : stB s d ≤ p) (h4 : p < stB s (d + 1)) : c = d := by
  rcases Nat.lt_trichotomy c d with h | h | h
  · have := stB_mono (s := s) (show c + 1 ≤ d by omega); omega
  · exact h
  · have := stB_mono (s := s) (show d + 1 ≤ c by omega); omega
theorem sum_cnt_take (s : List Nat) {k c : Nat} (h : c ≤ k) : ((cntL s k).take c).sum = stB s c := by
  induction c with
  | zero => simp [stB_zero]
  | succ c ih =>
    have hlt : c < (cntL s k).length := by rw [cntL_len]; omega
    rw [take_byt hlt, List.sum_append, ih (by omega), cntL_at (by omega), stB_succ]; simp
theorem starts_at (s : List Nat) {k c : Nat} (h : c < k) : byt (startsL (cntL s k)) c = stB s c := by
  rw [startsL_at (by rw [cntL_len]; exact h), sum_cnt_take s (by omega)]
theorem ends_at (s : List Nat) {k c : Nat} (h : c < k) : byt (endsL (cntL s k)) c = stB s (c + 1) := by
  rw [endsL_at (by rw [cntL_len]; exact h), sum_cnt_take s (by omega), cntL_at h, stB_succ]

/-- The places with number c that are large, and those that are small. -/
def lrg (s : List Nat) (c : Nat) : List Nat := (List.range s.length).filter fun j => decide (byt s j = c) && !smB s j
def sml (s : List Nat) (c : Nat) : List Nat := (List.range s.length).filter fun j => decide (byt s j = c) && smB s j
def nLg (s : List Nat) (c : Nat) : Nat := (lrg s c).length
def nSm (s : List Nat) (c : Nat) : Nat := (sml s c).length
theorem mem_lrg {s : List Nat} {c j : Nat} : j ∈ lrg s c ↔ j < s.length ∧ byt s j = c ∧ smB s j = false := by simp [lrg]
theorem mem_sml {s : List Nat} {c j : Nat} : j ∈ sml s c ↔ j < s.length ∧ byt s j = c ∧ smB s j = true := by simp [sml]
theorem map_byt (s : List Nat) : (List.range s.length).map (byt s) = s := by
  apply List.ext_getElem
  · simp
  · intro i h1 h2; simp [byt_eq h2]
theorem filter_split (l : List Nat) (p q : Nat → Bool) : (l.filter fun j => p j && !q j).length + (l.filter fun j => p j && q j).length = l.countP p := by
  induction l with
  | nil => rfl
  | cons x l ih =>
    cases hp : p x <;> cases hq : q x <;> simp [hp, hq] <;> omega
theorem nLg_nSm (s : List Nat) (c : Nat) : nLg s c + nSm s c = s.count c := by
  have h := filter_split (List.range s.length) (fun j => decide (byt s j = c)) (smB s)
  have h2 : s.count c = ((List.range s.length).map (byt s)).count c := by rw [map_byt]
  rw [h2, List.count_eq_countP, List.countP_map]
  rw [nLg, nSm, lrg, sml, h]
  apply List.countP_congr
  intro x _
  simp
theorem st_split (s : List Nat) (c : Nat) : stB s (c + 1) = stB s c + nLg s c + nSm s c := by
  have := nLg_nSm s c; rw [stB_succ]; omega

theorem nodup_sub_len' : ∀ {l m : List Nat}, l.Nodup → (∀ x ∈ l, x ∈ m) → l.length ≤ m.length
  | [], m, _, _ => by simp
  | x :: l, m, hn, hs => by
    rw [List.nodup_cons] at hn
    have hx := hs x (by simp)
    have h1 : ∀ y ∈ l, y ∈ m.erase x := fun y hy => by
      have hne : y ≠ x := fun e => hn.1 (by rw [← e]; exact hy)
      exact (List.mem_erase_of_ne hne).2 (hs y (by simp [hy]))
    have h2 := nodup_sub_len' hn.2 h1
    have h3 := List.length_erase_of_mem hx
    have h4 := List.length_pos_of_mem hx
    simp; omega
theorem perm_of_sub : ∀ {l m : List Nat}, l.Nodup → (∀ x ∈ l, x ∈ m) → m.length ≤ l.length → m.Perm l
  | [], m, _, _, h => by rw [List.eq_nil_of_length_eq_zero (show m.length = 0 by simpa using h)]
  | x :: l, m, hn, hs, h => by
    rw [List.nodup_cons] at hn
    have hx := hs x (by simp)
    have h1 : ∀ y ∈ l, y ∈ m.erase x := fun y hy => by
      have hne : y ≠ x := fun e => hn.1 (by rw [← e]; exact hy)
      exact (List.mem_erase_of_ne hne).2 (hs y (by simp [hy]))
    have h3 := List.length_erase_of_mem hx
    simp at h
    exact (List.perm_cons_erase hx).trans ((perm_of_sub hn.2 h1 (by omega)).cons x)

/-- So many different ones are not more than there are. -/
theorem pigeon {f : Nat → Nat} {m : Nat} {F : List Nat} (hf : ∀ a, a < m → f a ∈ F) (hi : ∀ a b, a < b → b < m → f a ≠ f b) : m ≤ F.length := by
  have hn : ((List.range m).map f).Nodup := by
    rw [List.nodup_iff_pairwise_ne, List.pairwise_map, List.pairwise_iff_getElem]
    intro a b ha hb hab
    simp at ha hb ⊢
    exact hi a b hab hb
  have := nodup_sub_len' hn (m := F) (by
    intro x hx
    obtain ⟨a, ha, rfl⟩ := List.mem_map.1 hx
    exact hf a (by simpa using ha))
  simpa using this
theorem pigeon_lt {f : Nat → Nat} {m : Nat} {F : List Nat} {y : Nat} (hf : ∀ a, a < m → f a ∈ F) (hi : ∀ a b, a < b → b < m → f a ≠ f b) (hy : y ∈ F) (hn : ∀ a, a < m → f a ≠ y) : m < F.length := by
  have := pigeon (f := fun a => if a < m then f a else y) (m := m + 1) (F := F) (by
    intro a ha
    show (if a < m then f a else y) ∈ F
    split
    · rename_i h; exact hf a h
    · exact hy) (by
    intro a b hab hb
    show (if a < m then f a else y) ≠ (if b < m then f b else y)
    rw [if_pos (by omega)]
    split
    · rename_i h; exact hi a b hab h
    · exact hn a (by omega))
  omega

section
variable {s : List Nat}
theorem smB_at {i : Nat} (h : i + 1 < s.length) : smB s i = if byt s i < byt s (i + 1) then true else if byt s (i + 1) < byt s i then false else smB s (i + 1) := by
  unfold smB
  rw [lx_drop (by omega) h, nth_byt, nth_byt]
theorem smB_end {i : Nat} (h : s.length ≤ i + 1) : smB s i = false := by
  unfold smB
  rw [List.drop_eq_nil_of_le (show s.length ≤ i + 1 from h)]
  cases s.drop i <;> rfl
theorem smB_in {i : Nat} (h : smB s i = true) : i + 1 < s.length := by
  apply Classical.byContradiction
  intro hh
  rw [smB_end (by omega)] at h; cases h
theorem smB_eq {i : Nat} (h : i + 1 < s.length) (he : byt s i = byt s (i + 1)) : smB s i = smB s (i + 1) := by
  rw [smB_at h, if_neg (by omega), if_neg (by omega)]
theorem smB_le {i : Nat} (h : smB s i = true) : byt s i ≤ byt s (i + 1) := by
  have h1 := smB_in h
  rw [smB_at h1] at h
  split at h
  · omega
  · split at h
    · cases h
    · omega
theorem smB_ge {i : Nat} (h1 : i + 1 < s.length) (h : smB s i = false) : byt s (i + 1) ≤ byt s i := by
  rw [smB_at h1] at h
  split at h
  · cases h
  · omega
end

/-- A place's word: typed numbers up to the next one that is small, then its rank. -/
def wLf (s : List Nat) (f : Nat → Nat) : Nat → Nat → List Nat
  | 0, _ => []
  | d + 1, i => if smB s i = true then [2 * byt s i + 1, f i] else 2 * byt s i :: wLf s f d (i + 1)
def wL (s : List Nat) (f : Nat → Nat) (i : Nat) : List Nat := wLf s f (s.length - i) i
def wSf (s : List Nat) (f : Nat → Nat) : Nat → Nat → List Nat
  | 0, _ => []
  | d + 1, i => if smB s i = true then (2 * byt s i + 1) :: wSf s f d (i + 1) else wLf s f (d + 1) i
def wS (s : List Nat) (f : Nat → Nat) (i : Nat) : List Nat := wSf s f (s.length - i) i
section
variable {s : List Nat} {f : Nat → Nat} {i : Nat}
theorem wL_end (h : s.length ≤ i) : wL s f i = [] := by unfold wL; rw [show s.length - i = 0 by omega]; rfl
theorem wS_end (h : s.length ≤ i) : wS s f i = [] := by unfold wS; rw [show s.length - i = 0 by omega]; rfl
theorem wL_sm (h : smB s i = true) : wL s f i = [2 * byt s i + 1, f i] := by
  have := smB_in h
  unfold wL; rw [show s.length - i = (s.length - i - 1) + 1 by omega, wLf, if_pos h]
theorem wL_lg (hi : i < s.length) (h : smB s i = false) : wL s f i = 2 * byt s i :: wL s f (i + 1) := by
  unfold wL; rw [show s.length - i = (s.length - (i + 1)) + 1 by omega, wLf, if_neg (by rw [h]; simp)]
theorem wS_sm (h : smB s i = true) : wS s f i = (2 * byt s i + 1) :: wS s f (i + 1) := by
  have := smB_in h
  unfold wS; rw [show s.length - i = (s.length - (i + 1)) + 1 by omega, wSf, if_pos h]
theorem wS_lg (hi : i < s.length) (h : smB s i = false) : wS s f i = wL s f i := by
  unfold wS wL; rw [show s.length - i = (s.length - (i + 1)) + 1 by omega, wSf, if_neg (by rw [h]; simp)]
end
/-- A word begins with the place's number and its kind. -/
def HeadW (s : List Nat) (w : Nat → List Nat) : Prop := ∀ j, j < s.length → ∃ tl, w j = (2 * byt s j + (if smB s j = true then 1 else 0)) :: tl
theorem head_wL (s : List Nat) (f : Nat → Nat) : HeadW s (wL s f) := by
  intro j hj
  cases h : smB s j with
  | true => exact ⟨[f j], by rw [wL_sm h]; simp⟩
  | false => exact ⟨_, by rw [wL_lg hj h]; simp; rfl⟩
theorem head_wS (s : List Nat) (f : Nat → Nat) : HeadW s (wS s f) := by
  intro j hj
  cases h : smB s j with
  | true => exact ⟨_, by rw [wS_sm h]; simp; rfl⟩
  | false => rw [wS_lg hj h]; have := head_wL s f j hj; rwa [h] at this
theorem lx_head {a b : Nat} {l m : List Nat} (h : a < b) : lx (a :: l) (b :: m) = true := by rw [lx, if_pos h]
theorem lx_tail {a b : Nat} {l m : List Nat} (h : a = b) (h2 : lx l m = true) : lx (a :: l) (b :: m) = true := by rw [lx, if_neg (by omega), if_neg (by omega)]; exact h2
theorem HeadW.lt {s : List Nat} {w : Nat → List Nat} (hw : HeadW s w) {i j : Nat} (hi : i < s.length) (hj : j < s.length) (h : byt s i < byt s j ∨ byt s i = byt s j ∧ smB s i = false ∧ smB s j = true) : lx (w i) (w j) = true := by
  obtain ⟨a, ha⟩ := hw i hi
  obtain ⟨b, hb⟩ := hw j hj
  rw [ha, hb]
  refine lx_head ?_
  rcases h with h | ⟨h1, h2, h3⟩
  · split <;> split <;> omega
  · rw [h1, h2, h3]; simp
theorem rowAt_set (P : PS) (e : List Nat) {p x : Nat} {y : Int} (h : p < P.2.length) : rowAt (e, P.2.set p y) x = if x = p then y else rowAt P x := by
  unfold rowAt
  simp only [List.getElem?_set]
  by_cases e : p = x
  · subst e; simp [h]
  · rw [if_neg e, if_neg (fun q => e q.symm)]
theorem byt_set {l : List Nat} {p x y : Nat} (h : p < l.length) : byt (l.set p y) x = if x = p then y else byt l x := by
  unfold byt
  simp only [List.getElem?_set]
  by_cases e : p = x
  · subst e; simp [h]
  · rw [if_neg e, if_neg (fun q => e q.symm)]
theorem byt_ltk {s : List Nat} {k j : Nat} (h : ∀ x ∈ s, x < k) (hj : j < s.length) : byt s j < k := by rw [byt_eq hj]; exact h _ (List.getElem_mem hj)
end Go.Proofs.Ytdpkhijbikbhnaa

namespace Go.Proofs.Ytdpkhijbikbhnaa
open Plain
set_option linter.unusedSimpArgs false
set_option linter.unusedVariables false

/-- The row ahead of the large ones: small ones at the buckets' ends. -/
def SmRow (s : List Nat) (R1 : Nat → Int) : Prop := ∀ x, x < s.length → R1 x = -1 ∨ ∃ j : Nat, j < s.length ∧ R1 x = (j : Int) ∧ smB s j = true ∧ stB s (byt s j) + nLg s (byt s j) ≤ x ∧ x < stB s (byt s j + 1)
/-- The row while the large ones are laid. -/
structure BS (s : List Nat) (k : Nat) (w : Nat → List Nat) (R1 : Nat → Int) (p : PS) : Prop where
  le : p.1.length = k
  lr : p.2.length = s.length
  lo : ∀ c, c < k → stB s c ≤ byt p.1 c
  hi : ∀ c, c < k → byt p.1 c ≤ stB s c + nLg s c
  cell : ∀ c x, c < k → stB s c ≤ x → x < byt p.1 c → ∃ j : Nat, j < s.length ∧ rowAt p x = (j : Int) ∧ byt s j = c ∧ smB s j = false
  old : ∀ x, x < s.length → (∀ c, c < k → ¬ (stB s c ≤ x ∧ x < byt p.1 c)) → rowAt p x = R1 x
  srt : ∀ x y, x < y → y < s.length → ∀ i j : Nat, rowAt p x = (i : Int) → rowAt p y = (j : Int) → lx (w i) (w j) = true

section
variable {s : List Nat} {k : Nat} {w : Nat → List Nat} {R1 : Nat → Int} {p : PS}
theorem BS.info (h : BS s k w R1 p) (hk : ∀ x ∈ s, x < k) (h1 : SmRow s R1) {x : Nat} (hx : x < s.length) : rowAt p x = -1 ∨ ∃ j : Nat, j < s.length ∧ rowAt p x = (j : Int) ∧ stB s (byt s j) ≤ x ∧ x < stB s (byt s j + 1) ∧
    (smB s j = false ∧ x < byt p.1 (byt s j) ∨ smB s j = true ∧ stB s (byt s j) + nLg s (byt s j) ≤ x) := by
  by_cases hc : ∃ c, c < k ∧ stB s c ≤ x ∧ x < byt p.1 c
  · obtain ⟨c, c1, c2, c3⟩ := hc
    obtain ⟨j, j1, j2, j3, j4⟩ := h.cell c x c1 c2 c3
    have h2 := h.hi c c1
    have h3 := st_split s c
    refine .inr ⟨j, j1, j2, ?_, ?_, .inl ⟨j4, ?_⟩⟩ <;> rw [j3] <;> omega
  · rw [h.old x hx (fun c hc' hh => hc ⟨c, hc', hh⟩)]
    rcases h1 x hx with h2 | ⟨j, j1, j2, j3, j4, j5⟩
    · exact .inl h2
    · exact .inr ⟨j, j1, j2, by omega, j5, .inr ⟨j3, j4⟩⟩
theorem BS.uniq (h : BS s k w R1 p) {x y : Nat} (hx : x < s.length) (hy : y < s.length) {i : Nat} (h1 : rowAt p x = (i : Int)) (h2 : rowAt p y = (i : Int)) : x = y := by
  rcases Nat.lt_trichotomy x y with hxy | hxy | hxy
  · have := h.srt x y hxy hy i i h1 h2; rw [lx_irr] at this; cases this
  · exact hxy
  · have := h.srt y x hxy hx i i h2 h1; rw [lx_irr] at this; cases this

/-- One more large one is laid. -/
theorem BS.put (h : BS s k w R1 p) (hk : ∀ x ∈ s, x < k) (hw : HeadW s w) (h1 : SmRow s R1) {j : Nat} (hj : j < s.length) (hL : smB s j = false)
    (hs : ∀ x, stB s (byt s j) ≤ x → x < byt p.1 (byt s j) → ∀ i : Nat, rowAt p x = (i : Int) → lx (w i) (w j) = true) :
    BS s k w R1 (lg1 s p j) ∧ lgOk s p j ∧ (∀ d, byt (lg1 s p j).1 d = if d = byt s j then byt p.1 (byt s j) + 1 else byt p.1 d) ∧ (∀ x, rowAt (lg1 s p j) x = if x = byt p.1 (byt s j) then (j : Int) else rowAt p x) ∧ byt p.1 (byt s j) < stB s (byt s j) + nLg s (byt s j) := by
  have hck : byt s j < k := byt_ltk hk hj
  obtain ⟨c, hc⟩ : ∃ c, byt s j = c := ⟨_, rfl⟩
  have hlo := h.lo c (by omega)
  have hhi := h.hi c (by omega)
  have hsp := st_split s c
  have hn : stB s (c + 1) ≤ s.length := stB_le s _
  have hlt : byt p.1 c - stB s c < nLg s c := by
    refine pigeon_lt (f := fun a => (rowAt p (stB s c + a)).toNat) (F := lrg s c) (y := j) (fun a ha => ?_) (fun a b hab hb => ?_) (mem_lrg.2 ⟨hj, hc, hL⟩) (fun a ha => ?_)
    · obtain ⟨i, i1, i2, i3, i4⟩ := h.cell c (stB s c + a) (by omega) (by omega) (by omega)
      show (rowAt p (stB s c + a)).toNat ∈ _
      rw [i2, Int.toNat_natCast]; exact mem_lrg.2 ⟨i1, i3, i4⟩
    · obtain ⟨i, i1, i2, i3, i4⟩ := h.cell c (stB s c + a) (by omega) (by omega) (by omega)
      obtain ⟨i', i1', i2', i3', i4'⟩ := h.cell c (stB s c + b) (by omega) (by omega) (by omega)
      show (rowAt p (stB s c + a)).toNat ≠ (rowAt p (stB s c + b)).toNat
      rw [i2, i2', Int.toNat_natCast, Int.toNat_natCast]
      rintro rfl
      have := h.uniq (show stB s c + a < s.length by omega) (show stB s c + b < s.length by omega) i2 i2'
      omega
    · obtain ⟨i, i1, i2, i3, i4⟩ := h.cell c (stB s c + a) (by omega) (by omega) (by omega)
      show (rowAt p (stB s c + a)).toNat ≠ j
      rw [i2, Int.toNat_natCast]
      rintro rfl
      have := hs (stB s c + a) (by rw [hc]; omega) (by rw [hc]; omega) i i2
      rw [lx_irr] at this; cases this
  have hE : ∀ d, byt (lg1 s p j).1 d = if d = byt s j then byt p.1 (byt s j) + 1 else byt p.1 d := fun d => by
    show byt (p.1.set (byt s j) (byt p.1 (byt s j) + 1)) d = _
    exact byt_set (by rw [h.le, hc]; omega)
  have hR : ∀ x, rowAt (lg1 s p j) x = if x = byt p.1 (byt s j) then (j : Int) else rowAt p x := fun x => by
    show rowAt (_, p.2.set (byt p.1 (byt s j)) (j : Int)) x = _
    exact rowAt_set p _ (by rw [h.lr, hc]; omega)
  refine ⟨?_, ⟨hj, by rw [h.le]; exact hck, by rw [h.lr, hc]; omega⟩, hE, hR, by rw [hc]; omega⟩
  rw [hc] at hE hR
  obtain ⟨E, hEE⟩ : ∃ E, byt p.1 c = E := ⟨_, rfl⟩
  have hnot : ∀ d x, d < k → stB s d ≤ x → x < byt p.1 d → x ≠ E := fun d x hd h2 h3 he => by
    have h4 := h.hi d hd
    have h5 := st_split s d
    have := stB_apart (s := s) (c := d) (d := c) (p := x) h2 (by omega) (by omega) (by omega)
    subst this; omega
  rw [hEE] at hE hR hlo hhi hlt
  refine ⟨by simp [lg1, layS, h.le], by simp [lg1, laySr, h.lr], fun d hd => ?_, fun d hd => ?_, fun d x hd h2 h3 => ?_, fun x hx hh => ?_, fun x y hxy hy a b ha hb => ?_⟩
  · rw [hE]; split
    · rename_i e; subst e; omega
    · exact h.lo d hd
  · rw [hE]; split
    · rename_i e; subst e; omega
    · exact h.hi d hd
  · rw [hE] at h3
    rw [hR]
    by_cases e : d = c
    · subst e
      rw [if_pos rfl] at h3
      by_cases e2 : x = E
      · rw [if_pos e2]; exact ⟨j, hj, rfl, hc, hL⟩
      · rw [if_neg e2]; exact h.cell d x hd h2 (by omega)
    · rw [if_neg e] at h3
      rw [if_neg (hnot d x hd h2 h3)]
      exact h.cell d x hd h2 h3
  · have hxE : x ≠ E := fun e => hh c (by omega) ⟨by omega, by rw [hE, if_pos rfl]; omega⟩
    rw [hR, if_neg hxE]
    refine h.old x hx fun d hd h2 => hh d hd ⟨h2.1, ?_⟩
    rw [hE]; split
    · rename_i e; subst e; omega
    · exact h2.2
  · rw [hR] at ha hb
    by_cases ex : x = E
    · rw [if_pos ex] at ha
      rw [if_neg (show ¬ y = E by omega)] at hb
      obtain rfl : j = a := by omega
      rcases h.info hk h1 hy with h2 | ⟨i, i1, i2, i3, i4, i5⟩
      · omega
      · obtain rfl : i = b := by omega
        refine hw.lt hj i1 ?_
        rcases Nat.lt_trichotomy (byt s i) c with h4 | h4 | h4
        · have := stB_mono (s := s) (show byt s i + 1 ≤ c by omega); omega
        · rcases i5 with ⟨i6, i7⟩ | ⟨i6, i7⟩
          · rw [h4, hEE] at i7; omega
          · exact .inr ⟨by omega, hL, i6⟩
        · exact .inl (by omega)
    · rw [if_neg ex] at ha
      by_cases ey : y = E
      · rw [if_pos ey] at hb
        obtain rfl : j = b := by omega
        rcases h.info hk h1 (show x < s.length by omega) with h2 | ⟨i, i1, i2, i3, i4, i5⟩
        · omega
        · obtain rfl : i = a := by omega
          rcases Nat.lt_trichotomy (byt s i) c with h4 | h4 | h4
          · exact hw.lt i1 hj (.inl (by omega))
          · rcases i5 with ⟨i6, i7⟩ | ⟨i6, i7⟩
            · exact hs x (by rw [hc]; rw [h4] at i3; exact i3) (by rw [hc, hEE]; omega) i i2
            · rw [h4] at i7; omega
          · have := stB_mono (s := s) (show c + 1 ≤ byt s i by omega); omega
      · rw [if_neg ey] at hb
        exact h.srt x y hxy hy a b ha hb
end

/-- i places of the row have been looked at. -/
structure LS (s : List Nat) (k : Nat) (f : Nat → Nat) (R1 : Nat → Int) (i : Nat) (p : PS) : Prop where
  base : BS s k (wL s f) R1 p
  due : ∀ c x, c < k → stB s c ≤ x → x < byt p.1 c → ∀ j : Nat, rowAt p x = (j : Int) → j + 1 = s.length ∨ ∃ y, y < i ∧ y < s.length ∧ rowAt p y = ((j + 1 : Nat) : Int)
  all : ∀ j, j < s.length → smB s j = false → (j + 1 = s.length ∨ ∃ y, y < i ∧ y < s.length ∧ rowAt p y = ((j + 1 : Nat) : Int)) → ∃ x, stB s (byt s j) ≤ x ∧ x < byt p.1 (byt s j) ∧ rowAt p x = (j : Int)
section
variable {s : List Nat} {k : Nat} {f : Nat → Nat} {R1 : Nat → Int} {p : PS} {i : Nat}
theorem lg_none (h : LS s k f R1 i p) (hn : ∀ j : Nat, smB s j = false → rowAt p i ≠ ((j + 1 : Nat) : Int)) : LS s k f R1 (i + 1) p := by
  refine ⟨h.base, fun c x h1 h2 h3 j hj => ?_, fun j hj hL hd => h.all j hj hL ?_⟩
  · rcases h.due c x h1 h2 h3 j hj with h4 | ⟨y, y1, y2, y3⟩
    · exact .inl h4
    · exact .inr ⟨y, by omega, y2, y3⟩
  · rcases hd with h4 | ⟨y, y1, y2, y3⟩
    · exact .inl h4
    · by_cases e : y = i
      · subst e; exact absurd y3 (hn j hL)
      · exact .inr ⟨y, by omega, y2, y3⟩
theorem LS.step (h : LS s k f R1 i p) (hk : ∀ x ∈ s, x < k) (h1 : SmRow s R1) (hi : i < s.length) :
    (0 < rowAt p i → (rowAt p i).toNat - 1 < s.length ∧ (smB s ((rowAt p i).toNat - 1) = false → lgOk s p ((rowAt p i).toNat - 1))) ∧ LS s k f R1 (i + 1) (lgSt s p i) := by
  have hb := h.base
  by_cases h0 : 0 < rowAt p i
  · obtain ⟨j, hj⟩ : ∃ j : Nat, rowAt p i = ((j + 1 : Nat) : Int) := ⟨(rowAt p i).toNat - 1, by omega⟩
    have hjt : (rowAt p i).toNat - 1 = j := by omega
    rcases hb.info hk h1 hi with h2 | ⟨j', i1, i2, i3, i4, i5⟩
    · omega
    obtain rfl : j' = j + 1 := by omega
    rw [hjt]
    cases hs : smB s j with
    | true =>
      refine ⟨fun _ => ⟨by omega, fun e => by cases e⟩, ?_⟩
      rw [lgSt, hjt, hs, if_neg (by simp)]
      exact lg_none h fun j2 hL e => by
        obtain rfl : j2 = j := by omega
        rw [hs] at hL; cases hL
    | false =>
      have hwj : wL s f j = 2 * byt s j :: wL s f (j + 1) := wL_lg (by omega) hs
      obtain ⟨q1, q2, q3, q4, q5⟩ := hb.put hk (head_wL s f) h1 (show j < s.length by omega) hs (fun x x1 x2 a ha => by
        obtain ⟨a', a1, a2, a3, a4⟩ := hb.cell _ x (byt_ltk hk (by omega)) x1 x2
        obtain rfl : a' = a := by omega
        rw [wL_lg a1 a4, hwj]
        refine lx_tail (by omega) ?_
        rcases h.due _ x (byt_ltk hk (by omega)) x1 x2 a' ha with h4 | ⟨y, y1, y2, y3⟩
        · rw [wL_end (by omega)]
          obtain ⟨tl, ht⟩ := head_wL s f (j + 1) i1
          rw [ht]; rfl
        · exact hb.srt y i (by omega) hi _ _ y3 hj)
      have hpos : i < byt p.1 (byt s j) := by
        have h5 := smB_ge i1 hs
        have h6 := hb.lo (byt s j) (byt_ltk hk (by omega))
        by_cases e : byt s (j + 1) = byt s j
        · have h7 := smB_eq i1 e.symm
          rw [hs] at h7
          rcases i5 with ⟨_, i7⟩ | ⟨i6, _⟩
          · rw [e] at i7; exact i7
          · rw [i6] at h7; cases h7
        · have := stB_mono (s := s) (show byt s (j + 1) + 1 ≤ byt s j by omega); omega
      refine ⟨fun _ => ⟨by omega, fun _ => q2⟩, ?_⟩
      rw [lgSt, hjt, hs, if_pos ⟨h0, rfl⟩]
      obtain ⟨E, hE⟩ : ∃ E, byt p.1 (byt s j) = E := ⟨_, rfl⟩
      rw [hE] at q3 q4 q5 hpos
      have hkeep : ∀ y, y ≤ i → rowAt (lg1 s p j) y = rowAt p y := fun y hy => by rw [q4, if_neg (by omega)]
      refine ⟨q1, fun c x c1 c2 c3 a ha => ?_, fun a ha hL hd => ?_⟩
      · rw [q3] at c3
        rw [q4] at ha
        by_cases ex : x = E
        · rw [if_pos ex] at ha
          obtain rfl : j = a := by omega
          exact .inr ⟨i, by omega, hi, by rw [hkeep i (Nat.le_refl _)]; exact hj⟩
        · rw [if_neg ex] at ha
          have c4 : x < byt p.1 c := by
            split at c3
            · rename_i e; subst e; rw [hE]; omega
            · exact c3
          rcases h.due c x c1 c2 c4 a ha with h4 | ⟨y, y1, y2, y3⟩
          · exact .inl h4
          · exact .inr ⟨y, by omega, y2, by rw [hkeep y (by omega)]; exact y3⟩
      · have old : (a + 1 = s.length ∨ ∃ y, y < i ∧ y < s.length ∧ rowAt p y = ((a + 1 : Nat) : Int)) → ∃ x, stB s (byt s a) ≤ x ∧ x < byt (lg1 s p j).1 (byt s a) ∧ rowAt (lg1 s p j) x = (a : Int) := fun hd => by
          obtain ⟨x, x1, x2, x3⟩ := h.all a ha hL hd
          have hak := byt_ltk hk ha
          have hxE : x ≠ E := fun e => by
            have h4 := hb.hi _ hak
            have h5 := st_split s (byt s a)
            have h6 := st_split s (byt s j)
            have h7 := hb.lo _ (byt_ltk hk (show j < s.length by omega))
            have := stB_apart (s := s) (c := byt s a) (d := byt s j) (p := x) x1 (by omega) (by omega) (by omega)
            rw [this, hE] at x2; omega
          refine ⟨x, x1, ?_, by rw [q4, if_neg hxE]; exact x3⟩
          rw [q3]; split
          · rename_i e; rw [e, hE] at x2; omega
          · exact x2
        rcases hd with h4 | ⟨y, y1, y2, y3⟩
        · exact old (.inl h4)
        · rw [hkeep y (by omega)] at y3
          by_cases e : y = i
          · subst e
            obtain rfl : a = j := by omega
            exact ⟨E, by have := hb.lo _ (byt_ltk hk ha); omega, by rw [q3, if_pos rfl]; omega, by rw [q4, if_pos rfl]⟩
          · exact old (.inr ⟨y, by omega, y2, y3⟩)
  · refine ⟨fun h => absurd h h0, ?_⟩
    rw [lgSt, if_neg (fun q => h0 q.1)]
    exact lg_none h fun j _ e => by omega
end
end Go.Proofs.Ytdpkhijbikbhnaa

namespace Go.Proofs.Ytdpkhijbikbhnaa
open Plain
set_option linter.unusedSimpArgs false
set_option linter.unusedVariables false

/-- The row ahead of the small ones: large ones at the buckets' starts. -/
def LgRow (s : List Nat) (R0 : Nat → Int) : Prop := ∀ x, x < s.length → R0 x = -1 ∨ ∃ j : Nat, j < s.length ∧ R0 x = (j : Int) ∧ smB s j = false ∧ stB s (byt s j) ≤ x ∧ x < stB s (byt s j) + nLg s (byt s j)
/-- The row while small ones are laid, from the buckets' ends on. -/
structure BE (s : List Nat) (k : Nat) (w : Nat → List Nat) (R0 : Nat → Int) (p : PS) : Prop where
  le : p.1.length = k
  lr : p.2.length = s.length
  lo : ∀ c, c < k → stB s c + nLg s c ≤ byt p.1 c
  hi : ∀ c, c < k → byt p.1 c ≤ stB s (c + 1)
  cell : ∀ c x, c < k → byt p.1 c ≤ x → x < stB s (c + 1) → ∃ j : Nat, j < s.length ∧ rowAt p x = (j : Int) ∧ byt s j = c ∧ smB s j = true
  old : ∀ x, x < s.length → (∀ c, c < k → ¬ (byt p.1 c ≤ x ∧ x < stB s (c + 1))) → rowAt p x = R0 x
  srt : ∀ x y, x < y → y < s.length → ∀ i j : Nat, rowAt p x = (i : Int) → rowAt p y = (j : Int) → lx (w i) (w j) = true

section
variable {s : List Nat} {k : Nat} {w : Nat → List Nat} {R0 : Nat → Int} {p : PS}
theorem BE.info (h : BE s k w R0 p) (hk : ∀ x ∈ s, x < k) (h1 : LgRow s R0) {x : Nat} (hx : x < s.length) : rowAt p x = -1 ∨ ∃ j : Nat, j < s.length ∧ rowAt p x = (j : Int) ∧ stB s (byt s j) ≤ x ∧ x < stB s (byt s j + 1) ∧
    (smB s j = true ∧ byt p.1 (byt s j) ≤ x ∨ smB s j = false ∧ x < stB s (byt s j) + nLg s (byt s j)) := by
  by_cases hc : ∃ c, c < k ∧ byt p.1 c ≤ x ∧ x < stB s (c + 1)
  · obtain ⟨c, c1, c2, c3⟩ := hc
    obtain ⟨j, j1, j2, j3, j4⟩ := h.cell c x c1 c2 c3
    have h2 := h.lo c c1
    refine .inr ⟨j, j1, j2, ?_, ?_, .inl ⟨j4, ?_⟩⟩ <;> rw [j3] <;> omega
  · rw [h.old x hx (fun c hc' hh => hc ⟨c, hc', hh⟩)]
    rcases h1 x hx with h2 | ⟨j, j1, j2, j3, j4, j5⟩
    · exact .inl h2
    · exact .inr ⟨j, j1, j2, j4, by have := st_split s (byt s j); omega, .inr ⟨j3, j5⟩⟩
theorem BE.uniq (h : BE s k w R0 p) {x y : Nat} (hx : x < s.length) (hy : y < s.length) {i : Nat} (h1 : rowAt p x = (i : Int)) (h2 : rowAt p y = (i : Int)) : x = y := by
  rcases Nat.lt_trichotomy x y with hxy | hxy | hxy
  · have := h.srt x y hxy hy i i h1 h2; rw [lx_irr] at this; cases this
  · exact hxy
  · have := h.srt y x hxy hx i i h2 h1; rw [lx_irr] at this; cases this

/-- One more small one is laid. -/
theorem BE.put (h : BE s k w R0 p) (hk : ∀ x ∈ s, x < k) (hw : HeadW s w) (h1 : LgRow s R0) {j : Nat} (hj : j < s.length) (hL : smB s j = true)
    (hs : ∀ x, byt p.1 (byt s j) ≤ x → x < stB s (byt s j + 1) → ∀ i : Nat, rowAt p x = (i : Int) → lx (w j) (w i) = true) :
    BE s k w R0 (le1 s p j) ∧ leOk s p j ∧ (∀ d, byt (le1 s p j).1 d = if d = byt s j then byt p.1 (byt s j) - 1 else byt p.1 d) ∧ (∀ x, rowAt (le1 s p j) x = if x = byt p.1 (byt s j) - 1 then (j : Int) else rowAt p x) ∧ stB s (byt s j) + nLg s (byt s j) < byt p.1 (byt s j) := by
  have hck : byt s j < k := byt_ltk hk hj
  obtain ⟨c, hc⟩ : ∃ c, byt s j = c := ⟨_, rfl⟩
  have hlo := h.lo c (by omega)
  have hhi := h.hi c (by omega)
  have hsp := st_split s c
  have hn : stB s (c + 1) ≤ s.length := stB_le s _
  have hlt : stB s (c + 1) - byt p.1 c < nSm s c := by
    refine pigeon_lt (f := fun a => (rowAt p (byt p.1 c + a)).toNat) (F := sml s c) (y := j) (fun a ha => ?_) (fun a b hab hb => ?_) (mem_sml.2 ⟨hj, hc, hL⟩) (fun a ha => ?_)
    · obtain ⟨i, i1, i2, i3, i4⟩ := h.cell c (byt p.1 c + a) (by omega) (by omega) (by omega)
      show (rowAt p (byt p.1 c + a)).toNat ∈ _
      rw [i2, Int.toNat_natCast]; exact mem_sml.2 ⟨i1, i3, i4⟩
    · obtain ⟨i, i1, i2, i3, i4⟩ := h.cell c (byt p.1 c + a) (by omega) (by omega) (by omega)
      obtain ⟨i', i1', i2', i3', i4'⟩ := h.cell c (byt p.1 c + b) (by omega) (by omega) (by omega)
      show (rowAt p (byt p.1 c + a)).toNat ≠ (rowAt p (byt p.1 c + b)).toNat
      rw [i2, i2', Int.toNat_natCast, Int.toNat_natCast]
      rintro rfl
      have := h.uniq (show byt p.1 c + a < s.length by omega) (show byt p.1 c + b < s.length by omega) i2 i2'
      omega
    · obtain ⟨i, i1, i2, i3, i4⟩ := h.cell c (byt p.1 c + a) (by omega) (by omega) (by omega)
      show (rowAt p (byt p.1 c + a)).toNat ≠ j
      rw [i2, Int.toNat_natCast]
      rintro rfl
      have := hs (byt p.1 c + a) (by rw [hc]; omega) (by rw [hc]; omega) i i2
      rw [lx_irr] at this; cases this
  have hE : ∀ d, byt (le1 s p j).1 d = if d = byt s j then byt p.1 (byt s j) - 1 else byt p.1 d := fun d => by
    show byt (p.1.set (byt s j) (byt p.1 (byt s j) - 1)) d = _
    exact byt_set (by rw [h.le, hc]; omega)
  have hR : ∀ x, rowAt (le1 s p j) x = if x = byt p.1 (byt s j) - 1 then (j : Int) else rowAt p x := fun x => by
    show rowAt (_, p.2.set (byt p.1 (byt s j) - 1) (j : Int)) x = _
    exact rowAt_set p _ (by rw [h.lr, hc]; omega)
  refine ⟨?_, ⟨hj, by rw [h.le]; exact hck, by rw [hc]; omega, by rw [h.lr, hc]; omega⟩, hE, hR, by rw [hc]; omega⟩
  rw [hc] at hE hR
  obtain ⟨E, hEE⟩ : ∃ E, byt p.1 c = E + 1 := ⟨byt p.1 c - 1, by omega⟩
  have hnot : ∀ d x, d < k → byt p.1 d ≤ x → x < stB s (d + 1) → x ≠ E := fun d x hd h2 h3 he => by
    have h4 := h.lo d hd
    have := stB_apart (s := s) (c := d) (d := c) (p := x) (by omega) h3 (by omega) (by omega)
    subst this; omega
  rw [hEE] at hE hR hlo hhi hlt
  rw [show E + 1 - 1 = E by omega] at hE hR
  refine ⟨by simp [le1, layE, h.le], by simp [le1, layEr, h.lr], fun d hd => ?_, fun d hd => ?_, fun d x hd h2 h3 => ?_, fun x hx hh => ?_, fun x y hxy hy a b ha hb => ?_⟩
  · rw [hE]; split
    · rename_i e; subst e; omega
    · exact h.lo d hd
  · rw [hE]; split
    · rename_i e; subst e; omega
    · exact h.hi d hd
  · rw [hE] at h2
    rw [hR]
    by_cases e : d = c
    · subst e
      rw [if_pos rfl] at h2
      by_cases e2 : x = E
      · rw [if_pos e2]; exact ⟨j, hj, rfl, hc, hL⟩
      · rw [if_neg e2]; exact h.cell d x hd (by omega) h3
    · rw [if_neg e] at h2
      rw [if_neg (hnot d x hd h2 h3)]
      exact h.cell d x hd h2 h3
  · have hxE : x ≠ E := fun e => hh c (by omega) ⟨by rw [hE, if_pos rfl]; omega, by omega⟩
    rw [hR, if_neg hxE]
    refine h.old x hx fun d hd h2 => hh d hd ⟨?_, h2.2⟩
    rw [hE]; split
    · rename_i e; subst e; omega
    · exact h2.1
  · rw [hR] at ha hb
    by_cases ex : x = E
    · rw [if_pos ex] at ha
      rw [if_neg (show ¬ y = E by omega)] at hb
      obtain rfl : j = a := by omega
      rcases h.info hk h1 hy with h2 | ⟨i, i1, i2, i3, i4, i5⟩
      · omega
      · obtain rfl : i = b := by omega
        rcases Nat.lt_trichotomy (byt s i) c with h4 | h4 | h4
        · have := stB_mono (s := s) (show byt s i + 1 ≤ c by omega); omega
        · rcases i5 with ⟨i6, i7⟩ | ⟨i6, i7⟩
          · exact hs y (by rw [hc]; rw [h4] at i7; exact i7) (by rw [hc]; rw [h4] at i4; exact i4) i i2
          · rw [h4] at i7; omega
        · exact hw.lt hj i1 (.inl (by omega))
    · rw [if_neg ex] at ha
      by_cases ey : y = E
      · rw [if_pos ey] at hb
        obtain rfl : j = b := by omega
        rcases h.info hk h1 (show x < s.length by omega) with h2 | ⟨i, i1, i2, i3, i4, i5⟩
        · omega
        · obtain rfl : i = a := by omega
          refine hw.lt i1 hj ?_
          rcases Nat.lt_trichotomy (byt s i) c with h4 | h4 | h4
          · exact .inl (by omega)
          · rcases i5 with ⟨i6, i7⟩ | ⟨i6, i7⟩
            · rw [h4, hEE] at i7; omega
            · exact .inr ⟨by omega, i6, hL⟩
          · have := stB_mono (s := s) (show c + 1 ≤ byt s i by omega); omega
      · rw [if_neg ey] at hb
        exact h.srt x y hxy hy a b ha hb
end

/-- The places from i on have been looked at. -/
structure SS (s : List Nat) (k : Nat) (f : Nat → Nat) (R0 : Nat → Int) (i : Nat) (p : PS) : Prop where
  base : BE s k (wS s f) R0 p
  due : ∀ c x, c < k → byt p.1 c ≤ x → x < stB s (c + 1) → ∀ j : Nat, rowAt p x = (j : Int) → ∃ y, i ≤ y ∧ y < s.length ∧ rowAt p y = ((j + 1 : Nat) : Int)
  all : ∀ j, j < s.length → smB s j = true → (∃ y, i ≤ y ∧ y < s.length ∧ rowAt p y = ((j + 1 : Nat) : Int)) → ∃ x, byt p.1 (byt s j) ≤ x ∧ x < stB s (byt s j + 1) ∧ rowAt p x = (j : Int)
section
variable {s : List Nat} {k : Nat} {f : Nat → Nat} {R0 : Nat → Int} {p : PS} {i : Nat}
theorem sm_none (h : SS s k f R0 (i + 1) p) (hn : ∀ j : Nat, smB s j = true → rowAt p i ≠ ((j + 1 : Nat) : Int)) : SS s k f R0 i p := by
  refine ⟨h.base, fun c x h1 h2 h3 j hj => ?_, fun j hj hL hd => h.all j hj hL ?_⟩
  · obtain ⟨y, y1, y2, y3⟩ := h.due c x h1 h2 h3 j hj
    exact ⟨y, by omega, y2, y3⟩
  · obtain ⟨y, y1, y2, y3⟩ := hd
    by_cases e : y = i
    · subst e; exact absurd y3 (hn j hL)
    · exact ⟨y, by omega, y2, y3⟩
theorem SS.step (h : SS s k f R0 (i + 1) p) (hk : ∀ x ∈ s, x < k) (h1 : LgRow s R0) (hi : i < s.length) :
    (0 < rowAt p i → (rowAt p i).toNat - 1 < s.length ∧ (smB s ((rowAt p i).toNat - 1) = true → leOk s p ((rowAt p i).toNat - 1))) ∧ SS s k f R0 i (smSt s p i) := by
  have hb := h.base
  by_cases h0 : 0 < rowAt p i
  · obtain ⟨j, hj⟩ : ∃ j : Nat, rowAt p i = ((j + 1 : Nat) : Int) := ⟨(rowAt p i).toNat - 1, by omega⟩
    have hjt : (rowAt p i).toNat - 1 = j := by omega
    rcases hb.info hk h1 hi with h2 | ⟨j', i1, i2, i3, i4, i5⟩
    · omega
    obtain rfl : j' = j + 1 := by omega
    rw [hjt]
    cases hs : smB s j with
    | false =>
      refine ⟨fun _ => ⟨by omega, fun e => by cases e⟩, ?_⟩
      rw [smSt, hjt, hs, if_neg (by simp)]
      exact sm_none h fun j2 hL e => by
        obtain rfl : j2 = j := by omega
        rw [hs] at hL; cases hL
    | true =>
      have hwj : wS s f j = (2 * byt s j + 1) :: wS s f (j + 1) := wS_sm hs
      obtain ⟨q1, q2, q3, q4, q5⟩ := hb.put hk (head_wS s f) h1 (show j < s.length by omega) hs (fun x x1 x2 a ha => by
        obtain ⟨a', a1, a2, a3, a4⟩ := hb.cell _ x (byt_ltk hk (by omega)) x1 x2
        obtain rfl : a' = a := by omega
        rw [wS_sm a4, hwj]
        refine lx_tail (by omega) ?_
        obtain ⟨y, y1, y2, y3⟩ := h.due _ x (byt_ltk hk (by omega)) x1 x2 a' ha
        exact hb.srt i y (by omega) y2 _ _ hj y3)
      have hpos : byt p.1 (byt s j) - 1 < i := by
        have h5 := smB_le hs
        have h6 := hb.hi (byt s j) (byt_ltk hk (by omega))
        by_cases e : byt s (j + 1) = byt s j
        · have h7 := smB_eq i1 e.symm
          rw [hs] at h7
          rcases i5 with ⟨_, i7⟩ | ⟨i6, _⟩
          · rw [e] at i7; omega
          · rw [i6] at h7; cases h7
        · have := stB_mono (s := s) (show byt s j + 1 ≤ byt s (j + 1) by omega); omega
      refine ⟨fun _ => ⟨by omega, fun _ => q2⟩, ?_⟩
      rw [smSt, hjt, hs, if_pos ⟨h0, rfl⟩]
      obtain ⟨E, hE⟩ : ∃ E, byt p.1 (byt s j) = E + 1 := ⟨byt p.1 (byt s j) - 1, by omega⟩
      rw [hE] at q3 q4 q5 hpos
      rw [show E + 1 - 1 = E by omega] at q3 q4 hpos
      have hkeep : ∀ y, i ≤ y → rowAt (le1 s p j) y = rowAt p y := fun y hy => by rw [q4, if_neg (by omega)]
      refine ⟨q1, fun c x c1 c2 c3 a ha => ?_, fun a ha hL hd => ?_⟩
      · rw [q3] at c2
        rw [q4] at ha
        by_cases ex : x = E
        · rw [if_pos ex] at ha
          obtain rfl : j = a := by omega
          exact ⟨i, Nat.le_refl _, hi, by rw [hkeep i (Nat.le_refl _)]; exact hj⟩
        · rw [if_neg ex] at ha
          have c4 : byt p.1 c ≤ x := by
            split at c2
            · rename_i e; subst e; rw [hE]; omega
            · exact c2
          obtain ⟨y, y1, y2, y3⟩ := h.due c x c1 c4 c3 a ha
          exact ⟨y, by omega, y2, by rw [hkeep y (by omega)]; exact y3⟩
      · obtain ⟨y, y1, y2, y3⟩ := hd
        rw [hkeep y (by omega)] at y3
        by_cases e : y = i
        · subst e
          obtain rfl : a = j := by omega
          exact ⟨E, by rw [q3, if_pos rfl]; omega, by have := hb.hi _ (byt_ltk hk ha); omega, by rw [q4, if_pos rfl]⟩
        · obtain ⟨x, x1, x2, x3⟩ := h.all a ha hL ⟨y, by omega, y2, y3⟩
          have hak := byt_ltk hk ha
          have hxE : x ≠ E := fun e => by
            have h4 := hb.lo _ hak
            have h6 := st_split s (byt s j)
            have h7 := hb.hi _ (byt_ltk hk (show j < s.length by omega))
            have := stB_apart (s := s) (c := byt s a) (d := byt s j) (p := x) (by omega) x2 (by omega) (by omega)
            rw [this, hE] at x1; omega
          refine ⟨x, ?_, x2, by rw [q4, if_neg hxE]; exact x3⟩
          rw [q3]; split
          · rename_i e; rw [e, hE] at x1; omega
          · exact x1
  · refine ⟨fun h => absurd h h0, ?_⟩
    rw [smSt, if_neg (fun q => h0 q.1)]
    exact sm_none h fun j _ e => by omega
end
end Go.Proofs.Ytdpkhijbikbhnaa

namespace Go.Proofs.Ytdpkhijbikbhnaa
open Plain
set_option linter.unusedSimpArgs false
set_option linter.unusedVariables false

theorem perm_of_subI : ∀ {l m : List Int}, l.Nodup → (∀ x ∈ l, x ∈ m) → m.length ≤ l.length → m.Perm l
  | [], m, _, _, h => by rw [List.eq_nil_of_length_eq_zero (show m.length = 0 by simpa using h)]
  | x :: l, m, hn, hs, h => by
    rw [List.nodup_cons] at hn
    have hx := hs x (by simp)
    have h1 : ∀ y ∈ l, y ∈ m.erase x := fun y hy => by
      have hne : y ≠ x := fun e => hn.1 (by rw [← e]; exact hy)
      exact (List.mem_erase_of_ne hne).2 (hs y (by simp [hy]))
    have h3 := List.length_erase_of_mem hx
    simp at h
    exact (List.perm_cons_erase hx).trans ((perm_of_subI hn.2 h1 (by omega)).cons x)
theorem firstL_mem {s : List Nat} {j : Nat} : j ∈ firstL s ↔ j < s.length ∧ 0 < j ∧ smB s j = true ∧ smB s (j - 1) = false := by
  simp [firstL, firstP, lmsB]
theorem firstL_nd (s : List Nat) : (firstL s).Nodup := List.Nodup.sublist List.filter_sublist List.nodup_range
theorem rowAt_mem {p : PS} {v : Int} (h : v ∈ p.2) : ∃ x, x < p.2.length ∧ rowAt p x = v := by
  obtain ⟨x, hx, he⟩ := List.mem_iff_getElem.1 h
  exact ⟨x, hx, by simp [rowAt, hx, he]⟩

section
variable {s : List Nat} {k : Nat} {first : List Nat}

/-- Those that are handed in are laid. -/
structure PI (s : List Nat) (k : Nat) (first : List Nat) (q : Nat) (p : PS) : Prop where
  base : BE s k (wL s fun x => first.idxOf x) (fun _ => -1) p
  vals : ∀ c x, c < k → byt p.1 c ≤ x → x < stB s (c + 1) → ∀ j : Nat, rowAt p x = (j : Int) → ∃ r, first.length - q ≤ r ∧ r < first.length ∧ byt first r = j
  all : ∀ r, first.length - q ≤ r → r < first.length → ∃ x, x < s.length ∧ rowAt p x = ((byt first r : Nat) : Int)
theorem idx_byt (hn : first.Nodup) {r : Nat} (h : r < first.length) : first.idxOf (byt first r) = r := by
  rw [byt_eq h]; exact List.Nodup.idxOf_getElem hn r h
theorem lgRow_none (s : List Nat) : LgRow s (fun _ => -1) := fun _ _ => .inl rfl
theorem PI.zero (hk : ∀ x ∈ s, x < k) : PI s k first 0 (endsL (cntL s k), List.replicate s.length (-1)) := by
  have hr : ∀ x, x < s.length → rowAt (endsL (cntL s k), List.replicate s.length (-1)) x = -1 := fun x hx => by simp [rowAt, hx]
  refine ⟨⟨by simp [endsL_len, cntL_len], by simp, fun c hc => ?_, fun c hc => ?_, fun c x hc h1 h2 => ?_, fun x hx _ => hr x hx, fun x y hxy hy i j hi hj => ?_⟩, fun c x hc h1 h2 => ?_, fun r h1 h2 => by omega⟩
  · show _ ≤ byt (endsL (cntL s k)) c
    rw [ends_at s hc]; have := st_split s c; omega
  · show byt (endsL (cntL s k)) c ≤ _
    rw [ends_at s hc]; exact Nat.le_refl _
  · have h1 : byt (endsL (cntL s k)) c ≤ x := h1
    rw [ends_at s hc] at h1; omega
  · rw [hr y hy] at hj; omega
  · have h1 : byt (endsL (cntL s k)) c ≤ x := h1
    rw [ends_at s hc] at h1; omega
theorem PI.step (hk : ∀ x ∈ s, x < k) (hf : first.Perm (firstL s)) {q : Nat} {p : PS} (h : PI s k first q p) (hq : q < first.length) :
    leOk s p (byt first (first.length - 1 - q)) ∧ PI s k first (q + 1) (le1 s p (byt first (first.length - 1 - q))) := by
  have hnd : first.Nodup := hf.nodup_iff.2 (firstL_nd s)
  have hmem : ∀ r, r < first.length → byt first r < s.length ∧ smB s (byt first r) = true := fun r hr => by
    have := firstL_mem.1 (hf.mem_iff.1 (show byt first r ∈ first by rw [byt_eq hr]; exact List.getElem_mem hr))
    exact ⟨this.1, this.2.2.1⟩
  obtain ⟨hj, hS⟩ := hmem (first.length - 1 - q) (by omega)
  have hb := h.base
  obtain ⟨q1, q2, q3, q4, q5⟩ := hb.put hk (head_wL s _) (lgRow_none s) hj hS (fun x x1 x2 a ha => by
    obtain ⟨a', a1, a2, a3, a4⟩ := hb.cell _ x (byt_ltk hk hj) x1 x2
    obtain rfl : a' = a := by omega
    obtain ⟨r, r1, r2, r3⟩ := h.vals _ x (byt_ltk hk hj) x1 x2 a' ha
    rw [wL_sm hS, wL_sm a4]
    refine lx_tail (by omega) (lx_head ?_)
    rw [← r3, idx_byt hnd r2, idx_byt hnd (by omega)]
    omega)
  refine ⟨q2, q1, fun c x c1 c2 c3 a ha => ?_, fun r r1 r2 => ?_⟩
  · rw [q3] at c2
    rw [q4] at ha
    by_cases ex : x = byt p.1 (byt s (byt first (first.length - 1 - q))) - 1
    · rw [if_pos ex] at ha
      exact ⟨first.length - 1 - q, by omega, by omega, by omega⟩
    · rw [if_neg ex] at ha
      have c4 : byt p.1 c ≤ x := by
        split at c2
        · rename_i e; subst e; omega
        · exact c2
      obtain ⟨r, r1, r2, r3⟩ := h.vals c x c1 c4 c3 a ha
      exact ⟨r, by omega, r2, r3⟩
  · by_cases e : r = first.length - 1 - q
    · subst e
      have h6 := hb.hi _ (byt_ltk hk hj)
      have h7 := stB_le s (byt s (byt first (first.length - 1 - q)) + 1)
      exact ⟨byt p.1 (byt s (byt first (first.length - 1 - q))) - 1, by omega, by rw [q4, if_pos rfl]⟩
    · obtain ⟨x, x1, x2⟩ := h.all r (by omega) r2
      refine ⟨x, x1, ?_⟩
      rw [q4, if_neg (fun e => ?_)]
      · exact x2
      · have hck := byt_ltk hk hj
        have h5 := hb.hi _ hck
        have h6 := hb.lo _ hck
        have h8 := st_split s (byt s (byt first (first.length - 1 - q)))
        rcases hb.info hk (lgRow_none s) x1 with h7 | ⟨i, i1, i2, i3, i4, i5⟩
        · omega
        · rcases i5 with ⟨i6, i7⟩ | ⟨i6, i7⟩
          · have := stB_apart (s := s) (c := byt s i) (d := byt s (byt first (first.length - 1 - q))) (p := x) i3 i4 (by omega) (by omega)
            rw [this] at i7; omega
          · have h9 := (hmem r r2).2
            obtain rfl : byt first r = i := by omega
            rw [h9] at i6; cases i6
theorem PI.run (hk : ∀ x ∈ s, x < k) (hf : first.Perm (firstL s)) : ∀ q, q ≤ first.length → PI s k first q (inRun s (endsL (cntL s k), List.replicate s.length (-1)) first q)
  | 0, _ => PI.zero hk
  | q + 1, h => ((PI.run hk hf q (by omega)).step hk hf (by omega)).2

/-- What stands in the row when those are laid. -/
theorem row1_ok (hk : ∀ x ∈ s, x < k) (hf : first.Perm (firstL s)) :
    SmRow s (rowAt (startsL (cntL s k), indRow1 s k first)) ∧ (∀ j, j ∈ firstL s → ∃ x, x < s.length ∧ rowAt (startsL (cntL s k), indRow1 s k first) x = (j : Int)) ∧
    BS s k (wL s fun x => first.idxOf x) (rowAt (startsL (cntL s k), indRow1 s k first)) (startsL (cntL s k), indRow1 s k first) := by
  have h := PI.run hk hf first.length (Nat.le_refl _)
  have e : ∀ x, rowAt (startsL (cntL s k), indRow1 s k first) x = rowAt (inRun s (endsL (cntL s k), List.replicate s.length (-1)) first first.length) x := fun _ => rfl
  refine ⟨fun x hx => ?_, fun j hj => ?_, ⟨by simp [startsL_len, cntL_len], by simp [indRow1_len], fun c hc => ?_, fun c hc => ?_, fun c x hc h1 h2 => ?_, fun x _ _ => rfl, fun x y hxy hy i j hi hj => ?_⟩⟩
  · rw [e]
    rcases h.base.info hk (lgRow_none s) hx with h1 | ⟨j, j1, j2, j3, j4, j5⟩
    · exact .inl h1
    · rcases j5 with ⟨j6, j7⟩ | ⟨j6, j7⟩
      · have := h.base.lo _ (byt_ltk hk j1)
        exact .inr ⟨j, j1, j2, j6, by omega, j4⟩
      · exfalso
        have hno : ∀ c, c < k → ¬ (byt (inRun s (endsL (cntL s k), List.replicate s.length (-1)) first first.length).1 c ≤ x ∧ x < stB s (c + 1)) := fun c hc hh => by
          obtain ⟨i, i1, i2, i3, i4⟩ := h.base.cell c x hc hh.1 hh.2
          obtain rfl : i = j := by omega
          rw [j6] at i4; cases i4
        have := h.base.old x hx hno
        omega
  · obtain ⟨r, hr, hr2⟩ := List.mem_iff_getElem.1 (hf.mem_iff.2 hj)
    obtain ⟨x, x1, x2⟩ := h.all r (by omega) hr
    rw [byt_eq hr, hr2] at x2
    exact ⟨x, x1, by rw [e]; exact x2⟩
  · show _ ≤ byt (startsL (cntL s k)) c
    rw [starts_at s hc]; exact Nat.le_refl _
  · show byt (startsL (cntL s k)) c ≤ _
    rw [starts_at s hc]; omega
  · have h2 : x < byt (startsL (cntL s k)) c := h2
    rw [starts_at s hc] at h2; omega
  · rw [e] at hi hj
    exact h.base.srt x y hxy hy i j hi hj
end

section
variable {s : List Nat} {k : Nat} {first : List Nat}
theorem LS.zero {f : Nat → Nat} {R1 : Nat → Int} {p : PS} (hk : ∀ x ∈ s, x < k) (h1 : SmRow s R1) (hn : 0 < s.length) (h : BS s k (wL s f) R1 p) (h0 : ∀ c, c < k → byt p.1 c = stB s c) :
    lgOk s p (s.length - 1) ∧ LS s k f R1 0 (lg1 s p (s.length - 1)) := by
  have hL : smB s (s.length - 1) = false := smB_end (by omega)
  have hj : s.length - 1 < s.length := by omega
  have hck := byt_ltk hk hj
  obtain ⟨q1, q2, q3, q4, q5⟩ := h.put hk (head_wL s f) h1 hj hL (fun x x1 x2 => by rw [h0 _ hck] at x2; omega)
  refine ⟨q2, q1, fun c x c1 c2 c3 a ha => ?_, fun a ha hLa hd => ?_⟩
  · rw [q3] at c3
    split at c3
    · rename_i e
      rw [h0 _ hck] at c3
      rw [q4, if_pos (by rw [h0 _ hck]; rw [e] at c2; omega)] at ha
      left; omega
    · rw [h0 _ c1] at c3; omega
  · rcases hd with h4 | ⟨y, y1, _⟩
    · obtain rfl : a = s.length - 1 := by omega
      exact ⟨byt p.1 (byt s (s.length - 1)), by rw [h0 _ hck]; exact Nat.le_refl _, by rw [q3, if_pos rfl]; omega, by rw [q4, if_pos rfl]⟩
    · omega
theorem LS.run {f : Nat → Nat} {R1 : Nat → Int} {p : PS} (hk : ∀ x ∈ s, x < k) (h1 : SmRow s R1) (h : LS s k f R1 0 p) : ∀ i, i ≤ s.length → LS s k f R1 i (lgRun s p i)
  | 0, _ => h
  | i + 1, hi => ((LS.run hk h1 h i (by omega)).step hk h1 (by omega)).2
/-- All large ones have been laid. -/
theorem LS.full {f : Nat → Nat} {R1 : Nat → Int} {p : PS} (hk : ∀ x ∈ s, x < k) (h1 : SmRow s R1) (hF : ∀ j, j ∈ firstL s → ∃ x, x < s.length ∧ R1 x = (j : Int)) (h : LS s k f R1 s.length p) :
    ∀ d j, j < s.length → s.length - j ≤ d → smB s j = false → ∃ x, stB s (byt s j) ≤ x ∧ x < byt p.1 (byt s j) ∧ rowAt p x = (j : Int) := by
  intro d
  induction d with
  | zero => intro j hj hd; omega
  | succ d ih =>
    intro j hj hd hL
    refine h.all j hj hL ?_
    by_cases e : j + 1 = s.length
    · exact .inl e
    · right
      cases hs : smB s (j + 1) with
      | false =>
        obtain ⟨x, x1, x2, x3⟩ := ih (j + 1) (by omega) (by omega) hs
        have h4 := h.base.hi _ (byt_ltk hk (show j + 1 < s.length by omega))
        have h5 := st_split s (byt s (j + 1))
        have h6 := stB_le s (byt s (j + 1) + 1)
        exact ⟨x, by omega, by omega, x3⟩
      | true =>
        obtain ⟨x, x1, x2⟩ := hF (j + 1) (firstL_mem.2 ⟨by omega, by omega, hs, by rw [Nat.add_sub_cancel]; exact hL⟩)
        refine ⟨x, x1, x1, ?_⟩
        rw [h.base.old x x1 (fun c hc hh => ?_)]
        · exact x2
        · rcases h1 x x1 with h4 | ⟨i, i1, i2, i3, i4, i5⟩
          · omega
          · have h6 := h.base.hi c hc
            have h7 := st_split s c
            have := stB_apart (s := s) (c := c) (d := byt s i) (p := x) hh.1 (by omega) (by omega) i5
            subst this; omega

theorem SS.run {f : Nat → Nat} {R0 : Nat → Int} {p : PS} (hk : ∀ x ∈ s, x < k) (h1 : LgRow s R0) (h : SS s k f R0 s.length p) : ∀ q, q ≤ s.length → SS s k f R0 (s.length - q) (smRun s p s.length q)
  | 0, _ => h
  | q + 1, hq => by
    have h2 := SS.run hk h1 h q (by omega)
    rw [show s.length - q = s.length - 1 - q + 1 by omega] at h2
    have := (h2.step hk h1 (by omega)).2
    rw [show s.length - (q + 1) = s.length - 1 - q by omega]
    exact this
/-- All have been laid. -/
theorem SS.full {f : Nat → Nat} {R0 : Nat → Int} {p : PS} (hk : ∀ x ∈ s, x < k) (h1 : LgRow s R0) (hF : ∀ j, j < s.length → smB s j = false → ∃ x, x < s.length ∧ R0 x = (j : Int)) (h : SS s k f R0 0 p) :
    ∀ d j, j < s.length → s.length - j ≤ d → ∃ x, x < s.length ∧ rowAt p x = (j : Int) := by
  intro d
  induction d with
  | zero => intro j hj hd; omega
  | succ d ih =>
    intro j hj hd
    cases hs : smB s j with
    | true =>
      have h2 := smB_in hs
      obtain ⟨y, y1, y2⟩ := ih (j + 1) h2 (by omega)
      obtain ⟨x, x1, x2, x3⟩ := h.all j hj hs ⟨y, by omega, y1, y2⟩
      have := stB_le s (byt s j + 1)
      exact ⟨x, by omega, x3⟩
    | false =>
      obtain ⟨x, x1, x2⟩ := hF j hj hs
      refine ⟨x, x1, ?_⟩
      rw [h.base.old x x1 (fun c hc hh => ?_)]
      · exact x2
      · rcases h1 x x1 with h4 | ⟨i, i1, i2, i3, i4, i5⟩
        · omega
        · have h6 := h.base.lo c hc
          have h7 := st_split s (byt s i)
          have := stB_apart (s := s) (c := c) (d := byt s i) (p := x) (by omega) hh.2 i4 (by omega)
          subst this; omega

set_option maxHeartbeats 1000000 in
/-- The induced sort goes through, and its row is all places, in order of their words. -/
theorem ind_all (hn : 0 < s.length) (hk : ∀ x ∈ s, x < k) (hf : first.Perm (firstL s)) :
    IndOk s k first ∧ ∃ R : List Nat, indRow3 s k first = zs R ∧ R.Perm (List.range s.length) ∧ R.Pairwise fun i j => lx (wS s (fun x => first.idxOf x) i) (wS s (fun x => first.idxOf x) j) = true := by
  obtain ⟨a1, a2, a3⟩ := row1_ok hk hf
  obtain ⟨b1, b2⟩ := LS.zero hk a1 hn a3 (fun c hc => starts_at s hc)
  have b3 := LS.run hk a1 b2
  have b4 := b3 s.length (Nat.le_refl _)
  have b5 := LS.full hk a1 a2 b4
  have e2 : (lgRun s (lg1 s (startsL (cntL s k), indRow1 s k first) (s.length - 1)) s.length).2 = indRow2 s k first := rfl
  obtain ⟨P2, hP2⟩ : ∃ P2, lgRun s (lg1 s (startsL (cntL s k), indRow1 s k first) (s.length - 1)) s.length = P2 := ⟨_, rfl⟩
  rw [hP2] at b4 b5 e2
  have l2 := indRow2_len s k first
  have hc : ∀ x, x < s.length → rowAt (endsL (cntL s k), clrL s (indRow2 s k first)) x = clrF s (rowAt P2 x) := fun x hx => by
    have h1 : x < P2.2.length := by rw [e2, l2]; exact hx
    simp only [rowAt, clrL, ← e2, List.getElem?_map, List.getElem?_eq_getElem h1, Option.map_some, Option.getD_some]
  have hcl : ∀ j : Nat, smB s j = false → clrF s (j : Int) = (j : Int) := fun j h => by
    unfold clrF; rw [Int.toNat_natCast, h, if_neg (by simp)]
  have hcs : ∀ j : Nat, smB s j = true → clrF s (j : Int) = -1 := fun j h => by
    unfold clrF; rw [Int.toNat_natCast, if_pos ⟨by omega, h⟩]
  have hcn : clrF s (-1) = -1 := by unfold clrF; rw [if_neg (by omega)]
  have hinv : ∀ x, x < s.length → rowAt (endsL (cntL s k), clrL s (indRow2 s k first)) x = -1 ∨ ∃ j : Nat, j < s.length ∧ rowAt P2 x = (j : Int) ∧ rowAt (endsL (cntL s k), clrL s (indRow2 s k first)) x = (j : Int) ∧ smB s j = false ∧ stB s (byt s j) ≤ x ∧ x < stB s (byt s j) + nLg s (byt s j) := fun x hx => by
    rw [hc x hx]
    rcases b4.base.info hk a1 hx with h1 | ⟨j, j1, j2, j3, j4, j5⟩
    · left; rw [h1, hcn]
    · rcases j5 with ⟨j6, j7⟩ | ⟨j6, j7⟩
      · have := b4.base.hi _ (byt_ltk hk j1)
        exact .inr ⟨j, j1, j2, by rw [j2, hcl j j6], j6, j3, by omega⟩
      · left; rw [j2, hcs j j6]
  have c1 : LgRow s (rowAt (endsL (cntL s k), clrL s (indRow2 s k first))) := fun x hx => by
    rcases hinv x hx with h1 | ⟨j, j1, j2, j3, j4, j5, j6⟩
    · exact .inl h1
    · exact .inr ⟨j, j1, j3, j4, j5, j6⟩
  have c2 : ∀ j, j < s.length → smB s j = false → ∃ x, x < s.length ∧ rowAt (endsL (cntL s k), clrL s (indRow2 s k first)) x = (j : Int) := fun j hj hL => by
    obtain ⟨x, x1, x2, x3⟩ := b5 _ j hj (Nat.le_refl _) hL
    have h4 := b4.base.hi _ (byt_ltk hk hj)
    have h5 := st_split s (byt s j)
    have h6 := stB_le s (byt s j + 1)
    exact ⟨x, by omega, by rw [hc x (by omega), x3, hcl j hL]⟩
  have c3 : SS s k (fun x => first.idxOf x) (rowAt (endsL (cntL s k), clrL s (indRow2 s k first))) s.length (endsL (cntL s k), clrL s (indRow2 s k first)) := by
    refine ⟨⟨by simp [endsL_len, cntL_len], by simp [clrL_len, l2], fun c hc => ?_, fun c hc => ?_, fun c x hc h1 h2 => ?_, fun x _ _ => rfl, fun x y hxy hy i j hi hj => ?_⟩, fun c x hc h1 h2 => ?_, fun j _ _ hd => ?_⟩
    · show _ ≤ byt (endsL (cntL s k)) c
      rw [ends_at s hc]; have := st_split s c; omega
    · show byt (endsL (cntL s k)) c ≤ _
      rw [ends_at s hc]; exact Nat.le_refl _
    · have h1 : byt (endsL (cntL s k)) c ≤ x := h1
      rw [ends_at s hc] at h1; omega
    · rcases hinv x (by omega) with h1 | ⟨i', i1, i2, i3, i4, _⟩
      · omega
      rcases hinv y hy with h1 | ⟨j', j1, j2, j3, j4, _⟩
      · omega
      obtain rfl : i' = i := by omega
      obtain rfl : j' = j := by omega
      rw [wS_lg i1 i4, wS_lg j1 j4]
      exact b4.base.srt x y hxy hy _ _ i2 j2
    · have h1 : byt (endsL (cntL s k)) c ≤ x := h1
      rw [ends_at s hc] at h1; omega
    · obtain ⟨y, y1, y2, _⟩ := hd; omega
  have c4 := SS.run hk c1 c3
  have c5 := c4 s.length (Nat.le_refl _)
  rw [Nat.sub_self] at c5
  have c6 := SS.full hk c1 c2 c5
  refine ⟨⟨fun q hq => ((PI.run hk hf q (by omega)).step hk hf hq).1, b1, fun i hi h0 => ((b3 i (by omega)).step hk a1 hi).1 h0, fun j hj h0 => ?_, fun q hq h0 => ?_⟩, nats (indRow3 s k first), ?_⟩
  · rw [← e2] at hj
    obtain ⟨x, x1, x2⟩ := rowAt_mem hj
    rw [e2, l2] at x1
    rcases b4.base.info hk a1 x1 with h1 | ⟨i, i1, i2, _⟩
    · omega
    · have : j.toNat = i := by omega
      omega
  · have h2 := c4 q (by omega)
    rw [show s.length - q = s.length - 1 - q + 1 by omega] at h2
    exact (h2.step hk c1 (by omega)).1 h0
  · have e3 : (smRun s (endsL (cntL s k), clrL s (indRow2 s k first)) s.length s.length).2 = indRow3 s k first := rfl
    obtain ⟨P3, hP3⟩ : ∃ P3, smRun s (endsL (cntL s k), clrL s (indRow2 s k first)) s.length s.length = P3 := ⟨_, rfl⟩
    rw [hP3] at c5 c6 e3
    have l3 := indRow3_len s k first
    have hp : (indRow3 s k first).Perm (zs (List.range s.length)) := by
      refine perm_of_subI (nodup_zs.2 List.nodup_range) (fun v hv => ?_) (by simp [zs, l3])
      obtain ⟨j, hj, rfl⟩ := List.mem_map.1 hv
      obtain ⟨x, x1, x2⟩ := c6 _ j (by simpa using hj) (Nat.le_refl _)
      rw [← e3]
      have hx : x < P3.2.length := by rw [e3, l3]; exact x1
      have : P3.2[x] = (j : Int) := by rw [← x2]; simp [rowAt, hx]
      show (j : Int) ∈ P3.2
      rw [← this]; exact List.getElem_mem hx
    have hz : indRow3 s k first = zs (nats (indRow3 s k first)) := by
      unfold zs nats
      rw [List.map_map]
      symm
      refine (List.map_congr_left (g := id) fun v hv => ?_).trans (List.map_id _)
      obtain ⟨j, _, rfl⟩ := List.mem_map.1 (hp.mem_iff.1 hv)
      show ((((j : Nat) : Int).toNat : Nat) : Int) = (j : Int)
      rw [Int.toNat_natCast]
    refine ⟨hz, ?_, ?_⟩
    · have := hp.map Int.toNat
      have e : (zs (List.range s.length)).map Int.toNat = List.range s.length := nats_zs _
      rw [e] at this; exact this
    · rw [List.pairwise_iff_getElem]
      intro x y hx hy hxy
      have hnl : (nats (indRow3 s k first)).length = s.length := by rw [nats_len, l3]
      have key : ∀ x (hx : x < (nats (indRow3 s k first)).length), rowAt P3 x = (((nats (indRow3 s k first))[x] : Nat) : Int) := fun x hx => by
        have h1 : x < P3.2.length := by rw [e3, l3]; omega
        have h2 : rowAt P3 x = P3.2[x] := by simp [rowAt, h1]
        have h3 : x < (zs (nats (indRow3 s k first))).length := by simp [zs]; exact hx
        have h4 : (indRow3 s k first)[x]'(by rw [l3]; omega) = (zs (nats (indRow3 s k first)))[x] := by congr 1
        rw [h2]
        have h5 : P3.2[x] = (indRow3 s k first)[x]'(by rw [l3]; omega) := by congr 1
        rw [h5, h4]; simp [zs]
      exact c5.base.srt x y hxy (by omega) _ _ (key x hx) (key y hy)
end
end Go.Proofs.Ytdpkhijbikbhnaa

namespace Go.Proofs.Ytdpkhijbikbhnaa
open Plain
set_option linter.unusedSimpArgs false
set_option linter.unusedVariables false

section
variable {s : List Nat}
theorem lx_dropB {i j : Nat} (hi : i < s.length) (hj : j < s.length) : lx (s.drop i) (s.drop j) = if byt s i < byt s j then true else if byt s j < byt s i then false else lx (s.drop (i + 1)) (s.drop (j + 1)) := by
  rw [lx_drop hi hj, nth_byt, nth_byt]
theorem lx_nil_r (l : List Nat) : lx l [] = false := by cases l <;> rfl
/-- A large ending is less than a small one of the same number. -/
theorem lg_lt_sm : ∀ d i j, s.length - i ≤ d → i < s.length → j < s.length → byt s i = byt s j → smB s i = false → smB s j = true → lx (s.drop i) (s.drop j) = true := by
  intro d
  induction d with
  | zero => intro i j hd hi; omega
  | succ d ih =>
    intro i j hd hi hj he hL hS
    rcases lx_tri (s.drop i) (s.drop j) with h | h | h
    · exact h
    · obtain rfl := drop_ne hi hj h
      rw [hL] at hS; cases hS
    · have hj1 := smB_in hS
      have h2 := h
      rw [lx_dropB hj hi, if_neg (by omega), if_neg (by omega)] at h2
      have hi1 : i + 1 < s.length := by
        apply Classical.byContradiction
        intro hh
        rw [List.drop_eq_nil_of_le (show s.length ≤ i + 1 by omega), lx_nil_r] at h2; cases h2
      have h3 := smB_ge hi1 hL
      have h4 := smB_le hS
      have h5 := h2
      rw [lx_dropB hj1 hi1] at h5
      have h6 : ¬ byt s (i + 1) < byt s (j + 1) := fun hh => by rw [if_neg (by omega), if_pos hh] at h5; cases h5
      have h7 := smB_eq hi1 (by omega)
      have h8 := smB_eq hj1 (by omega)
      have h9 := ih (i + 1) (j + 1) (by omega) hi1 hj1 (by omega) (by rw [← h7]; exact hL) (by rw [← h8]; exact hS)
      rw [lx_asym h9] at h2; cases h2
theorem pw_idx {first : List Nat} (hn : first.Nodup) (hp : first.Pairwise fun i j => lx (s.drop i) (s.drop j) = true) {i j : Nat} (hi : i ∈ first) (hj : j ∈ first) (h : lx (s.drop i) (s.drop j) = true) : first.idxOf i < first.idxOf j := by
  have h1 := List.idxOf_lt_length_of_mem hi
  have h2 := List.idxOf_lt_length_of_mem hj
  rw [List.pairwise_iff_getElem] at hp
  rcases Nat.lt_trichotomy (first.idxOf i) (first.idxOf j) with h3 | h3 | h3
  · exact h3
  · have e1 := List.getElem_idxOf h1
    have e2 := List.getElem_idxOf h2
    have : i = j := by rw [← e1, ← e2]; congr 1
    subst this
    rw [lx_irr] at h; cases h
  · have := hp _ _ h2 h1 h3
    rw [List.getElem_idxOf h1, List.getElem_idxOf h2] at this
    rw [lx_asym this] at h; cases h
/-- Words of large ones stand as the endings do, if the ranks do. -/
theorem wL_of {first : List Nat} (hn : first.Nodup) (hm : ∀ j, j ∈ firstL s → j ∈ first) (hp : first.Pairwise fun i j => lx (s.drop i) (s.drop j) = true) :
    ∀ d i j, s.length - i ≤ d → i < s.length → j < s.length → (smB s i = true → i ∈ firstL s) → (smB s j = true → j ∈ firstL s) → lx (s.drop i) (s.drop j) = true → lx (wL s (fun x => first.idxOf x) i) (wL s (fun x => first.idxOf x) j) = true := by
  intro d
  induction d with
  | zero => intro i j hd hi; omega
  | succ d ih =>
    intro i j hd hi hj h1 h2 h
    have h3 := h
    rw [lx_dropB hi hj] at h3
    by_cases c1 : byt s i < byt s j
    · exact (head_wL s _).lt hi hj (.inl c1)
    rw [if_neg c1] at h3
    by_cases c2 : byt s j < byt s i
    · rw [if_pos c2] at h3; cases h3
    rw [if_neg c2] at h3
    cases hs : smB s i with
    | false =>
      cases ht : smB s j with
      | true => exact (head_wL s _).lt hi hj (.inr ⟨by omega, hs, ht⟩)
      | false =>
        rw [wL_lg hi hs, wL_lg hj ht]
        refine lx_tail (by omega) ?_
        have hj1 : j + 1 < s.length := by
          apply Classical.byContradiction
          intro hh
          rw [List.drop_eq_nil_of_le (show s.length ≤ j + 1 by omega), lx_nil_r] at h3; cases h3
        by_cases hi1 : i + 1 < s.length
        · exact ih (i + 1) (j + 1) (by omega) hi1 hj1 (fun e => firstL_mem.2 ⟨hi1, by omega, e, hs⟩) (fun e => firstL_mem.2 ⟨hj1, by omega, e, ht⟩) h3
        · rw [wL_end (show s.length ≤ i + 1 by omega)]
          obtain ⟨tl, ht⟩ := head_wL s (fun x => first.idxOf x) (j + 1) hj1
          rw [ht]; rfl
    | true =>
      cases ht : smB s j with
      | false =>
        have := lg_lt_sm _ j i (Nat.le_refl _) hj hi (by omega) ht hs
        rw [lx_asym this] at h; cases h
      | true =>
        rw [wL_sm hs, wL_sm ht]
        refine lx_tail (by omega) (lx_head ?_)
        exact pw_idx hn hp (hm i (h1 hs)) (hm j (h2 ht)) h
theorem wS_of {first : List Nat} (hn : first.Nodup) (hm : ∀ j, j ∈ firstL s → j ∈ first) (hp : first.Pairwise fun i j => lx (s.drop i) (s.drop j) = true) :
    ∀ d i j, s.length - i ≤ d → i < s.length → j < s.length → lx (s.drop i) (s.drop j) = true → lx (wS s (fun x => first.idxOf x) i) (wS s (fun x => first.idxOf x) j) = true := by
  intro d
  induction d with
  | zero => intro i j hd hi; omega
  | succ d ih =>
    intro i j hd hi hj h
    have h3 := h
    rw [lx_dropB hi hj] at h3
    by_cases c1 : byt s i < byt s j
    · exact (head_wS s _).lt hi hj (.inl c1)
    rw [if_neg c1] at h3
    by_cases c2 : byt s j < byt s i
    · rw [if_pos c2] at h3; cases h3
    rw [if_neg c2] at h3
    cases hs : smB s i with
    | false =>
      cases ht : smB s j with
      | true => exact (head_wS s _).lt hi hj (.inr ⟨by omega, hs, ht⟩)
      | false =>
        rw [wS_lg hi hs, wS_lg hj ht]
        exact wL_of hn hm hp _ i j (Nat.le_refl _) hi hj (fun e => by rw [hs] at e; cases e) (fun e => by rw [ht] at e; cases e) h
    | true =>
      cases ht : smB s j with
      | false =>
        have := lg_lt_sm _ j i (Nat.le_refl _) hj hi (by omega) ht hs
        rw [lx_asym this] at h; cases h
      | true =>
        rw [wS_sm hs, wS_sm ht]
        exact lx_tail (by omega) (ih (i + 1) (j + 1) (by omega) (smB_in hs) (smB_in ht) h3)
/-- If those that are handed in are in order, all are. -/
theorem ind_sa {k : Nat} {first : List Nat} (hn : 0 < s.length) (hk : ∀ x ∈ s, x < k) (hf : first.Perm (firstL s)) (hp : first.Pairwise fun i j => lx (s.drop i) (s.drop j) = true) :
    indL s k first = zs (nats (indL s k first)) ∧ SA s (nats (indL s k first)) := by
  obtain ⟨R, h1, h2, h3⟩ := (ind_all hn hk hf).2
  have e : indL s k first = zs R := by unfold indL; rw [if_neg (by omega), h1]
  rw [e, nats_zs]
  refine ⟨rfl, h2, h3.imp_of_mem ?_⟩
  intro i j hi hj h
  have hi := List.mem_range.1 (h2.mem_iff.1 hi)
  have hj := List.mem_range.1 (h2.mem_iff.1 hj)
  have hnd : first.Nodup := hf.nodup_iff.2 (firstL_nd s)
  rcases lx_tri (s.drop i) (s.drop j) with h4 | h4 | h4
  · exact h4
  · obtain rfl := drop_ne hi hj h4
    rw [lx_irr] at h; cases h
  · have := wS_of hnd (fun j hj => hf.mem_iff.2 hj) hp _ j i (Nat.le_refl _) hj hi h4
    rw [lx_asym this] at h; cases h
end
end Go.Proofs.Ytdpkhijbikbhnaa

namespace Go.Proofs.Ytdpkhijbikbhnaa
open Plain
set_option linter.unusedSimpArgs false
set_option linter.unusedVariables false

/- Rows of numbers, one before the other. -/
theorem lx_app : ∀ {a b : List Nat}, lx a b = true → (∃ u, b = a ++ u) ∨ ∀ x y, lx (a ++ x) (b ++ y) = true
  | [], b, _ => .inl ⟨b, rfl⟩
  | x :: a, [], h => by simp [lx] at h
  | x :: a, y :: b, h => by
    rw [lx] at h
    by_cases c1 : x < y
    · exact .inr fun p q => lx_head c1
    · rw [if_neg c1] at h
      by_cases c2 : y < x
      · rw [if_pos c2] at h; cases h
      · rw [if_neg c2] at h
        obtain rfl : x = y := by omega
        rcases lx_app h with ⟨u, rfl⟩ | h2
        · exact .inl ⟨u, rfl⟩
        · exact .inr fun p q => lx_tail rfl (h2 p q)
theorem lx_same : ∀ (c x y : List Nat), lx (c ++ x) (c ++ y) = lx x y
  | [], x, y => rfl
  | a :: c, x, y => by rw [List.cons_append, List.cons_append, lx, if_neg (Nat.lt_irrefl _), if_neg (Nat.lt_irrefl _)]; exact lx_same c x y

def codeN (s : List Nat) (x : Nat) : Nat := 2 * byt s x + (if smB s x = true then 1 else 0)
theorem code_eq {s : List Nat} {x y : Nat} (h : codeN s x = codeN s y) : byt s x = byt s y ∧ smB s x = smB s y := by
  unfold codeN at h
  cases h1 : smB s x <;> cases h2 : smB s y <;> rw [h1, h2] at h <;> simp at h
  · exact ⟨by omega, rfl⟩
  · omega
  · omega
  · exact ⟨by omega, rfl⟩
def codes (s : List Nat) : List Nat := (List.range s.length).map (codeN s)
theorem codes_len (s : List Nat) : (codes s).length = s.length := by simp [codes]
theorem codes_at {s : List Nat} {x : Nat} (h : x < s.length) : byt (codes s) x = codeN s x := by rw [byt_eq (by rw [codes_len]; exact h)]; simp [codes]
theorem codes_drop {s : List Nat} {x : Nat} (h : x < s.length) : (codes s).drop x = codeN s x :: (codes s).drop (x + 1) := by
  rw [drop_cons (by rw [codes_len]; exact h), codes_at h]
/-- Kinds and numbers stand as the endings do. -/
theorem codes_lx {s : List Nat} : ∀ d i j, s.length - i ≤ d → lx ((codes s).drop i) ((codes s).drop j) = true → lx (s.drop i) (s.drop j) = true := by
  intro d
  induction d with
  | zero =>
    intro i j hd h
    have hj : j < s.length := by
      apply Classical.byContradiction
      intro hh
      rw [List.drop_eq_nil_of_le (show (codes s).length ≤ j by rw [codes_len]; omega), lx_nil_r] at h; cases h
    rw [List.drop_eq_nil_of_le (show s.length ≤ i by omega), drop_cons hj]; rfl
  | succ d ih =>
    intro i j hd h
    have hj : j < s.length := by
      apply Classical.byContradiction
      intro hh
      rw [List.drop_eq_nil_of_le (show (codes s).length ≤ j by rw [codes_len]; omega), lx_nil_r] at h; cases h
    by_cases hi : i < s.length
    · rw [codes_drop hi, codes_drop hj, lx] at h
      by_cases c1 : codeN s i < codeN s j
      · rcases Nat.lt_trichotomy (byt s i) (byt s j) with h2 | h2 | h2
        · rw [lx_dropB hi hj, if_pos h2]
        · unfold codeN at c1
          cases h3 : smB s i <;> cases h4 : smB s j <;> rw [h3, h4] at c1 <;> simp at c1
          · omega
          · exact lg_lt_sm _ i j (Nat.le_refl _) hi hj h2 h3 h4
          · omega
          · omega
        · unfold codeN at c1
          split at c1 <;> split at c1 <;> omega
      · rw [if_neg c1] at h
        by_cases c2 : codeN s j < codeN s i
        · rw [if_pos c2] at h; cases h
        · rw [if_neg c2] at h
          have h2 := (code_eq (show codeN s i = codeN s j by omega)).1
          rw [lx_dropB hi hj, if_neg (by omega), if_neg (by omega)]
          exact ih (i + 1) (j + 1) (by omega) h
    · rw [List.drop_eq_nil_of_le (show s.length ≤ i by omega), drop_cons hj]; rfl
theorem drop_eq_lx {s : List Nat} {a b : Nat} : ∀ d, (∀ t, t < d → byt s (a + t) = byt s (b + t)) → a + d ≤ s.length → b + d ≤ s.length → lx (s.drop a) (s.drop b) = lx (s.drop (a + d)) (s.drop (b + d))
  | 0, _, _, _ => rfl
  | d + 1, h, h1, h2 => by
    rw [drop_eq_lx d (fun t ht => h t (by omega)) (by omega) (by omega), lx_dropB (by omega) (by omega), if_neg (by rw [h d (by omega)]; omega), if_neg (by rw [h d (by omega)]; omega)]
    rfl

section
variable {s : List Nat}
theorem firstL_up (s : List Nat) : (firstL s).Pairwise (· < ·) := List.pairwise_lt_range.filter _
theorem firstL_lt2 {r q : Nat} (h : r < q) (hq : q < (firstL s).length) : byt (firstL s) r < byt (firstL s) q := by
  have := List.pairwise_iff_getElem.1 (firstL_up s) r q (by omega) hq h
  rw [byt_eq (by omega), byt_eq hq]; exact this
theorem firstL_at {r : Nat} (h : r < (firstL s).length) : byt (firstL s) r ∈ firstL s := by rw [byt_eq h]; exact List.getElem_mem h
theorem nx_run {r : Nat} : ∀ q, q ≤ (firstL s).length → r < q → byt (nxRun s (firstL s) q) (byt (firstL s) r) = if r + 1 < (firstL s).length then byt (firstL s) (r + 1) else s.length
  | 0, _, h => by omega
  | q + 1, hq, hr => by
    have hlt := (firstL_mem.1 (firstL_at (s := s) (r := q) (by omega))).1
    rw [nxRun, byt_set (by rw [nxRun_len]; exact hlt)]
    by_cases e : r = q
    · subst e; rw [if_pos rfl]
    · rw [if_neg (by have := firstL_lt2 (s := s) (r := r) (q := q) (by omega) (by omega); omega)]
      exact nx_run q (by omega) (by omega)
theorem nx_out {j : Nat} (h : j ∉ firstL s) : ∀ q, q ≤ (firstL s).length → byt (nxRun s (firstL s) q) j = 0
  | 0, _ => by
    unfold byt
    rw [nxRun]
    by_cases e : j < s.length
    · simp [e]
    · rw [List.getElem?_eq_none (by simp; omega)]; rfl
  | q + 1, hq => by
    have hlt := (firstL_mem.1 (firstL_at (s := s) (r := q) (by omega))).1
    rw [nxRun, byt_set (by rw [nxRun_len]; exact hlt), if_neg (fun e => h (by rw [e]; exact firstL_at (by omega)))]
    exact nx_out h q (by omega)
def nxF (s : List Nat) (a : Nat) : Nat := byt (nxL s (firstL s)) a
theorem nxF_at {r : Nat} (h : r < (firstL s).length) : nxF s (byt (firstL s) r) = if r + 1 < (firstL s).length then byt (firstL s) (r + 1) else s.length := nx_run _ (Nat.le_refl _) h
theorem nxF_out {j : Nat} (h : j ∉ firstL s) : nxF s j = 0 := nx_out h _ (Nat.le_refl _)
/-- What is known of the one behind. -/
structure NxOk (s : List Nat) (a : Nat) : Prop where
  lt : a < s.length
  pos : 0 < a
  sm : smB s a = true
  lg : smB s (a - 1) = false
  hi : a < nxF s a
  le : nxF s a ≤ s.length
  nx : nxF s a = s.length ∨ nxF s a ∈ firstL s
  no : ∀ x, a < x → x < nxF s a → x ∉ firstL s
theorem nxOk {a : Nat} (h : a ∈ firstL s) : NxOk s a := by
  obtain ⟨h1, h2, h3, h4⟩ := firstL_mem.1 h
  obtain ⟨r, hr, hr2⟩ := List.mem_iff_getElem.1 h
  have ha : byt (firstL s) r = a := by rw [byt_eq hr]; exact hr2
  have hn := nxF_at hr
  rw [ha] at hn
  have hb : ∀ x, a < x → x ∈ firstL s → r + 1 < (firstL s).length ∧ byt (firstL s) (r + 1) ≤ x := fun x hx hm => by
    obtain ⟨q, hq, hq2⟩ := List.mem_iff_getElem.1 hm
    have hxq : byt (firstL s) q = x := by rw [byt_eq hq]; exact hq2
    have h5 : r < q := by
      apply Classical.byContradiction
      intro hh
      by_cases e : q = r
      · subst e; omega
      · have := firstL_lt2 (s := s) (r := q) (q := r) (by omega) hr; omega
    refine ⟨by omega, ?_⟩
    by_cases e : q = r + 1
    · subst e; omega
    · have := firstL_lt2 (s := s) (r := r + 1) (q := q) (by omega) hq; omega
  by_cases c : r + 1 < (firstL s).length
  · rw [if_pos c] at hn
    have h5 := firstL_lt2 (s := s) (r := r) (q := r + 1) (by omega) c
    have h6 := firstL_mem.1 (firstL_at c)
    exact ⟨h1, h2, h3, h4, by omega, by omega, .inr (by rw [hn]; exact firstL_at c), fun x x1 x2 hm => by have := (hb x x1 hm).2; omega⟩
  · rw [if_neg c] at hn
    exact ⟨h1, h2, h3, h4, by omega, by omega, .inl hn, fun x x1 x2 hm => absurd (hb x x1 hm).1 c⟩

/-- The kinds and numbers up to the next one. -/
def kyL (s : List Nat) (a : Nat) : List Nat := ((codes s).drop a).take (min (nxF s a + 1) s.length - a)
theorem kyL_len {a : Nat} (h : NxOk s a) : (kyL s a).length = min (nxF s a + 1) s.length - a := by
  simp [kyL, codes_len]; omega
theorem kyL_at {a t : Nat} (h : NxOk s a) (ht : t < (kyL s a).length) : byt (kyL s a) t = codeN s (a + t) := by
  have hl := kyL_len h
  rw [byt_eq ht]
  simp only [kyL, List.getElem_take, List.getElem_drop]
  rw [← byt_eq (by rw [codes_len]; omega), codes_at (by omega)]
theorem word_run {f : Nat → Nat} {i e : Nat} (he : e = s.length ∨ e ∈ firstL s) (hno : ∀ x, i < x → x < e → x ∉ firstL s) : ∀ d x, e - x ≤ d → i ≤ x → x ≤ e → x ≤ s.length →
    ((x = e ∨ smB s x = false) → wL s f x = ((codes s).drop x).take (min (e + 1) s.length - x) ++ (if e = s.length then [] else [f e])) ∧
    (x < e → smB s x = true → wS s f x = ((codes s).drop x).take (min (e + 1) s.length - x) ++ (if e = s.length then [] else [f e])) := by
  have hend : wL s f e = ((codes s).drop e).take (min (e + 1) s.length - e) ++ (if e = s.length then [] else [f e]) := by
    by_cases c : e = s.length
    · rw [if_pos c, wL_end (by omega), List.drop_eq_nil_of_le (by rw [codes_len]; omega)]; simp
    · rw [if_neg c]
      have hm := firstL_mem.1 (he.resolve_left c)
      rw [wL_sm hm.2.2.1, codes_drop hm.1, show min (e + 1) s.length - e = 1 by omega]
      simp [codeN, hm.2.2.1]
  intro d
  induction d with
  | zero =>
    intro x hd hi hx hxn
    obtain rfl : x = e := by omega
    exact ⟨fun _ => hend, fun h => by omega⟩
  | succ d ih =>
    intro x hd hi hx hxn
    by_cases c : x = e
    · subst c; exact ⟨fun _ => hend, fun h => by omega⟩
    have hen : e ≤ s.length := by
      rcases he with h | h
      · omega
      · have := (firstL_mem.1 h).1; omega
    have hx1 : x < s.length := by omega
    have hcd := codes_drop hx1
    have htk : min (e + 1) s.length - x = (min (e + 1) s.length - (x + 1)) + 1 := by omega
    obtain ⟨i1, i2⟩ := ih (x + 1) (by omega) (by omega) (by omega) (by omega)
    refine ⟨fun h => ?_, fun _ hS => ?_⟩
    · have hL := h.resolve_left c
      have hn : x + 1 = e ∨ smB s (x + 1) = false := by
        by_cases c2 : x + 1 = e
        · exact .inl c2
        · right
          cases h3 : smB s (x + 1) with
          | false => rfl
          | true => exact absurd (firstL_mem.2 ⟨by have := smB_in h3; omega, by omega, h3, by rw [Nat.add_sub_cancel]; exact hL⟩) (hno (x + 1) (by omega) (by omega))
      rw [wL_lg hx1 hL, i1 hn, hcd, htk, List.take_succ_cons]
      simp [codeN, hL]
    · have hne : x + 1 ≠ e := fun c2 => by
        have := smB_in hS
        have hm := firstL_mem.1 (he.resolve_left (by omega))
        rw [← c2, Nat.add_sub_cancel, hS] at hm
        exact absurd hm.2.2.2 (by simp)
      rw [wS_sm hS]
      have hw : wS s f (x + 1) = ((codes s).drop (x + 1)).take (min (e + 1) s.length - (x + 1)) ++ (if e = s.length then [] else [f e]) := by
        cases h3 : smB s (x + 1) with
        | true => exact i2 (by omega) h3
        | false => rw [wS_lg (smB_in hS) h3]; exact i1 (.inr h3)
      rw [hw, hcd, htk, List.take_succ_cons]
      simp [codeN, hS]
theorem word_ky {f : Nat → Nat} {a : Nat} (h : NxOk s a) : wS s f a = kyL s a ++ (if nxF s a = s.length then [] else [f (nxF s a)]) :=
  (word_run h.nx h.no _ a (Nat.le_refl _) (Nat.le_refl _) (by have := h.hi; omega) (by have := h.lt; omega)).2 h.hi h.sm

/-- No piece that has a next one is the beginning of another one. -/
theorem ky_free {a b : Nat} {u : List Nat} (ha : NxOk s a) (hb : NxOk s b) (hn : nxF s b ≠ s.length) (h : kyL s a = kyL s b ++ u) : u = [] := by
  have hla := kyL_len ha
  have hlb := kyL_len hb
  have h1 := hb.hi
  have h2 := hb.le
  have h3 := ha.hi
  have h4 := ha.le
  have hlen : (kyL s a).length = (kyL s b).length + u.length := by rw [h, List.length_append]
  have hc : ∀ t, t < (kyL s b).length → codeN s (a + t) = codeN s (b + t) := fun t ht => by
    rw [← kyL_at ha (by omega), ← kyL_at hb ht]
    unfold byt
    rw [h, List.getElem?_append_left ht]
  have hmb := firstL_mem.1 (hb.nx.resolve_left hn)
  have c1 := (code_eq (hc (nxF s b - b) (by omega))).2
  have c2 := (code_eq (hc (nxF s b - b - 1) (by omega))).2
  rw [show b + (nxF s b - b) = nxF s b by omega, hmb.2.2.1] at c1
  rw [show b + (nxF s b - b - 1) = nxF s b - 1 by omega, hmb.2.2.2] at c2
  have hm : a + (nxF s b - b) ∈ firstL s := firstL_mem.2 ⟨by have := smB_in c1; omega, by omega, c1, by rw [show a + (nxF s b - b) - 1 = a + (nxF s b - b - 1) by omega]; exact c2⟩
  have : ¬ a + (nxF s b - b) < nxF s a := fun hh => ha.no _ (by omega) hh hm
  have hin := (firstL_mem.1 hm).1
  exact List.eq_nil_of_length_eq_zero (by omega)
theorem last_uniq {a b : Nat} (ha : a ∈ firstL s) (hb : b ∈ firstL s) (h1 : nxF s a = s.length) (h2 : nxF s b = s.length) : a = b := by
  have ka := nxOk ha
  have kb := nxOk hb
  have l1 := ka.lt
  have l2 := kb.lt
  rcases Nat.lt_trichotomy a b with h | h | h
  · exact absurd hb (ka.no b h (by omega))
  · exact h
  · exact absurd ha (kb.no a h (by omega))
/-- The last piece is like no other one. -/
theorem ky_last {a b : Nat} (ha : NxOk s a) (hb : NxOk s b) (h1 : nxF s a ≠ s.length) (h2 : nxF s b = s.length) : kyL s a ≠ kyL s b := fun h => by
  have hla := kyL_len ha
  have hlb := kyL_len hb
  rw [h] at hla
  have p1 := ha.hi
  have p2 := ha.le
  have p3 := hb.lt
  have e1 := kyL_at ha (t := (kyL s b).length - 1) (by rw [h]; omega)
  have e2 := kyL_at hb (t := (kyL s b).length - 1) (by omega)
  rw [h, e2] at e1
  have c := (code_eq e1).2
  have hm := firstL_mem.1 (ha.nx.resolve_left h1)
  rw [show b + ((kyL s b).length - 1) = s.length - 1 by omega, show a + ((kyL s b).length - 1) = nxF s a by omega, hm.2.2.1, smB_end (by omega)] at c
  cases c
theorem pcE_eq (a : Nat) : pcE s (nxL s (firstL s)) a = min (nxF s a + 1) s.length := rfl
theorem pc_len {a : Nat} (h : NxOk s a) : (pcL s (nxL s (firstL s)) a).length = min (nxF s a + 1) s.length - a := by
  have := h.hi; have := h.lt
  simp [pcL, pcE_eq]; omega
theorem pc_at {a t : Nat} (h : NxOk s a) (ht : t < (pcL s (nxL s (firstL s)) a).length) : (pcL s (nxL s (firstL s)) a)[t] = byt s (a + t) := by
  have hl := pc_len h
  simp only [pcL, List.getElem_take, List.getElem_drop]
  rw [byt_eq (by omega)]
/-- Pieces are alike if their numbers are. -/
theorem pc_ky {a b : Nat} (ha : NxOk s a) (hb : NxOk s b) (h1 : nxF s a ≠ s.length) (h2 : nxF s b ≠ s.length) : pcL s (nxL s (firstL s)) a = pcL s (nxL s (firstL s)) b ↔ kyL s a = kyL s b := by
  have la := kyL_len ha
  have lb := kyL_len hb
  have pa := pc_len ha
  have pb := pc_len hb
  have a1 := ha.hi
  have a2 := ha.le
  have b1 := hb.hi
  have b2 := hb.le
  constructor
  · intro h
    have hl : min (nxF s a + 1) s.length - a = min (nxF s b + 1) s.length - b := by rw [← pa, ← pb, h]
    have hc : ∀ t, t < min (nxF s a + 1) s.length - a → byt s (a + t) = byt s (b + t) := fun t ht => by
      rw [← pc_at ha (by omega), ← pc_at hb (by omega)]
      congr 1
    have hk : ∀ t, t ≤ nxF s a - a → smB s (a + (nxF s a - a - t)) = smB s (b + (nxF s a - a - t)) := by
      intro t
      induction t with
      | zero =>
        intro _
        have m1 := firstL_mem.1 (ha.nx.resolve_left h1)
        have m2 := firstL_mem.1 (hb.nx.resolve_left h2)
        rw [show a + (nxF s a - a - 0) = nxF s a by omega, show b + (nxF s a - a - 0) = nxF s b by omega, m1.2.2.1, m2.2.2.1]
      | succ t ih =>
        intro ht
        have ih := ih (by omega)
        have c1 := hc (nxF s a - a - (t + 1)) (by omega)
        have c2 := hc (nxF s a - a - t) (by omega)
        rw [show nxF s a - a - t = nxF s a - a - (t + 1) + 1 by omega] at ih c2
        rw [smB_at (i := a + (nxF s a - a - (t + 1))) (by omega), smB_at (i := b + (nxF s a - a - (t + 1))) (by omega)]
        rw [show a + (nxF s a - a - (t + 1)) + 1 = a + (nxF s a - a - (t + 1) + 1) by omega, show b + (nxF s a - a - (t + 1)) + 1 = b + (nxF s a - a - (t + 1) + 1) by omega, c1, c2, ih]
    apply List.ext_getElem
    · omega
    · intro t t1 t2
      rw [← byt_eq t1, ← byt_eq t2, kyL_at ha t1, kyL_at hb t2]
      have := hk (nxF s a - a - t) (by omega)
      rw [show nxF s a - a - (nxF s a - a - t) = t by omega] at this
      unfold codeN
      rw [this, hc t (by omega)]
  · intro h
    have hl : min (nxF s a + 1) s.length - a = min (nxF s b + 1) s.length - b := by rw [← la, ← lb, h]
    apply List.ext_getElem
    · omega
    · intro t t1 t2
      rw [pc_at ha t1, pc_at hb t2]
      have e1 := kyL_at ha (t := t) (by omega)
      have e2 := kyL_at hb (t := t) (by omega)
      rw [h, e2] at e1
      exact (code_eq e1).1.symm
theorem ky_of_word {f : Nat → Nat} {a b : Nat} (ha : NxOk s a) (hb : NxOk s b) (h : lx (wS s f a) (wS s f b) = true) : lx (kyL s a) (kyL s b) = true ∨ kyL s a = kyL s b := by
  rw [word_ky ha, word_ky hb] at h
  rcases lx_tri (kyL s a) (kyL s b) with h1 | h1 | h1
  · exact .inl h1
  · exact .inr h1
  · right
    rcases lx_app h1 with ⟨u, hu⟩ | h2
    · by_cases c : nxF s b = s.length
      · exfalso
        rw [if_pos c, hu, List.append_assoc, lx_same, lx_nil_r] at h; cases h
      · rw [hu, ky_free ha hb c hu, List.append_nil]
    · rw [lx_asym (h2 _ _)] at h; cases h
theorem drop_of_ky {a b : Nat} (ha : NxOk s a) (hb : NxOk s b) (h : lx (kyL s a) (kyL s b) = true) : lx (s.drop a) (s.drop b) = true := by
  refine codes_lx _ a b (Nat.le_refl _) ?_
  have e1 := List.take_append_drop (min (nxF s a + 1) s.length - a) ((codes s).drop a)
  have e2 := List.take_append_drop (min (nxF s b + 1) s.length - b) ((codes s).drop b)
  rcases lx_app h with ⟨u, hu⟩ | h2
  · by_cases c : nxF s a = s.length
    · have hK : kyL s a = (codes s).drop a := by
        unfold kyL; rw [List.take_of_length_le]; simp [codes_len]; omega
      rw [← hK, ← e2]
      show lx (kyL s a) (kyL s b ++ _) = true
      rw [hu, List.append_assoc]
      have := lx_same (kyL s a) [] (u ++ ((codes s).drop b).drop (min (nxF s b + 1) s.length - b))
      rw [List.append_nil] at this
      rw [this]
      cases u with
      | nil => rw [hu, List.append_nil, lx_irr] at h; cases h
      | cons x u => rfl
    · have := ky_free hb ha c hu
      rw [hu, this, List.append_nil, lx_irr] at h; cases h
  · rw [← e1, ← e2]; exact h2 _ _
theorem drop_of_same {a b : Nat} (ha : NxOk s a) (hb : NxOk s b) (h1 : nxF s a ≠ s.length) (h2 : nxF s b ≠ s.length) (h : kyL s a = kyL s b) : lx (s.drop a) (s.drop b) = lx (s.drop (nxF s a)) (s.drop (nxF s b)) := by
  have la := kyL_len ha
  have lb := kyL_len hb
  have a1 := ha.hi
  have a2 := ha.le
  have b1 := hb.hi
  have b2 := hb.le
  have hl : min (nxF s a + 1) s.length - a = min (nxF s b + 1) s.length - b := by rw [← la, ← lb, h]
  have := drop_eq_lx (s := s) (a := a) (b := b) (nxF s a - a) (fun t ht => by
    have e1 := kyL_at ha (t := t) (by omega)
    have e2 := kyL_at hb (t := t) (by omega)
    rw [h, e2] at e1
    exact (code_eq e1).1.symm) (by omega) (by omega)
  rw [this, show a + (nxF s a - a) = nxF s a by omega, show b + (nxF s a - a) = nxF s b by omega]
end
end Go.Proofs.Ytdpkhijbikbhnaa

namespace Go.Proofs.Ytdpkhijbikbhnaa
open Plain
set_option linter.unusedSimpArgs false
set_option linter.unusedVariables false

section
variable {s : List Nat}
/-- The names of the first i of an order. -/
structure NI (s order : List Nat) (i : Nat) (p : NS) : Prop where
  len : p.1.length = s.length
  cur : (p.2.2 = -1 ∧ p.2.1 = 0 ∧ ∀ a ∈ order.take i, a ∉ firstL s) ∨ ∃ z : Nat, z ∈ order.take i ∧ z ∈ firstL s ∧ p.2.2 = (z : Int) ∧ byt p.1 z = p.2.1 ∧ ∀ a ∈ order.take i, a ∈ firstL s → (lx (kyL s a) (kyL s z) = true ∨ kyL s a = kyL s z) ∧ byt p.1 a ≤ p.2.1
  cmp : ∀ a ∈ order.take i, ∀ b ∈ order.take i, a ∈ firstL s → b ∈ firstL s → (lx (kyL s a) (kyL s b) = true → byt p.1 a < byt p.1 b) ∧ (kyL s a = kyL s b → byt p.1 a = byt p.1 b)
theorem newB_ky {z j : Nat} (hz : z ∈ firstL s) (hj : j ∈ firstL s) (hne : z ≠ j) : newB s (nxL s (firstL s)) (z : Int) j = !decide (kyL s z = kyL s j) := by
  have kz := nxOk hz
  have kj := nxOk hj
  unfold newB
  rw [Int.toNat_natCast, decide_eq_true (show (0 : Int) ≤ (z : Int) by omega), Bool.true_and]
  have e1 : byt (nxL s (firstL s)) j = nxF s j := rfl
  have e2 : byt (nxL s (firstL s)) z = nxF s z := rfl
  rw [e1, e2]
  by_cases c1 : nxF s j = s.length
  · have c2 : nxF s z ≠ s.length := fun c2 => hne (last_uniq hz hj c2 c1)
    rw [decide_eq_true c1, decide_eq_false (ky_last kz kj c2 c1)]; rfl
  · rw [decide_eq_false c1, Bool.false_or]
    by_cases c2 : nxF s z = s.length
    · rw [decide_eq_true c2, decide_eq_false (show ¬ kyL s z = kyL s j from fun h => ky_last kj kz c1 c2 h.symm)]; rfl
    · rw [decide_eq_false c2, Bool.false_or]
      have := pc_ky kz kj c2 c1
      rw [show decide (pcL s (nxL s (firstL s)) z = pcL s (nxL s (firstL s)) j) = decide (kyL s z = kyL s j) by rw [Bool.eq_iff_iff]; simp [this]]
theorem NI.step {order : List Nat} {f : Nat → Nat} {i : Nat} {p : NS} (h : NI s order i p) (hi : i < order.length) (hnd : order.Nodup) (hlt : ∀ x ∈ order, x < s.length) (hs : order.Pairwise fun a b => lx (wS s f a) (wS s f b) = true) :
    NI s order (i + 1) (nmSt s (nxL s (firstL s)) p (byt order i)) := by
  have hjm : byt order i ∈ order := by rw [byt_eq hi]; exact List.getElem_mem hi
  have htk := take_byt hi
  obtain ⟨j, hj⟩ : ∃ j, byt order i = j := ⟨_, rfl⟩
  rw [hj] at htk hjm ⊢
  have hmem : ∀ a, a ∈ order.take (i + 1) ↔ a ∈ order.take i ∨ a = j := fun a => by rw [htk]; simp
  have hnot : ∀ a ∈ order.take i, a ≠ j ∧ lx (wS s f a) (wS s f j) = true := fun a ha => by
    obtain ⟨x, hx, he⟩ := List.mem_iff_getElem.1 ha
    have hx' : x < i ∧ x < order.length := by simp at hx; omega
    rw [List.getElem_take] at he
    have h1 := List.pairwise_iff_getElem.1 hs x i hx'.2 hi hx'.1
    rw [he, ← byt_eq hi, hj] at h1
    refine ⟨fun e => ?_, h1⟩
    subst e; rw [lx_irr] at h1; cases h1
  by_cases hF : j ∈ firstL s
  · have kj := nxOk hF
    have hnx : byt (nxL s (firstL s)) j ≠ 0 := by
      have := kj.hi
      show nxF s j ≠ 0
      omega
    rw [nmSt, if_neg hnx]
    have hjl : j < p.1.length := by rw [h.len]; exact hlt j hjm
    rcases h.cur with ⟨c1, c2, c3⟩ | ⟨z, z1, z2, z3, z4, z5⟩
    · have hB : newB s (nxL s (firstL s)) p.2.2 j = false := by unfold newB; rw [c1]; rfl
      rw [hB]
      dsimp only
      rw [if_neg (by simp), c2]
      have only : ∀ a ∈ order.take (i + 1), a ∈ firstL s → a = j := fun a ha haF => ((hmem a).1 ha).resolve_left fun h => c3 a h haF
      have hbj : byt (p.1.set j 0) j = 0 := by rw [byt_set hjl, if_pos rfl]
      refine ⟨by simp [h.len], .inr ⟨j, (hmem j).2 (.inr rfl), hF, rfl, hbj, fun a ha haF => ?_⟩, fun a ha b hb haF hbF => ?_⟩
      · obtain rfl := only a ha haF
        exact ⟨.inr rfl, by show byt (p.1.set a 0) a ≤ 0; omega⟩
      · obtain rfl := only a ha haF
        obtain rfl := only b hb hbF
        exact ⟨fun h => (by rw [lx_irr] at h; cases h), fun _ => rfl⟩
    · have kz := nxOk z2
      obtain ⟨zne, zw⟩ := hnot z z1
      have hw := ky_of_word kz kj zw
      have hB := newB_ky z2 hF zne
      rw [z3, hB]
      dsimp only
      have hset : ∀ (m a : Nat), a ∈ order.take i → byt (p.1.set j m) a = byt p.1 a := fun m a ha => by rw [byt_set hjl, if_neg (hnot a ha).1]
      have hset' : ∀ m, byt (p.1.set j m) j = m := fun m => by rw [byt_set hjl, if_pos rfl]
      by_cases hK : kyL s z = kyL s j
      · rw [decide_eq_true hK, Bool.not_true, if_neg (by simp)]
        refine ⟨by simp [h.len], .inr ⟨j, (hmem j).2 (.inr rfl), hF, rfl, hset' _, fun a ha haF => ?_⟩, fun a ha b hb haF hbF => ?_⟩
        · rcases (hmem a).1 ha with ha | rfl
          · obtain ⟨q1, q2⟩ := z5 a ha haF
            rw [← hK]
            exact ⟨q1, by show byt (p.1.set j _) a ≤ _; rw [hset _ a ha]; exact q2⟩
          · exact ⟨.inr rfl, by show byt (p.1.set a _) a ≤ _; rw [hset']; exact Nat.le_refl _⟩
        · show (_ → byt (p.1.set j _) a < byt (p.1.set j _) b) ∧ (_ → byt (p.1.set j _) a = byt (p.1.set j _) b)
          rcases (hmem a).1 ha with ha | ea
          · rw [hset _ a ha]
            rcases (hmem b).1 hb with hb | eb
            · rw [hset _ b hb]; exact h.cmp a ha b hb haF hbF
            · subst eb
              rw [hset', ← z4, ← hK]
              exact h.cmp a ha z z1 haF z2
          · subst ea
            rw [hset']
            rcases (hmem b).1 hb with hb | eb
            · rw [hset _ b hb, ← z4, ← hK]; exact h.cmp z z1 b hb z2 hbF
            · subst eb
              rw [hset']
              exact ⟨fun h => (by rw [lx_irr] at h; cases h), fun _ => rfl⟩
      · rw [decide_eq_false hK, Bool.not_false, if_pos rfl]
        have hlt' := hw.resolve_right hK
        refine ⟨by simp [h.len], .inr ⟨j, (hmem j).2 (.inr rfl), hF, rfl, hset' _, fun a ha haF => ?_⟩, fun a ha b hb haF hbF => ?_⟩
        · rcases (hmem a).1 ha with ha | ea
          · obtain ⟨q1, q2⟩ := z5 a ha haF
            refine ⟨.inl ?_, by show byt (p.1.set j _) a ≤ p.2.1 + 1; rw [hset _ a ha]; omega⟩
            rcases q1 with q1 | q1
            · exact lx_trans q1 hlt'
            · rw [q1]; exact hlt'
          · subst ea
            exact ⟨.inr rfl, by show byt (p.1.set a _) a ≤ _; rw [hset']; exact Nat.le_refl _⟩
        · show (_ → byt (p.1.set j _) a < byt (p.1.set j _) b) ∧ (_ → byt (p.1.set j _) a = byt (p.1.set j _) b)
          have below : ∀ a ∈ order.take i, a ∈ firstL s → lx (kyL s a) (kyL s j) = true := fun a ha haF => by
            rcases (z5 a ha haF).1 with q1 | q1
            · exact lx_trans q1 hlt'
            · rw [q1]; exact hlt'
          rcases (hmem a).1 ha with ha | ea
          · rw [hset _ a ha]
            rcases (hmem b).1 hb with hb | eb
            · rw [hset _ b hb]; exact h.cmp a ha b hb haF hbF
            · subst eb
              rw [hset']
              have := (z5 a ha haF).2
              refine ⟨fun _ => by omega, fun e => ?_⟩
              have := below a ha haF
              rw [e, lx_irr] at this; cases this
          · subst ea
            rw [hset']
            rcases (hmem b).1 hb with hb | eb
            · rw [hset _ b hb]
              have := below b hb hbF
              refine ⟨fun e => (by rw [lx_asym this] at e; cases e), fun e => ?_⟩
              rw [e, lx_irr] at this; cases this
            · subst eb
              rw [hset']
              exact ⟨fun h => (by rw [lx_irr] at h; cases h), fun _ => rfl⟩
  · have hnx : byt (nxL s (firstL s)) j = 0 := nxF_out hF
    rw [nmSt, if_pos hnx]
    have same : ∀ a ∈ order.take (i + 1), a ∈ firstL s → a ∈ order.take i := fun a ha haF => ((hmem a).1 ha).resolve_right fun e => hF (by rw [← e]; exact haF)
    refine ⟨h.len, ?_, fun a ha b hb haF hbF => h.cmp a (same a ha haF) b (same b hb hbF) haF hbF⟩
    rcases h.cur with ⟨c1, c2, c3⟩ | ⟨z, z1, z2, z3, z4, z5⟩
    · refine .inl ⟨c1, c2, fun a ha haF => ?_⟩
      rcases (hmem a).1 ha with ha | rfl
      · exact c3 a ha haF
      · exact hF haF
    · exact .inr ⟨z, (hmem z).2 (.inl z1), z2, z3, z4, fun a ha haF => z5 a (same a ha haF) haF⟩
theorem NI.run {order : List Nat} {f : Nat → Nat} (hnd : order.Nodup) (hlt : ∀ x ∈ order, x < s.length) (hs : order.Pairwise fun a b => lx (wS s f a) (wS s f b) = true) : ∀ i, i ≤ order.length → NI s order i (nmRun s (nxL s (firstL s)) order i)
  | 0, _ => ⟨by simp [nmRun], .inl ⟨rfl, rfl, by simp⟩, by simp⟩
  | i + 1, hi => (NI.run hnd hlt hs i (by omega)).step (by omega) hnd hlt hs

/-- The names' endings stand as the places' do. -/
theorem nms_drop {order : List Nat} {f : Nat → Nat} (hp : order.Perm (List.range s.length)) (hs : order.Pairwise fun a b => lx (wS s f a) (wS s f b) = true) :
    ∀ d r q, (firstL s).length - r ≤ d → r < (firstL s).length → q < (firstL s).length → lx ((nmsL s (firstL s) order).drop r) ((nmsL s (firstL s) order).drop q) = true → lx (s.drop (byt (firstL s) r)) (s.drop (byt (firstL s) q)) = true := by
  have hnd : order.Nodup := hp.nodup_iff.2 List.nodup_range
  have hlt : ∀ x ∈ order, x < s.length := fun x hx => List.mem_range.1 (hp.mem_iff.1 hx)
  have hI := NI.run hnd hlt hs order.length (Nat.le_refl _)
  have hin : ∀ a ∈ firstL s, a ∈ order.take order.length := fun a ha => by
    rw [List.take_length]; exact hp.mem_iff.2 (List.mem_range.2 (firstL_mem.1 ha).1)
  have hnl : (nmsL s (firstL s) order).length = (firstL s).length := by simp [nmsL]
  have hat : ∀ r, r < (firstL s).length → byt (nmsL s (firstL s) order) r = byt (nmRun s (nxL s (firstL s)) order order.length).1 (byt (firstL s) r) := fun r hr => by
    rw [byt_eq (by rw [hnl]; exact hr), byt_eq hr]; simp [nmsL]
  obtain ⟨ns, hns⟩ : ∃ ns, nmsL s (firstL s) order = ns := ⟨_, rfl⟩
  obtain ⟨p, hpp⟩ : ∃ p, nmRun s (nxL s (firstL s)) order order.length = p := ⟨_, rfl⟩
  rw [hns] at hnl hat ⊢
  rw [hpp] at hI hat
  intro d
  induction d with
  | zero => intro r q hd hr; omega
  | succ d ih =>
    intro r q hd hr hq h
    have ha := firstL_at hr
    have hb := firstL_at hq
    have ka := nxOk ha
    have kb := nxOk hb
    have c1 := hI.cmp _ (hin _ ha) _ (hin _ hb) ha hb
    have c2 := hI.cmp _ (hin _ hb) _ (hin _ ha) hb ha
    rw [lx_drop (by omega) (by omega), nth_byt, nth_byt, hat r hr, hat q hq] at h
    rcases lx_tri (kyL s (byt (firstL s) r)) (kyL s (byt (firstL s) q)) with h1 | h1 | h1
    · exact drop_of_ky ka kb h1
    · have e := c1.2 h1
      rw [if_neg (by omega), if_neg (by omega)] at h
      by_cases hrq : r = q
      · subst hrq; rw [lx_irr] at h; cases h
      have hne : byt (firstL s) r ≠ byt (firstL s) q := fun e => hrq (by
        rcases Nat.lt_trichotomy r q with h5 | h5 | h5
        · have := firstL_lt2 h5 hq; omega
        · exact h5
        · have := firstL_lt2 h5 hr; omega)
      have n1 : nxF s (byt (firstL s) r) ≠ s.length := fun e1 => by
        by_cases e2 : nxF s (byt (firstL s) q) = s.length
        · exact hne (last_uniq ha hb e1 e2)
        · exact ky_last kb ka e2 e1 h1.symm
      have n2 : nxF s (byt (firstL s) q) ≠ s.length := fun e2 => ky_last ka kb n1 e2 h1
      rw [drop_of_same ka kb n1 n2 h1]
      have m1 := nxF_at hr
      have m2 := nxF_at hq
      by_cases l1 : r + 1 < (firstL s).length
      · by_cases l2 : q + 1 < (firstL s).length
        · rw [if_pos l1] at m1
          rw [if_pos l2] at m2
          rw [m1, m2]
          exact ih (r + 1) (q + 1) (by omega) l1 l2 h
        · rw [if_neg l2] at m2; exact absurd m2 n2
      · rw [if_neg l1] at m1; exact absurd m1 n1
    · have := c2.1 h1
      rw [if_neg (by omega), if_pos this] at h; cases h
theorem firstL_len_lt (hn : 0 < s.length) : (firstL s).length < s.length := by
  have h : (firstL s).length ≤ ((List.range s.length).filter fun x => decide (0 < x)).length := by
    refine nodup_sub_len' (firstL_nd s) fun x hx => ?_
    have := firstL_mem.1 hx
    simp; omega
  have h2 : 0 ∉ (List.range s.length).filter fun x => decide (0 < x) := by simp
  have h3 : ((List.range s.length).filter fun x => decide (0 < x)).length < (List.range s.length).length := by
    have h4 := nodup_sub_len' (l := 0 :: (List.range s.length).filter fun x => decide (0 < x)) (m := List.range s.length) (List.nodup_cons.2 ⟨h2, List.Nodup.sublist List.filter_sublist List.nodup_range⟩) (fun x hx => by
      rcases List.mem_cons.1 hx with rfl | hx
      · exact List.mem_range.2 hn
      · exact (List.mem_filter.1 hx).1)
    simp at h4 ⊢; omega
  simp at h3; omega
end

theorem srt_eq' {l m : List Int} (h : l.Perm m) (hm : m.Pairwise (· ≤ ·)) : srt l = m :=
  List.Perm.eq_of_pairwise (fun x y _ _ h1 h2 => Int.le_antisymm h1 h2) (srt_up l) hm ((List.mergeSort_perm _ _).trans h)
theorem zs_up {l : List Nat} (h : l.Pairwise (· < ·)) : (zs l).Pairwise (· ≤ ·) := by
  unfold zs; rw [List.pairwise_map]; exact h.imp fun h => by omega

/-- Endings in order, by induced sorting: it goes through, and it is right. -/
theorem sais_all : ∀ (f : Nat) (s : List Nat) (k : Nat), s.length < f → s.length ≤ 1000000 → k ≤ 1048576 → (∀ x ∈ s, x < k) → SaisOk f s k ∧ SA s (saisF f s k) := by
  intro f
  induction f with
  | zero => intro s k h; omega
  | succ f ih =>
    intro s k hf hl hk hsk
    have hup := firstL_up s
    have hsr : srt (zs (firstL s)) = zs (firstL s) := srt_eq' (List.Perm.refl _) (zs_up hup)
    by_cases hn : 0 < s.length
    · obtain ⟨hi, R, hR1, hR2, hR3⟩ := ind_all (first := firstL s) hn hsk (List.Perm.refl _)
      have e : indL s k (firstL s) = zs R := by unfold indL; rw [if_neg (by omega), hR1]
      have eN : nats (indL s k (firstL s)) = R := by rw [e, nats_zs]
      have hRl : R.length = s.length := by rw [hR2.length_eq]; simp
      have hsF : saisF (f + 1) s k = if (firstL s).length < 2 then nats (indL s k (firstL s)) else nats (indL s k ((saisF f (nmsL s (firstL s) (nats (indL s k (firstL s)))) (nmsN s (firstL s) (nats (indL s k (firstL s))))).map (byt (firstL s)))) := rfl
      have hSk : SaisOk (f + 1) s k = (k ≤ 1048576 ∧ (∀ x ∈ s, x < k) ∧ srt (zs (firstL s)) = zs (firstL s) ∧ (0 < s.length → IndOk s k (firstL s)) ∧ indL s k (firstL s) = zs (nats (indL s k (firstL s))) ∧
        (¬ (firstL s).length < 2 →
          (∀ x ∈ nats (indL s k (firstL s)), x < s.length) ∧ (∀ x ∈ nats (indL s k (firstL s)), byt (nxL s (firstL s)) x ≠ 0 → x ≤ pcE s (nxL s (firstL s)) x) ∧
          SaisOk f (nmsL s (firstL s) (nats (indL s k (firstL s)))) (nmsN s (firstL s) (nats (indL s k (firstL s)))) ∧
          (∀ x ∈ saisF f (nmsL s (firstL s) (nats (indL s k (firstL s)))) (nmsN s (firstL s) (nats (indL s k (firstL s)))), x < (firstL s).length) ∧
          srt (zs ((saisF f (nmsL s (firstL s) (nats (indL s k (firstL s)))) (nmsN s (firstL s) (nats (indL s k (firstL s))))).map (byt (firstL s)))) = zs (firstL s) ∧
          (0 < s.length → IndOk s k ((saisF f (nmsL s (firstL s) (nats (indL s k (firstL s)))) (nmsN s (firstL s) (nats (indL s k (firstL s))))).map (byt (firstL s)))) ∧
          indL s k ((saisF f (nmsL s (firstL s) (nats (indL s k (firstL s)))) (nmsN s (firstL s) (nats (indL s k (firstL s))))).map (byt (firstL s))) = zs (nats (indL s k ((saisF f (nmsL s (firstL s) (nats (indL s k (firstL s)))) (nmsN s (firstL s) (nats (indL s k (firstL s))))).map (byt (firstL s))))))) := rfl
      rw [hSk, hsF, eN, e]
      by_cases c : (firstL s).length < 2
      · rw [if_pos c]
        refine ⟨⟨hk, hsk, hsr, fun _ => hi, rfl, fun h => absurd c h⟩, ?_⟩
        have hp : (firstL s).Pairwise fun i j => lx (s.drop i) (s.drop j) = true := by
          obtain ⟨F, hF⟩ : ∃ F, firstL s = F := ⟨_, rfl⟩
          rw [hF] at c ⊢
          match F, c with
          | [], _ => exact List.Pairwise.nil
          | [x], _ => exact List.pairwise_singleton _ _
          | x :: y :: F, c => simp at c; omega
        have := (ind_sa hn hsk (List.Perm.refl _) hp).2
        rwa [eN] at this
      · rw [if_neg c]
        have hRlt : ∀ x ∈ R, x < s.length := fun x hx => List.mem_range.1 (hR2.mem_iff.1 hx)
        have hnl : (nmsL s (firstL s) R).length = (firstL s).length := by simp [nmsL]
        have hfl := firstL_len_lt hn
        have hcnt := nmRun_n s (nxL s (firstL s)) R R.length
        have hnN : nmsN s (firstL s) R = (nmRun s (nxL s (firstL s)) R R.length).2.1 + 1 := rfl
        have hns : ∀ x ∈ nmsL s (firstL s) R, x < nmsN s (firstL s) R := fun x hx => by
          obtain ⟨y, hy, rfl⟩ := List.mem_map.1 hx
          rw [hnN]
          by_cases hyl : y < (nmRun s (nxL s (firstL s)) R R.length).1.length
          · have := nmRun_le R.length (byt (nmRun s (nxL s (firstL s)) R R.length).1 y) (by rw [byt_eq hyl]; exact List.getElem_mem hyl)
            omega
          · simp [byt, List.getElem?_eq_none (show (nmRun s (nxL s (firstL s)) R R.length).1.length ≤ y by omega)]
        obtain ⟨hok, hSA⟩ := ih (nmsL s (firstL s) R) (nmsN s (firstL s) R) (by omega) (by omega) (by omega) hns
        obtain ⟨A, hA⟩ : ∃ A, saisF f (nmsL s (firstL s) R) (nmsN s (firstL s) R) = A := ⟨_, rfl⟩
        rw [hA] at hSA ⊢
        have hAlt : ∀ x ∈ A, x < (firstL s).length := fun x hx => by have := List.mem_range.1 (hSA.perm.mem_iff.1 hx); omega
        have hAp : (A.map (byt (firstL s))).Perm (firstL s) := by
          have := hSA.perm.map (byt (firstL s))
          rw [hnl, map_byt] at this; exact this
        have hApw : (A.map (byt (firstL s))).Pairwise fun i j => lx (s.drop i) (s.drop j) = true := by
          rw [List.pairwise_map]
          refine hSA.srt.imp_of_mem ?_
          intro a b ha hb h
          exact nms_drop hR2 hR3 _ a b (Nat.le_refl _) (hAlt a ha) (hAlt b hb) h
        obtain ⟨g1, g2⟩ := ind_sa hn hsk hAp hApw
        refine ⟨⟨hk, hsk, hsr, fun _ => hi, rfl, fun _ => ⟨hRlt, fun x hx h0 => ?_, hok, hAlt, ?_, fun _ => (ind_all hn hsk hAp).1, g1⟩⟩, g2⟩
        · by_cases hF : x ∈ firstL s
          · have kx := nxOk hF
            have := kx.hi
            have := kx.lt
            rw [pcE_eq]; omega
          · exact absurd (nxF_out hF) h0
        · exact srt_eq' (hAp.map _) (zs_up hup)
    · have h0 : s = [] := List.eq_nil_of_length_eq_zero (by omega)
      subst h0
      have hF : firstL ([] : List Nat) = [] := rfl
      have hI : indL ([] : List Nat) k (firstL []) = [] := rfl
      refine ⟨⟨hk, hsk, hsr, fun h => absurd h hn, by rw [hI]; rfl, fun h => absurd (by rw [hF]; decide) h⟩, ?_⟩
      have e : saisF (f + 1) ([] : List Nat) k = [] := by rw [saisF, hF, if_pos (by decide)]; rfl
      rw [e]
      exact ⟨List.Perm.refl _, List.Pairwise.nil⟩
end Go.Proofs.Ytdpkhijbikbhnaa
