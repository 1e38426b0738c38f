import Derived.Test.YtdpkhijbikbhnaaT31
import Derived.Test.YtdpkhijbikbhnaaAA
import Derived.Test.YtdpkhijbikbhnaaT36
namespace Go.Proofs.Ytdpkhijbikbhnaa
open Plain
set_option linter.unusedSimpArgs false
set_option linter.unusedVariables false

/-- The first n numbers of an ending. -/
def wN (s : List Nat) (n i : Nat) : List Nat := (s.drop i).take n
/-- How many endings begin with less. -/
def cntW (s : List Nat) (n i : Nat) : Nat := (List.range s.length).countP fun x => lx (wN s n x) (wN s n i)
section
variable {s : List Nat} {n : Nat}
theorem cntW_le {i j : Nat} (h : ∀ x, x < s.length → lx (wN s n x) (wN s n i) = true → lx (wN s n x) (wN s n j) = true) : cntW s n i ≤ cntW s n j := by
  unfold cntW
  exact List.countP_mono_left fun x hx h1 => h x (List.mem_range.1 hx) h1
theorem cntW_lt {i j : Nat} (hi : i < s.length) (h : lx (wN s n i) (wN s n j) = true) : cntW s n i < cntW s n j := by
  unfold cntW
  have h1 : ((List.range s.length).countP fun x => lx (wN s n x) (wN s n i)) ≤ (((List.range s.length).erase i).countP fun x => lx (wN s n x) (wN s n j)) := by
    have e := (List.perm_cons_erase (List.mem_range.2 hi)).countP_eq fun x => lx (wN s n x) (wN s n i)
    rw [e, List.countP_cons, lx_irr]
    simp only [Bool.false_eq_true, if_false, Nat.add_zero]
    exact List.countP_mono_left fun x _ hx => lx_trans hx h
  have e := (List.perm_cons_erase (List.mem_range.2 hi)).countP_eq fun x => lx (wN s n x) (wN s n j)
  rw [e, List.countP_cons, h]
  simp only [if_true]
  omega
theorem cntW_eq {i j : Nat} (h : wN s n i = wN s n j) : cntW s n i = cntW s n j := by unfold cntW; rw [h]
theorem cntW_iff {i j : Nat} (hi : i < s.length) (hj : j < s.length) : cntW s n i < cntW s n j ↔ lx (wN s n i) (wN s n j) = true := by
  constructor
  · intro h
    rcases lx_tri (wN s n i) (wN s n j) with h1 | h1 | h1
    · exact h1
    · rw [cntW_eq h1] at h; omega
    · have := cntW_lt hj h1; omega
  · exact cntW_lt hi
theorem cntW_iff2 {i j : Nat} (hi : i < s.length) (hj : j < s.length) : cntW s n i = cntW s n j ↔ wN s n i = wN s n j := by
  constructor
  · intro h
    rcases lx_tri (wN s n i) (wN s n j) with h1 | h1 | h1
    · have := cntW_lt hi h1; omega
    · exact h1
    · have := cntW_lt hj h1; omega
  · exact cntW_eq
theorem wN_add (s : List Nat) (h n i : Nat) : wN s (h + n) i = wN s h i ++ wN s n (i + h) := by
  unfold wN; rw [List.take_add, List.drop_drop]
theorem wN_end {i : Nat} (h : s.length ≤ i) : wN s n i = [] := by unfold wN; rw [List.drop_eq_nil_of_le h]; simp
theorem wN_pos {i : Nat} (h : i < s.length) (hn : 1 ≤ n) : ∃ x tl, wN s n i = x :: tl := by
  unfold wN; rw [drop_cons h, show n = (n - 1) + 1 by omega, List.take_succ_cons]; exact ⟨_, _, rfl⟩

/-- l is the ranks by n numbers. -/
def IsRk (s : List Nat) (n : Nat) (l : List Nat) : Prop := l.length = s.length ∧ ∀ i, i < s.length → byt l i = cntW s n i
theorem dr_rk (s : List Nat) : IsRk s 1 (drL s) := by
  refine ⟨drL_len s, fun i hi => ?_⟩
  rw [drL_at hi]
  unfold cntW
  have e : (s.countP fun y => decide (y < byt s i)) = (((List.range s.length).map (byt s)).countP fun y => decide (y < byt s i)) := by rw [map_byt]
  rw [e, List.countP_map]
  apply List.countP_congr
  intro x hx
  have hx := List.mem_range.1 hx
  have w : ∀ j, j < s.length → wN s 1 j = [byt s j] := fun j hj => by unfold wN; rw [drop_cons hj]; rfl
  rw [w x hx, w i hi, lx]
  simp only [Function.comp]
  by_cases c : byt s x < byt s i
  · simp [c]
  · simp [c, lx]

section
variable {l : List Nat} {h : Nat}
theorem sec_iff (hr : IsRk s n l) (hn : 1 ≤ n) {a b : Nat} (ha : a < s.length) (hb : b < s.length) : (onN l a h < onN l b h ↔ lx (wN s n (a + h)) (wN s n (b + h)) = true) ∧ (onN l a h = onN l b h ↔ wN s n (a + h) = wN s n (b + h)) := by
  unfold onN
  rw [hr.1]
  by_cases c1 : s.length ≤ a + h
  · rw [if_pos c1, wN_end c1]
    by_cases c2 : s.length ≤ b + h
    · rw [if_pos c2, wN_end c2]; simp [lx]
    · rw [if_neg c2]
      obtain ⟨x, tl, e⟩ := wN_pos (s := s) (n := n) (show b + h < s.length by omega) hn
      rw [e]; simp [lx]
  · rw [if_neg c1]
    by_cases c2 : s.length ≤ b + h
    · rw [if_pos c2, wN_end c2]
      obtain ⟨x, tl, e⟩ := wN_pos (s := s) (n := n) (show a + h < s.length by omega) hn
      rw [e]; simp [lx]
    · rw [if_neg c2, hr.2 _ (by omega), hr.2 _ (by omega)]
      have e1 := cntW_iff (s := s) (n := n) (i := a + h) (j := b + h) (by omega) (by omega)
      have e2 := cntW_iff2 (s := s) (n := n) (i := a + h) (j := b + h) (by omega) (by omega)
      constructor
      · rw [← e1]; omega
      · rw [← e2]; omega
/-- Both numbers tell how endings stand by n + h numbers. -/
theorem pair_iff (hr : IsRk s n l) (hn : 1 ≤ n) (hh : h ≤ n) {a b : Nat} (ha : a < s.length) (hb : b < s.length) :
    (byt l a < byt l b ∨ byt l a = byt l b ∧ onN l a h < onN l b h) ↔ lx (wN s (n + h) a) (wN s (n + h) b) = true := by
  rw [hr.2 a ha, hr.2 b hb]
  obtain ⟨s1, s2⟩ := sec_iff (h := h) hr hn ha hb
  rw [s1]
  have e1 := cntW_iff (s := s) (n := n) ha hb
  have e2 := cntW_iff2 (s := s) (n := n) ha hb
  have big : ∀ a b, a < s.length → lx (wN s n a) (wN s n b) = true → lx (wN s (n + h) a) (wN s (n + h) b) = true := fun a b ha hl => by
    rw [wN_add, wN_add]
    rcases lx_app hl with ⟨u, hu⟩ | h2
    · have hlen : (wN s n a).length + u.length ≤ n := by rw [← List.length_append, ← hu]; unfold wN; simp; omega
      cases u with
      | nil => rw [hu, List.append_nil, lx_irr] at hl; cases hl
      | cons x u =>
        have hal : (wN s n a).length = min n (s.length - a) := by simp [wN]
        have : s.length ≤ a + n := by simp at hlen; omega
        rw [wN_end this, List.append_nil, hu, List.append_assoc]
        have := lx_same (wN s n a) [] (x :: u ++ wN s h (b + n))
        rw [List.append_nil] at this
        rw [this]; rfl
    · exact h2 _ _
  have same : wN s n a = wN s n b → lx (wN s (n + h) a) (wN s (n + h) b) = lx (wN s n (a + h)) (wN s n (b + h)) := fun e => by
    have e3 : wN s h a = wN s h b := by
      have t : ∀ x, wN s h x = (wN s n x).take h := fun x => by unfold wN; rw [List.take_take, Nat.min_eq_left hh]
      rw [t, t, e]
    rw [Nat.add_comm n h, wN_add, wN_add, e3, lx_same]
  constructor
  · rintro (h1 | ⟨h1, h2⟩)
    · exact big a b ha (e1.1 h1)
    · rw [same (e2.1 h1)]; exact h2
  · intro h1
    rcases lx_tri (wN s n a) (wN s n b) with h2 | h2 | h2
    · exact .inl (e1.2 h2)
    · rw [same h2] at h1; exact .inr ⟨e2.2 h2, h1⟩
    · have := big b a hb h2
      rw [lx_asym this] at h1; cases h1
theorem joL_sorted (hl : ∀ x ∈ l, x < l.length) : (joL l h).Pairwise fun a b => byt l a < byt l b ∨ byt l a = byt l b ∧ (byt (secL l h) a < byt (secL l h) b ∨ byt (secL l h) a = byt (secL l h) b ∧ a < b) := by
  refine passL_sorted (fun x hx => hl _ (by rw [byt_eq (jo1_lt hl x hx)]; exact List.getElem_mem _)) (passL_sorted (fun x hx => ?_) List.pairwise_lt_range)
  have hx : x < l.length := List.mem_range.1 hx
  exact secL_lt hl _ (by rw [byt_eq (by rw [secL_len]; exact hx)]; exact List.getElem_mem _)
theorem count_pre {o : List Nat} {p : Nat → Bool} {q : Nat} (hq : q ≤ o.length) (h1 : ∀ t, t < q → p (byt o t) = true) (h2 : ∀ t, q ≤ t → t < o.length → p (byt o t) = false) : o.countP p = q := by
  rw [← List.take_append_drop q o, List.countP_append]
  have e1 : (o.take q).countP p = q := by
    have : (o.take q).countP p = (o.take q).length := by
      rw [List.countP_eq_length]
      intro x hx
      obtain ⟨t, ht, rfl⟩ := List.mem_iff_getElem.1 hx
      have ht' : t < q ∧ t < o.length := by simp at ht; omega
      have := h1 t ht'.1
      rw [byt_eq ht'.2] at this
      rw [List.getElem_take]; exact this
    rw [this]; simp; omega
  have e2 : (o.drop q).countP p = 0 := by
    rw [List.countP_eq_zero]
    intro x hx
    obtain ⟨t, ht, rfl⟩ := List.mem_iff_getElem.1 hx
    have ht' : q + t < o.length := by simp at ht; omega
    have := h2 (q + t) (by omega) ht'
    rw [byt_eq ht'] at this
    rw [List.getElem_drop, this]; simp
  omega
theorem jn_rk (hr : IsRk s n l) (hl : ∀ x ∈ l, x < l.length) (hn : 1 ≤ n) (hh : h ≤ n) : IsRk s (n + h) (jnL l h) := by
  have hll := hr.1
  have hol := joL_len l h
  have hop := joL_perm (h := h) hl
  have hsrt := joL_sorted (h := h) hl
  have hlt : ∀ q, q < l.length → byt (joL l h) q < l.length := fun q hq => joL_lt hl _ (by rw [byt_eq (by omega)]; exact List.getElem_mem _)
  have hnd : (joL l h).Nodup := hop.nodup_iff.2 List.nodup_range
  have hinj : ∀ q t, q < l.length → t < l.length → byt (joL l h) q = byt (joL l h) t → q = t := fun q t hq ht e => by
    have h1 := List.Nodup.idxOf_getElem hnd q (by omega)
    have h2 := List.Nodup.idxOf_getElem hnd t (by omega)
    rw [byt_eq (by omega), byt_eq (by omega)] at e
    rw [← h1, ← h2, e]
  have hs : ∀ x, x < l.length → byt (secL l h) x = onN l x h := fun x hx => secL_at hx
  -- how two places of the order stand
  have ord : ∀ q t, q < t → t < l.length → lx (wN s (n + h) (byt (joL l h) q)) (wN s (n + h) (byt (joL l h) t)) = true ∨ jnB l h (byt (joL l h) q) (byt (joL l h) t) = true := fun q t hqt ht => by
    have h1 := List.pairwise_iff_getElem.1 hsrt q t (by omega) (by omega) hqt
    rw [← byt_eq (by omega), ← byt_eq (by omega)] at h1
    have b1 := hlt q (by omega)
    have b2 := hlt t ht
    rw [hs _ b1, hs _ b2] at h1
    rcases h1 with h1 | ⟨h1, h2 | ⟨h2, h3⟩⟩
    · exact .inl ((pair_iff hr hn hh (by omega) (by omega)).1 (.inl h1))
    · exact .inl ((pair_iff hr hn hh (by omega) (by omega)).1 (.inr ⟨h1, h2⟩))
    · right; unfold jnB; rw [hs _ b1, hs _ b2]; simp [h1, h2]
  have eqv : ∀ x y, x < l.length → y < l.length → jnB l h x y = true → wN s (n + h) x = wN s (n + h) y := fun x y hx hy hb => by
    unfold jnB at hb
    rw [hs x hx, hs y hy] at hb
    simp only [Bool.and_eq_true, decide_eq_true_eq] at hb
    rcases lx_tri (wN s (n + h) x) (wN s (n + h) y) with h1 | h1 | h1
    · have := (pair_iff hr hn hh (by omega) (by omega)).2 h1; omega
    · exact h1
    · have := (pair_iff hr hn hh (by omega) (by omega)).2 h1; omega
  have cnt : ∀ q, q < l.length → (q = 0 ∨ jnB l h (byt (joL l h) (q - 1)) (byt (joL l h) q) = false) → cntW s (n + h) (byt (joL l h) q) = q := fun q hq hB => by
    unfold cntW
    rw [← hll, ← hop.countP_eq]
    refine count_pre (by omega) (fun t ht => ?_) (fun t h1 h2 => ?_)
    · by_cases e : t = q - 1
      · subst e
        exact (ord (q - 1) q (by omega) hq).resolve_right (by rw [hB.resolve_left (by omega)]; simp)
      · have h3 := (ord (q - 1) q (by omega) hq).resolve_right (by rw [hB.resolve_left (by omega)]; simp)
        rcases ord t (q - 1) (by omega) (by omega) with h4 | h4
        · exact lx_trans h4 h3
        · rw [eqv _ _ (hlt t (by omega)) (hlt (q - 1) (by omega)) h4]; exact h3
    · by_cases e : t = q
      · subst e; exact lx_irr _
      · rcases ord q t (by omega) (by omega) with h4 | h4
        · exact lx_asym h4
        · rw [eqv _ _ (hlt q hq) (hlt t (by omega)) h4]; exact lx_irr _
  have main : ∀ i, i ≤ l.length → ∀ q, q < i → byt (jnRun l h i) (byt (joL l h) q) = cntW s (n + h) (byt (joL l h) q) := by
    intro i
    induction i with
    | zero => intro _ q hq; omega
    | succ i ih =>
      intro hi q hq
      have ih := ih (by omega)
      have hrl := jnRun_len l h i
      have hb := hlt i (by omega)
      rw [jnRun]
      by_cases c : 0 < i ∧ jnB l h (byt (joL l h) (i - 1)) (byt (joL l h) i) = true
      · rw [if_pos c]
        have hne : byt (joL l h) (i - 1) ≠ byt (joL l h) i := fun e => by have := hinj _ _ (by omega) (by omega) e; omega
        have hv : byt ((jnRun l h i).set (byt (joL l h) i) i) (byt (joL l h) (i - 1)) = cntW s (n + h) (byt (joL l h) (i - 1)) := by
          rw [byt_set (by omega), if_neg hne]; exact ih _ (by omega)
        rw [byt_set (by simp; omega)]
        by_cases e : q = i
        · subst e
          rw [if_pos rfl, hv]
          exact cntW_eq (eqv _ _ (hlt (q - 1) (by omega)) hb c.2)
        · rw [if_neg (fun e2 => e (hinj _ _ (by omega) (by omega) e2)), byt_set (by omega), if_neg (fun e2 => e (hinj _ _ (by omega) (by omega) e2))]
          exact ih q (by omega)
      · rw [if_neg c, byt_set (by omega)]
        by_cases e : q = i
        · subst e
          rw [if_pos rfl]
          refine (cnt q (by omega) ?_).symm
          by_cases h0 : q = 0
          · exact .inl h0
          · right
            cases hB : jnB l h (byt (joL l h) (q - 1)) (byt (joL l h) q) with
            | false => rfl
            | true => exact absurd ⟨by omega, hB⟩ c
        · rw [if_neg (fun e2 => e (hinj _ _ (by omega) (by omega) e2))]
          exact ih q (by omega)
  refine ⟨by rw [jnL_len, hll], fun x hx => ?_⟩
  have hm : x ∈ joL l h := hop.mem_iff.2 (List.mem_range.2 (by omega))
  obtain ⟨q, hq, e⟩ := List.mem_iff_getElem.1 hm
  have e2 : byt (joL l h) q = x := by rw [byt_eq hq]; exact e
  have := main l.length (Nat.le_refl _) q (by omega)
  rw [e2] at this; exact this
end
theorem rkF_rk : ∀ (f : Nat) (l : List Nat) (n h : Nat), IsRk s n l → (∀ x ∈ l, x < l.length) → 1 ≤ n → n ≤ h → h - n ≤ f → IsRk s h (rkF f l n h)
  | 0, l, n, h, hr, _, _, h1, h2 => by rw [rkF, show h = n by omega]; exact hr
  | f + 1, l, n, h, hr, hl, h0, h1, h2 => by
    rw [rkF]
    by_cases c : n < h
    · rw [if_pos c]
      exact rkF_rk f _ _ h (jn_rk hr hl h0 (Nat.min_le_left _ _)) (jnL_lt _ _) (by omega) (by omega) (by omega)
    · rw [if_neg c, show h = n by omega]; exact hr
theorem ouRun_at {r : List Nat} (hi : ∀ a b, a < r.length → b < r.length → byt r a = byt r b → a = b) (hl : ∀ x ∈ r, x < r.length) : ∀ i, i ≤ r.length → ∀ a, a < i → byt (ouRun r i) (byt r a) = a
  | 0, _, a, h => by omega
  | i + 1, h, a, ha => by
    have hb : byt r i < r.length := hl _ (by rw [byt_eq (by omega)]; exact List.getElem_mem _)
    rw [ouRun, byt_set (by rw [ouRun_len]; exact hb)]
    by_cases e : a = i
    · subst e; rw [if_pos rfl]
    · rw [if_neg (fun e2 => e (hi a i (by omega) (by omega) e2))]
      exact ouRun_at hi hl i (by omega) a (by omega)
/-- Endings in order, by doubling. -/
theorem dbl_SA (s : List Nat) : SA s (dblL s) := by
  by_cases h0 : s.length = 0
  · obtain rfl : s = [] := List.eq_nil_of_length_eq_zero h0
    exact ⟨List.Perm.refl _, List.Pairwise.nil⟩
  have hrk : IsRk s s.length (drkL s s.length) := by
    unfold drkL
    rw [if_neg h0, Nat.min_self]
    exact rkF_rk _ _ 1 _ (dr_rk s) (drL_lt s) (Nat.le_refl _) (by omega) (by omega)
  have hrl := drkL_len s s.length
  have hlt := drkL_lt s s.length
  have hw : ∀ i, wN s s.length i = s.drop i := fun i => by unfold wN; rw [List.take_of_length_le]; simp
  have hcmp : ∀ a b, a < s.length → b < s.length → (byt (drkL s s.length) a < byt (drkL s s.length) b ↔ lx (s.drop a) (s.drop b) = true) := fun a b ha hb => by
    rw [hrk.2 a ha, hrk.2 b hb, cntW_iff ha hb, hw, hw]
  have hinj : ∀ a b, a < (drkL s s.length).length → b < (drkL s s.length).length → byt (drkL s s.length) a = byt (drkL s s.length) b → a = b := fun a b ha hb e => by
    rw [hrl] at ha hb
    rcases lx_tri (s.drop a) (s.drop b) with h | h | h
    · have := (hcmp a b ha hb).2 h; omega
    · exact drop_ne ha hb h
    · have := (hcmp b a hb ha).2 h; omega
  have hat := ouRun_at hinj (by rw [hrl]; exact hlt) s.length (by omega)
  have hdl := dblL_len s
  have hat' : ∀ a, a < s.length → byt (dblL s) (byt (drkL s s.length) a) = a := fun a ha => hat a ha
  have hb : ∀ a, a < s.length → byt (drkL s s.length) a < s.length := fun a ha => hlt _ (by rw [byt_eq (by omega)]; exact List.getElem_mem _)
  have hp : (dblL s).Perm (List.range s.length) := perm_of_sub List.nodup_range (fun x hx => by
    have hx := List.mem_range.1 hx
    have := hat' x hx
    rw [byt_eq (by rw [hdl]; exact hb x hx)] at this
    rw [← this]; exact List.getElem_mem _) (by rw [hdl]; simp)
  have hnd : (dblL s).Nodup := hp.nodup_iff.2 List.nodup_range
  refine ⟨hp, ?_⟩
  rw [List.pairwise_iff_getElem]
  intro r q hr hq hrq
  have pos : ∀ r (hr : r < (dblL s).length), (dblL s)[r] < s.length ∧ byt (drkL s s.length) (dblL s)[r] = r := fun r hr => by
    have h1 := List.mem_range.1 (hp.mem_iff.1 (List.getElem_mem hr))
    have h2 := hat' _ h1
    have h3 := hb _ h1
    rw [byt_eq (by omega)] at h2
    have e1 := List.Nodup.idxOf_getElem hnd r hr
    have e2 := List.Nodup.idxOf_getElem hnd (byt (drkL s s.length) (dblL s)[r]) (by omega)
    rw [h2] at e2
    exact ⟨h1, by rw [← e2, e1]⟩
  obtain ⟨p1, p2⟩ := pos r hr
  obtain ⟨p3, p4⟩ := pos q hq
  exact (hcmp _ _ p1 p3).1 (by omega)
end
end Go.Proofs.Ytdpkhijbikbhnaa

namespace Go.Proofs.Ytdpkhijbikbhnaa
open Plain
set_option linter.unusedSimpArgs false
set_option linter.unusedVariables false

section
variable {s : List Nat}
theorem key_lx (s : List Nat) (i j : Nat) : lx (s.drop i) (s.drop j) = if keyN s i < keyN s j then true else if keyN s j < keyN s i then false else lx (s.drop (i + 1)) (s.drop (j + 1)) := by
  unfold keyN
  by_cases hi : s.length ≤ i
  · rw [if_pos hi, List.drop_eq_nil_of_le hi, List.drop_eq_nil_of_le (show s.length ≤ i + 1 by omega)]
    by_cases hj : s.length ≤ j
    · rw [if_pos hj, List.drop_eq_nil_of_le hj, List.drop_eq_nil_of_le (show s.length ≤ j + 1 by omega)]; simp
    · rw [if_neg hj, drop_cons (show j < s.length by omega)]; simp [lx]
  · rw [if_neg hi]
    by_cases hj : s.length ≤ j
    · rw [if_pos hj, List.drop_eq_nil_of_le hj, lx_nil_r]; simp
    · rw [if_neg hj, lx_dropB (by omega) (by omega)]
      by_cases c1 : byt s i < byt s j
      · rw [if_pos c1, if_pos (by omega)]
      · rw [if_neg c1, if_neg (show ¬ byt s i + 1 < byt s j + 1 by omega)]
        by_cases c2 : byt s j < byt s i
        · rw [if_pos c2, if_pos (by omega)]
        · rw [if_neg c2, if_neg (by omega)]
/-- The first of three keys that differ is less. -/
def T3 (s : List Nat) (i j : Nat) : Prop := keyN s i < keyN s j ∨ keyN s i = keyN s j ∧ (keyN s (i + 1) < keyN s (j + 1) ∨ keyN s (i + 1) = keyN s (j + 1) ∧ keyN s (i + 2) < keyN s (j + 2))
theorem alB_iff {i j : Nat} : alB s i j = true ↔ keyN s i = keyN s j ∧ keyN s (i + 1) = keyN s (j + 1) ∧ keyN s (i + 2) = keyN s (j + 2) := by simp [alB]
theorem t3_tri (s : List Nat) (i j : Nat) : T3 s i j ∨ alB s i j = true ∨ T3 s j i := by
  rw [alB_iff]; unfold T3; omega
theorem t3_lx {i j : Nat} (h : T3 s i j) : lx (s.drop i) (s.drop j) = true := by
  rw [key_lx]
  rcases h with h | ⟨h1, h⟩
  · rw [if_pos h]
  rw [if_neg (by omega), if_neg (by omega), key_lx]
  rcases h with h | ⟨h2, h⟩
  · rw [if_pos h]
  rw [if_neg (by omega), if_neg (by omega), key_lx, if_pos h]
theorem al_lx {i j : Nat} (h : alB s i j = true) : lx (s.drop i) (s.drop j) = lx (s.drop (i + 3)) (s.drop (j + 3)) := by
  obtain ⟨h1, h2, h3⟩ := alB_iff.1 h
  have h3 : keyN s (i + 1 + 1) = keyN s (j + 1 + 1) := h3
  rw [key_lx, if_neg (by omega), if_neg (by omega), key_lx, if_neg (by omega), if_neg (by omega), key_lx, if_neg (by omega), if_neg (by omega)]
theorem al_in {i j : Nat} (h : alB s i j = true) (hne : i ≠ j) (hi : i < s.length) (hj : j < s.length) : i + 3 ≤ s.length ∧ j + 3 ≤ s.length := by
  obtain ⟨h1, h2, h3⟩ := alB_iff.1 h
  unfold keyN at h1 h2 h3
  split at h2 <;> split at h2 <;> split at h3 <;> split at h3 <;> omega

/-- How a sample's order stands. -/
theorem sk3_sorted {k : Nat} (hk : ∀ x ∈ s, x < k) : (sk3 s k).Pairwise fun a b => T3 s a b ∨ alB s a b = true := by
  have mem : ∀ r x, x ∈ sk3R s k r → x < s.length := fun r x hx => smpL_lt x ((sk3R_perm hk r).mem_iff.1 hx)
  have h1 : (sk3R s k 1).Pairwise fun a b => byt (keysL s 2) a < byt (keysL s 2) b ∨ byt (keysL s 2) a = byt (keysL s 2) b ∧ True :=
    passL_sorted (order := sk3R s k 0) (R := fun _ _ => True) (fun x hx => keysL_key hk (mem 0 x hx)) (by rw [List.pairwise_iff_getElem]; intros; trivial)
  have h2 := passL_sorted (order := sk3R s k 1) (keys := keysL s 1) (k := k + 1) (fun x hx => keysL_key hk (mem 1 x hx)) h1
  have h3 := passL_sorted (order := sk3R s k 2) (keys := keysL s 0) (k := k + 1) (fun x hx => keysL_key hk (mem 2 x hx)) h2
  refine List.Pairwise.imp_of_mem ?_ h3
  intro a b ha hb h
  have ha := mem 3 a ha
  have hb := mem 3 b hb
  simp only [keysL_at ha, keysL_at hb, Nat.add_zero] at h
  rw [alB_iff]
  unfold T3
  omega

/-- The ranks after i places. -/
structure RN (s o : List Nat) (i : Nat) (p : List Nat × Nat) : Prop where
  len : p.1.length = s.length + 3
  pos : ∀ q, q < i → 1 ≤ byt p.1 (byt o q) ∧ byt p.1 (byt o q) ≤ p.2
  last : 0 < i → byt p.1 (byt o (i - 1)) = p.2
  lt : ∀ q t, q < i → t < i → (T3 s (byt o q) (byt o t) → byt p.1 (byt o q) < byt p.1 (byt o t)) ∧ (alB s (byt o q) (byt o t) = true → byt p.1 (byt o q) = byt p.1 (byt o t))
  out : ∀ x, (∀ q, q < i → byt o q ≠ x) → byt p.1 x = 0
theorem t3_irr {i j : Nat} (h : T3 s i j) : ¬ T3 s j i ∧ alB s i j = false := by
  constructor
  · unfold T3 at *; omega
  · cases hb : alB s i j with
    | false => rfl
    | true => rw [alB_iff] at hb; unfold T3 at h; omega
theorem al_trans {i j k : Nat} (h1 : alB s i j = true) (h2 : alB s j k = true) : alB s i k = true := by
  rw [alB_iff] at *; omega
theorem al_symm {i j : Nat} (h1 : alB s i j = true) : alB s j i = true := by
  rw [alB_iff] at *; omega
theorem al_t3 {i j k : Nat} (h1 : alB s i j = true) : (T3 s k i ↔ T3 s k j) ∧ (T3 s i k ↔ T3 s j k) := by
  rw [alB_iff] at h1; unfold T3; obtain ⟨e1, e2, e3⟩ := h1; rw [e1, e2, e3]; exact ⟨Iff.rfl, Iff.rfl⟩
theorem t3_trans {i j k : Nat} (h1 : T3 s i j) (h2 : T3 s j k) : T3 s i k := by unfold T3 at *; omega
theorem RN.step {o : List Nat} {i : Nat} {p : List Nat × Nat} (h : RN s o i p) (hi : i < o.length) (hm : ∀ x ∈ o, x < s.length) (hnd : o.Nodup) (hs : o.Pairwise fun a b => T3 s a b ∨ alB s a b = true) :
    RN s o (i + 1) (p.1.set (byt o i) (if i = 0 ∨ alB s (byt o (i - 1)) (byt o i) = false then p.2 + 1 else p.2), if i = 0 ∨ alB s (byt o (i - 1)) (byt o i) = false then p.2 + 1 else p.2) := by
  have hinj : ∀ q t, q < o.length → t < o.length → byt o q = byt o t → q = t := fun q t hq ht e => by
    have h1 := List.Nodup.idxOf_getElem hnd q hq
    have h2 := List.Nodup.idxOf_getElem hnd t ht
    rw [byt_eq hq, byt_eq ht] at e
    rw [← h1, ← h2, e]
  have hxl : byt o i < p.1.length := by rw [h.len]; have := hm (byt o i) (by rw [byt_eq hi]; exact List.getElem_mem hi); omega
  have ord : ∀ q t, q < t → t < o.length → T3 s (byt o q) (byt o t) ∨ alB s (byt o q) (byt o t) = true := fun q t hqt ht => by
    have := List.pairwise_iff_getElem.1 hs q t (by omega) ht hqt
    rw [byt_eq (by omega), byt_eq ht]; exact this
  obtain ⟨c, hc⟩ : ∃ c, (if i = 0 ∨ alB s (byt o (i - 1)) (byt o i) = false then p.2 + 1 else p.2) = c := ⟨_, rfl⟩
  rw [hc]
  have hset : ∀ q, q < i → byt (p.1.set (byt o i) c) (byt o q) = byt p.1 (byt o q) := fun q hq => by
    rw [byt_set hxl, if_neg (fun e => by have := hinj q i (by omega) hi e; omega)]
  have hset' : byt (p.1.set (byt o i) c) (byt o i) = c := by rw [byt_set hxl, if_pos rfl]
  -- the new one against an earlier one
  have new : ∀ q, q < i → (T3 s (byt o q) (byt o i) → byt p.1 (byt o q) < c) ∧ (alB s (byt o q) (byt o i) = true → byt p.1 (byt o q) = c) := fun q hq => by
    have h1 := h.pos q hq
    by_cases c0 : i = 0 ∨ alB s (byt o (i - 1)) (byt o i) = false
    · rw [if_pos c0] at hc
      have hB := c0.resolve_left (by omega)
      refine ⟨fun _ => by omega, fun e => ?_⟩
      exfalso
      by_cases e2 : q = i - 1
      · subst e2; rw [hB] at e; cases e
      · have h3 := (ord (i - 1) i (by omega) hi).resolve_right (by rw [hB]; simp)
        rcases ord q (i - 1) (by omega) (by omega) with h4 | h4
        · have := (t3_irr (t3_trans h4 h3)).2; rw [this] at e; cases e
        · have := al_trans (al_symm h4) e
          rw [hB] at this; cases this
    · rw [if_neg c0] at hc
      have hB : alB s (byt o (i - 1)) (byt o i) = true := by
        cases hb : alB s (byt o (i - 1)) (byt o i) with
        | true => rfl
        | false => exact absurd (.inr hb) c0
      have hl := h.last (by omega)
      have h5 := h.lt q (i - 1) hq (by omega)
      rw [hl] at h5
      refine ⟨fun e => ?_, fun e => ?_⟩
      · rw [← hc]; exact h5.1 ((al_t3 hB).1.2 e)
      · rw [← hc]; exact h5.2 (al_trans e (al_symm hB))
  have cge : p.2 ≤ c := by rw [← hc]; split <;> omega
  have c1 : 1 ≤ c := by
    by_cases c0 : i = 0
    · rw [← hc, if_pos (.inl c0)]; omega
    · have := h.pos 0 (by omega); omega
  refine ⟨by simp [h.len], fun q hq => ?_, fun _ => by rw [Nat.add_sub_cancel]; exact hset', fun q t hq ht => ?_, fun x hx => ?_⟩
  · show 1 ≤ byt (p.1.set (byt o i) c) (byt o q) ∧ byt (p.1.set (byt o i) c) (byt o q) ≤ c
    by_cases e : q = i
    · subst e; rw [hset']; omega
    · rw [hset q (by omega)]; have := h.pos q (by omega); omega
  · show (_ → byt (p.1.set (byt o i) c) (byt o q) < byt (p.1.set (byt o i) c) (byt o t)) ∧ (_ → byt (p.1.set (byt o i) c) (byt o q) = byt (p.1.set (byt o i) c) (byt o t))
    by_cases eq : q = i
    · subst eq
      rw [hset']
      by_cases et : t = q
      · subst et
        rw [hset']
        exact ⟨fun e => absurd e (t3_irr e).1, fun _ => rfl⟩
      · rw [hset t (by omega)]
        have := ord t q (by omega) hi
        refine ⟨fun e => ?_, fun e => ((new t (by omega)).2 (al_symm e)).symm⟩
        rcases this with h4 | h4
        · exact absurd e (t3_irr h4).1
        · have := (t3_irr e).2; rw [al_symm h4] at this; cases this
    · rw [hset q (by omega)]
      by_cases et : t = i
      · subst et; rw [hset']; exact new q (by omega)
      · rw [hset t (by omega)]; exact h.lt q t (by omega) (by omega)
  · show byt (p.1.set (byt o i) c) x = 0
    rw [byt_set hxl, if_neg (fun e => hx i (by omega) e.symm)]
    exact h.out x fun q hq => hx q (by omega)
theorem RN.run {o : List Nat} (hm : ∀ x ∈ o, x < s.length) (hnd : o.Nodup) (hs : o.Pairwise fun a b => T3 s a b ∨ alB s a b = true) : ∀ i, i ≤ o.length → RN s o i (rnRun s o i)
  | 0, _ => ⟨by simp [rnRun], fun q hq => by omega, fun h => by omega, fun q t hq => by omega, fun x _ => by
      show byt (List.replicate (s.length + 3) 0) x = 0
      unfold byt
      by_cases e : x < s.length + 3
      · simp [e]
      · rw [List.getElem?_eq_none (by simp; omega)]; rfl⟩
  | i + 1, hi => by rw [rnRun_succ]; exact (RN.run hm hnd hs i (by omega)).step (by omega) hm hnd hs
/-- If all are different, there are as many as places. -/
theorem rn_all {o : List Nat} : ∀ i, (∀ q, 0 < q → q < i → alB s (byt o (q - 1)) (byt o q) = false) → (rnRun s o i).2 = i
  | 0, _ => rfl
  | i + 1, h => by
    rw [rnRun_succ2, rn_all i (fun q h1 h2 => h q h1 (by omega)), if_pos]
    by_cases e : i = 0
    · exact .inl e
    · exact .inr (h i (by omega) (by omega))
theorem rn_up {o : List Nat} : ∀ i, (rnRun s o i).2 = i → ∀ q, q < i → (rnRun s o q).2 = q := fun i h q hq => by
  have up : ∀ d, (rnRun s o (q + d)).2 ≤ (rnRun s o q).2 + d := by
    intro d
    induction d with
    | zero => exact Nat.le_refl _
    | succ d ih =>
      rw [← Nat.add_assoc, rnRun_succ2]
      split <;> omega
  have h1 := up (i - q)
  rw [show q + (i - q) = i by omega, h] at h1
  have := rnRun_n s o q
  omega
end
end Go.Proofs.Ytdpkhijbikbhnaa

namespace Go.Proofs.Ytdpkhijbikbhnaa
open Plain
set_option linter.unusedSimpArgs false
set_option linter.unusedVariables false

section
variable {s : List Nat}
theorem plM_mem {m r x : Nat} (hr : r ≤ 2) : x ∈ plM m r ↔ x < m ∧ x % 3 = r := by
  unfold plM plN
  rw [List.mem_map]
  constructor
  · rintro ⟨q, hq, rfl⟩
    have hq := List.mem_range.1 hq
    omega
  · rintro ⟨h1, h2⟩
    exact ⟨x / 3, List.mem_range.2 (by omega), by omega⟩
theorem smpL_mem {m x : Nat} : x ∈ smpL m ↔ x < m ∧ x % 3 ≠ 0 := by
  unfold smpL
  rw [List.mem_append, plM_mem (by omega), plM_mem (by omega)]
  omega
theorem plM_srt (m r : Nat) : (plM m r).Pairwise (· < ·) := by
  unfold plM
  rw [List.pairwise_map]
  refine List.pairwise_lt_range.imp ?_
  intro a b h
  omega
theorem smpL_nd (m : Nat) : (smpL m).Nodup := by
  unfold smpL
  rw [List.nodup_append]
  refine ⟨(plM_srt m 1).imp (fun h => Nat.ne_of_lt h), (plM_srt m 2).imp (fun h => Nat.ne_of_lt h), ?_⟩
  intro a ha b hb e
  rw [plM_mem (by omega)] at ha hb
  omega
/-- The place behind a place of the ranks. -/
def plc (m i : Nat) : Nat := if i < plN m 1 then 3 * i + 1 else 3 * (i - 1 - plN m 1) + 2
theorem plM_at {m r q : Nat} (h : q < plN m r) : byt (plM m r) q = 3 * q + r := by
  rw [byt_eq (by rw [plM_len]; exact h)]; simp [plM]
theorem byt_app1 {a b : List Nat} {i : Nat} (h : i < a.length) : byt (a ++ b) i = byt a i := by
  unfold byt; rw [List.getElem?_append_left h]
theorem byt_app2 {a b : List Nat} {i : Nat} (h : a.length ≤ i) : byt (a ++ b) i = byt b (i - a.length) := by
  unfold byt; rw [List.getElem?_append_right h]
theorem byt_map {f : Nat → Nat} {l : List Nat} {i : Nat} (h : i < l.length) : byt (l.map f) i = f (byt l i) := by
  rw [byt_eq (by simpa using h), byt_eq h]; simp
theorem bk1_at {m i : Nat} (h : i < plN m 1 + 1 + plN m 2) (hi : i ≠ plN m 1) : bk1 m i = [plc m i] := by
  unfold bk1 plc
  by_cases c : i < plN m 1
  · rw [if_pos c, if_pos c, plM_at c]
  · rw [if_neg c, if_neg c, if_pos (by omega)]
    congr 1
    unfold smpL
    rw [byt_app2 (by rw [plM_len]; omega), plM_len, plM_at (by omega)]
theorem bk1_no {m i : Nat} (hi : i = plN m 1) : bk1 m i = [] := by
  unfold bk1; rw [if_neg (by omega), if_neg (by omega)]
theorem bel_at {m i : Nat} {r : List Nat} (h : i < plN m 1 + 1 + plN m 2) (hi : i ≠ plN m 1) : byt (belL m r) i = byt r (plc m i) := by
  unfold belL plc
  have h1 := plM_len m 1
  have h2 := plM_len m 2
  by_cases c : i < plN m 1
  · rw [if_pos c, byt_app1 (by simp; omega), byt_app1 (by simp; omega), byt_map (by omega), plM_at c]
  · rw [if_neg c, byt_app2 (by simp; omega), byt_map (by simp; omega)]
    simp only [List.length_append, List.length_map, List.length_singleton, h1]
    rw [plM_at (by omega), show i - (plN m 1 + 1) = i - 1 - plN m 1 by omega]
theorem bel_no {m : Nat} {r : List Nat} : byt (belL m r) (plN m 1) = 0 := by
  unfold belL
  have h1 := plM_len m 1
  rw [byt_app1 (by simp; omega), byt_app2 (by simp; omega)]
  simp [h1, byt]
theorem plc_mem {m i : Nat} (h : i < plN m 1 + 1 + plN m 2) (hi : i ≠ plN m 1) : plc m i ∈ smpL m := by
  rw [smpL_mem]
  unfold plc
  unfold plN at *
  split <;> omega
/-- What the ranks tell of the sample's places. -/
def RkT (s r : List Nat) : Prop := ∀ x ∈ smpL s.length, ∀ y ∈ smpL s.length, (byt r x < byt r y → T3 s x y) ∧ (byt r x = byt r y → alB s x y = true) ∧ 1 ≤ byt r x
/-- The order of the ranks' endings is that of the sample's. -/
theorem bel_lx {r : List Nat} (hr : RkT s r) : ∀ d i j, plN s.length 1 + 1 + plN s.length 2 - i ≤ d → i < plN s.length 1 + 1 + plN s.length 2 → j < plN s.length 1 + 1 + plN s.length 2 → i ≠ plN s.length 1 → j ≠ plN s.length 1 →
    lx ((belL s.length r).drop i) ((belL s.length r).drop j) = true → lx (s.drop (plc s.length i)) (s.drop (plc s.length j)) = true
  | 0, i, j, hd, hi, _, _, _, _ => by omega
  | d + 1, i, j, hd, hi, hj, hip, hjp, h => by
    have hbl := belL_len s.length r
    have mx := plc_mem hi hip
    have my := plc_mem hj hjp
    obtain ⟨t1, t2, t4⟩ := hr _ mx _ my
    have hij : i ≠ j := fun e => by rw [e, lx_irr] at h; cases h
    rw [lx_dropB (by omega) (by omega), bel_at hi hip, bel_at hj hjp] at h
    by_cases c1 : byt r (plc s.length i) < byt r (plc s.length j)
    · exact t3_lx (t1 c1)
    rw [if_neg c1] at h
    by_cases c2 : byt r (plc s.length j) < byt r (plc s.length i)
    · rw [if_pos c2] at h; cases h
    rw [if_neg c2] at h
    have al := t2 (by omega)
    rw [al_lx al]
    have hne : plc s.length i ≠ plc s.length j := by
      unfold plc
      split <;> split <;> omega
    obtain ⟨a1, a2⟩ := al_in al hne (smpL_mem.1 mx).1 (smpL_mem.1 my).1
    have nxt : ∀ i, i < plN s.length 1 + 1 + plN s.length 2 → i ≠ plN s.length 1 → plc s.length i + 3 < s.length → i + 1 < plN s.length 1 + 1 + plN s.length 2 ∧ i + 1 ≠ plN s.length 1 ∧ plc s.length (i + 1) = plc s.length i + 3 := by
      intro i hi hip hx
      unfold plc at *
      by_cases c : i < plN s.length 1
      · rw [if_pos c] at hx ⊢
        have : i + 1 < plN s.length 1 := by unfold plN at *; omega
        rw [if_pos this]
        omega
      · rw [if_neg c] at hx ⊢
        rw [if_neg (show ¬ i + 1 < plN s.length 1 by omega)]
        refine ⟨?_, by omega, by omega⟩
        unfold plN at *; omega
    have ends : ∀ i, i < plN s.length 1 + 1 + plN s.length 2 → i ≠ plN s.length 1 → plc s.length i + 3 = s.length → i + 1 = plN s.length 1 ∨ i + 1 = plN s.length 1 + 1 + plN s.length 2 := by
      intro i hi hip hx
      unfold plc at *
      by_cases c : i < plN s.length 1
      · rw [if_pos c] at hx
        left; unfold plN at *; omega
      · rw [if_neg c] at hx
        right; unfold plN at *; omega
    by_cases cy : plc s.length j + 3 = s.length
    · exfalso
      obtain ⟨n1, n2, n3⟩ := nxt i hi hip (by omega)
      rcases ends j hj hjp cy with e | e
      · rw [e, lx_dropB (by omega) (by omega), bel_at n1 n2, bel_no] at h
        have := (hr _ (plc_mem n1 n2) _ (plc_mem n1 n2)).2.2
        rw [if_neg (by omega), if_pos (by omega)] at h
        cases h
      · have e9 : (belL s.length r).drop (j + 1) = [] := List.drop_eq_nil_of_le (by omega)
        rw [e9, lx_nil_r] at h
        cases h
    · obtain ⟨m1, m2, m3⟩ := nxt j hj hjp (by omega)
      by_cases cx : plc s.length i + 3 = s.length
      · rw [cx, List.drop_eq_nil_of_le (Nat.le_refl _), drop_cons (show plc s.length j + 3 < s.length by omega)]
        rfl
      · obtain ⟨n1, n2, n3⟩ := nxt i hi hip (by omega)
        rw [← m3, ← n3]
        exact bel_lx hr d (i + 1) (j + 1) (by omega) n1 m1 n2 m2 h

/-- The sample's order and its ranks stand. -/
structure RkSA (s o r : List Nat) : Prop where
  perm : o.Perm (smpL s.length)
  srt : o.Pairwise fun a b => lx (s.drop a) (s.drop b) = true
  rk : ∀ q, q < o.length → byt r (byt o q) = q + 1
  out : ∀ x, s.length ≤ x → byt r x = 0

/-- Ranks that are set once stay. -/
theorem inj_of {o : List Nat} (hnd : o.Nodup) : ∀ q t, q < o.length → t < o.length → byt o q = byt o t → q = t := fun q t hq ht e => by
  have h1 := List.Nodup.idxOf_getElem hnd q hq
  have h2 := List.Nodup.idxOf_getElem hnd t ht
  rw [byt_eq hq, byt_eq ht] at e
  rw [← h1, ← h2, e]
theorem rn_stay {o : List Nat} (hm : ∀ x ∈ o, x < s.length) (hnd : o.Nodup) : ∀ i, i ≤ o.length → ∀ q, q < i → byt (rnRun s o i).1 (byt o q) = (rnRun s o (q + 1)).2
  | 0, _, q, hq => by omega
  | i + 1, hi, q, hq => by
    have hxl : byt o i < (rnRun s o i).1.length := by rw [rnRun_len]; have := hm (byt o i) (by rw [byt_eq hi]; exact List.getElem_mem _); omega
    rw [rnRun_succ1, byt_set hxl]
    by_cases e : q = i
    · subst e; rw [if_pos rfl]
    · rw [if_neg (fun e2 => e (inj_of hnd q i (by omega) (by omega) e2)), rn_stay hm hnd i (by omega) q (by omega)]
theorem se_stay {r o : List Nat} (hm : ∀ x ∈ o, x < r.length) (hnd : o.Nodup) : ∀ i, i ≤ o.length → (∀ q, q < i → byt (seRun r o i) (byt o q) = q + 1) ∧ ∀ x, x ∉ o → byt (seRun r o i) x = byt r x
  | 0, _ => ⟨fun q hq => by omega, fun _ _ => rfl⟩
  | i + 1, hi => by
    obtain ⟨h1, h2⟩ := se_stay hm hnd i (by omega)
    have hmem : byt o i ∈ o := by rw [byt_eq hi]; exact List.getElem_mem _
    have hxl : byt o i < (seRun r o i).length := by rw [seRun_len]; exact hm _ hmem
    refine ⟨fun q hq => ?_, fun x hx => ?_⟩
    · rw [seRun, byt_set hxl]
      by_cases e : q = i
      · subst e; rw [if_pos rfl]
      · rw [if_neg (fun e2 => e (inj_of hnd q i (by omega) (by omega) e2)), h1 q (by omega)]
    · rw [seRun, byt_set hxl, if_neg (show ¬ x = byt o i from fun e => hx (by rw [e]; exact hmem)), h2 x hx]

theorem rkt_of {o : List Nat} {p : List Nat × Nat} (hp : o.Perm (smpL s.length)) (h : RN s o o.length p) : RkT s p.1 := by
  intro x hx y hy
  have hx := hp.mem_iff.2 hx
  have hy := hp.mem_iff.2 hy
  obtain ⟨q, hq, rfl⟩ := List.mem_iff_getElem.1 hx
  obtain ⟨t, ht, rfl⟩ := List.mem_iff_getElem.1 hy
  rw [← byt_eq hq, ← byt_eq ht]
  have l1 := h.lt q t hq ht
  have l2 := h.lt t q ht hq
  have l3 := h.pos q hq
  rcases t3_tri s (byt o q) (byt o t) with h1 | h1 | h1
  · have := l1.1 h1
    exact ⟨fun _ => h1, fun e => by omega, l3.1⟩
  · have := l1.2 h1
    exact ⟨fun e => by omega, fun _ => h1, l3.1⟩
  · have := l2.1 h1
    exact ⟨fun e => by omega, fun e => by omega, l3.1⟩

theorem bkM_srt {r A : List Nat} (hr : RkT s r) (hA : SA (belL s.length r) A) : (bkM s.length A).Pairwise fun a b => lx (s.drop a) (s.drop b) = true := by
  have hlt : ∀ x ∈ A, x < plN s.length 1 + 1 + plN s.length 2 := fun x hx => by
    have := List.mem_range.1 (hA.perm.mem_iff.1 hx)
    rwa [belL_len] at this
  unfold bkM
  rw [List.pairwise_flatMap]
  refine ⟨fun a ha => ?_, hA.srt.imp_of_mem ?_⟩
  · by_cases e : a = plN s.length 1
    · rw [bk1_no e]; exact List.Pairwise.nil
    · rw [bk1_at (hlt a ha) e]; exact List.pairwise_singleton _ _
  · intro a b ha hb h x hx y hy
    have e1 : a ≠ plN s.length 1 := fun e => by rw [bk1_no e] at hx; simp at hx
    have e2 : b ≠ plN s.length 1 := fun e => by rw [bk1_no e] at hy; simp at hy
    rw [bk1_at (hlt a ha) e1] at hx
    rw [bk1_at (hlt b hb) e2] at hy
    obtain rfl := List.mem_singleton.1 hx
    obtain rfl := List.mem_singleton.1 hy
    exact bel_lx hr _ a b (Nat.le_refl _) (hlt a ha) (hlt b hb) e1 e2 h
theorem bkM_perm {r A : List Nat} (hr : RkT s r) (hA : SA (belL s.length r) A) : (bkM s.length A).Perm (smpL s.length) := by
  have hlt : ∀ x ∈ A, x < plN s.length 1 + 1 + plN s.length 2 := fun x hx => by
    have := List.mem_range.1 (hA.perm.mem_iff.1 hx)
    rwa [belL_len] at this
  have hnd : (bkM s.length A).Nodup := (bkM_srt hr hA).imp fun {a b} h e => by rw [e, lx_irr] at h; cases h
  refine (List.perm_ext_iff_of_nodup hnd (smpL_nd _)).2 fun x => ⟨bkM_sub hlt x, fun hx => ?_⟩
  have h1 := smpL_mem.1 hx
  have up : ∀ i, i < plN s.length 1 + 1 + plN s.length 2 → i ≠ plN s.length 1 → plc s.length i = x → x ∈ bkM s.length A := fun i h2 h3 h4 => by
    refine List.mem_flatMap.2 ⟨i, hA.perm.mem_iff.2 (List.mem_range.2 (by rw [belL_len]; exact h2)), ?_⟩
    rw [bk1_at h2 h3, h4]; exact List.mem_singleton.2 rfl
  by_cases c : x % 3 = 1
  · have : x / 3 < plN s.length 1 := by unfold plN; omega
    refine up (x / 3) (by omega) (by omega) ?_
    unfold plc; rw [if_pos this]; omega
  · have : x / 3 < plN s.length 2 := by unfold plN; omega
    refine up (plN s.length 1 + 1 + x / 3) (by omega) (by omega) ?_
    unfold plc; rw [if_neg (by omega)]; omega

theorem skew_rk {f k : Nat} (ih : ∀ s' k', s'.length < f → s'.length ≤ 100000 → k' ≤ 1000000 → (∀ x ∈ s', x < k') → SkewOk f s' k' ∧ SA s' (skewF f s' k')) (hf : s.length < f + 1) (hl : s.length ≤ 100000) (hk : k ≤ 1000000) (hsk : ∀ x ∈ s, x < k) :
    SkewOk (f + 1) s k ∧ (2 ≤ s.length → RkSA s (rkd (skewF f) s k).1 (rkd (skewF f) s k).2) := by
  have hop : (sk3 s k).Perm (smpL s.length) := sk3R_perm hsk 3
  have hol : (sk3 s k).length = plN s.length 1 + plN s.length 2 := sk3R_len s k 3
  have hnd : (sk3 s k).Nodup := hop.nodup_iff.2 (smpL_nd _)
  have hm : ∀ x ∈ sk3 s k, x < s.length := fun x hx => smpL_lt x (hop.mem_iff.1 hx)
  have hRN := RN.run hm hnd (sk3_sorted hsk) (sk3 s k).length (Nat.le_refl _)
  have hT := rkt_of hop hRN
  have hple : plN s.length 1 + plN s.length 2 ≤ s.length := by unfold plN; omega
  by_cases c : (rnRun s (sk3 s k) (sk3 s k).length).2 = (sk3 s k).length
  · refine ⟨⟨hl, hk, hsk, fun _ h => absurd c h⟩, fun _ => ?_⟩
    have hr : rkd (skewF f) s k = (sk3 s k, (rnRun s (sk3 s k) (sk3 s k).length).1) := by unfold rkd; simp only [c, if_true]
    rw [hr]
    have hrk : ∀ q, q < (sk3 s k).length → byt (rnRun s (sk3 s k) (sk3 s k).length).1 (byt (sk3 s k) q) = q + 1 := fun q hq => by
      rw [rn_stay hm hnd _ (Nat.le_refl _) q hq]
      by_cases e : q + 1 = (sk3 s k).length
      · rw [e, c]
      · exact rn_up _ c (q + 1) (by omega)
    refine ⟨hop, ?_, hrk, fun x hx => hRN.out x fun q hq e => ?_⟩
    · rw [List.pairwise_iff_getElem]
      intro i j hi hj hij
      rw [← byt_eq hi, ← byt_eq hj]
      have h1 := hrk i hi
      have h2 := hrk j hj
      have hx := hop.mem_iff.1 (show byt (sk3 s k) i ∈ sk3 s k by rw [byt_eq hi]; exact List.getElem_mem _)
      have hy := hop.mem_iff.1 (show byt (sk3 s k) j ∈ sk3 s k by rw [byt_eq hj]; exact List.getElem_mem _)
      exact t3_lx ((hT _ hx _ hy).1 (by omega))
    · have := hm (byt (sk3 s k) q) (by rw [byt_eq hq]; exact List.getElem_mem _)
      omega
  · -- two that are alike
    have ex : ∃ q, 0 < q ∧ q < (sk3 s k).length ∧ alB s (byt (sk3 s k) (q - 1)) (byt (sk3 s k) q) = true := by
      refine Classical.byContradiction fun hn => c (rn_all _ fun q h1 h2 => ?_)
      cases hb : alB s (byt (sk3 s k) (q - 1)) (byt (sk3 s k) q) with
      | false => rfl
      | true => exact absurd ⟨q, h1, h2, hb⟩ hn
    obtain ⟨q, q1, q2, qa⟩ := ex
    have hx := hop.mem_iff.1 (show byt (sk3 s k) (q - 1) ∈ sk3 s k by rw [byt_eq (by omega)]; exact List.getElem_mem _)
    have hy := hop.mem_iff.1 (show byt (sk3 s k) q ∈ sk3 s k by rw [byt_eq q2]; exact List.getElem_mem _)
    have hne : byt (sk3 s k) (q - 1) ≠ byt (sk3 s k) q := fun e => by have := inj_of hnd (q - 1) q (by omega) q2 e; omega
    have ha := al_in qa hne (smpL_mem.1 hx).1 (smpL_mem.1 hy).1
    have hx3 := (smpL_mem.1 hx).2
    have hy3 := (smpL_mem.1 hy).2
    have hn5 : 5 ≤ s.length := by omega
    have hbl := belL_len s.length (rnRun s (sk3 s k) (sk3 s k).length).1
    have hblt : plN s.length 1 + 1 + plN s.length 2 < s.length := by unfold plN; omega
    have hrn := rnRun_n s (sk3 s k) (sk3 s k).length
    have hrle := rnRun_le s (sk3 s k) (sk3 s k).length
    obtain ⟨i1, i2⟩ := ih (belL s.length (rnRun s (sk3 s k) (sk3 s k).length).1) ((rnRun s (sk3 s k) (sk3 s k).length).2 + 1) (by omega) (by omega) (by omega) (fun x hx => by
      have hb : ∀ y, byt (rnRun s (sk3 s k) (sk3 s k).length).1 y < (rnRun s (sk3 s k) (sk3 s k).length).2 + 1 := fun y => byt_mem_lt (fun z hz => by have := hrle z hz; omega) (by omega)
      rcases List.mem_append.1 hx with h | h
      · rcases List.mem_append.1 h with h | h
        · obtain ⟨y, _, rfl⟩ := List.mem_map.1 h; exact hb y
        · obtain rfl := List.mem_singleton.1 h; omega
      · obtain ⟨y, _, rfl⟩ := List.mem_map.1 h; exact hb y)
    have hp := bkM_perm hT i2
    have hs := bkM_srt hT i2
    have hAl := i2.len
    have hbkl := hp.length_eq
    have hsml := smpL_len s.length
    have hp1 : plN s.length 1 ≠ 0 := by unfold plN; omega
    refine ⟨⟨hl, hk, hsk, fun _ _ => ⟨i1, fun x hx => ?_, by omega, by omega, by omega⟩⟩, fun _ => ?_⟩
    · have := List.mem_range.1 (i2.perm.mem_iff.1 hx)
      rwa [hbl] at this
    · have hr : rkd (skewF f) s k = (bkM s.length (skewF f (belL s.length (rnRun s (sk3 s k) (sk3 s k).length).1) ((rnRun s (sk3 s k) (sk3 s k).length).2 + 1)), seRun (rnRun s (sk3 s k) (sk3 s k).length).1 (bkM s.length (skewF f (belL s.length (rnRun s (sk3 s k) (sk3 s k).length).1) ((rnRun s (sk3 s k) (sk3 s k).length).2 + 1))) (bkM s.length (skewF f (belL s.length (rnRun s (sk3 s k) (sk3 s k).length).1) ((rnRun s (sk3 s k) (sk3 s k).length).2 + 1))).length) := by unfold rkd; simp only [c, if_false]
      rw [hr]
      have hnd2 := hp.nodup_iff.2 (smpL_nd _)
      have hm2 := fun x hx => smpL_lt x (hp.mem_iff.1 hx)
      obtain ⟨s1, s2⟩ := se_stay (r := (rnRun s (sk3 s k) (sk3 s k).length).1) (fun x hx => by rw [rnRun_len]; have := hm2 x hx; omega) hnd2 _ (Nat.le_refl _)
      refine ⟨hp, hs, s1, fun x hx => ?_⟩
      rw [s2 x (fun h => by have := hm2 x h; omega)]
      refine hRN.out x fun q hq e => ?_
      have := hm (byt (sk3 s k) q) (by rw [byt_eq hq]; exact List.getElem_mem _)
      omega
end
end Go.Proofs.Ytdpkhijbikbhnaa

namespace Go.Proofs.Ytdpkhijbikbhnaa
open Plain
set_option linter.unusedSimpArgs false
set_option linter.unusedVariables false

section
variable {s : List Nat}
theorem RkSA.lt {o r : List Nat} (h : RkSA s o r) {x y : Nat} (hx : x % 3 ≠ 0 ∨ s.length ≤ x) (hy : y % 3 ≠ 0 ∨ s.length ≤ y) : byt r x < byt r y ↔ lx (s.drop x) (s.drop y) = true := by
  have at' : ∀ x, x % 3 ≠ 0 → x < s.length → ∃ q, ∃ h : q < o.length, x = byt o q := fun x h1 h2 => by
    have := h.perm.mem_iff.2 (smpL_mem.2 ⟨h2, h1⟩)
    obtain ⟨q, hq, rfl⟩ := List.mem_iff_getElem.1 this
    exact ⟨q, hq, (byt_eq hq).symm⟩
  have ord : ∀ q t, q < t → t < o.length → lx (s.drop (byt o q)) (s.drop (byt o t)) = true := fun q t hqt ht => by
    have := List.pairwise_iff_getElem.1 h.srt q t (by omega) ht hqt
    rw [byt_eq (by omega), byt_eq ht]; exact this
  by_cases cx : s.length ≤ x
  · rw [h.out x cx, List.drop_eq_nil_of_le cx]
    by_cases cy : s.length ≤ y
    · rw [h.out y cy, List.drop_eq_nil_of_le cy]; simp [lx]
    · obtain ⟨t, ht, e⟩ := at' y (hy.resolve_right cy) (by omega)
      rw [drop_cons (show y < s.length by omega), e, h.rk t ht]; simp [lx]
  · obtain ⟨q, hq, e1⟩ := at' x (hx.resolve_right cx) (by omega)
    by_cases cy : s.length ≤ y
    · rw [h.out y cy, List.drop_eq_nil_of_le cy, lx_nil_r]; simp
    · obtain ⟨t, ht, e2⟩ := at' y (hy.resolve_right cy) (by omega)
      rw [e1, e2, h.rk q hq, h.rk t ht]
      rcases Nat.lt_trichotomy q t with c | c | c
      · exact ⟨fun _ => ord q t c ht, fun _ => by omega⟩
      · subst c; rw [lx_irr]; simp
      · have := lx_asym (ord t q c hq)
        rw [this]; simp; omega
theorem RkSA.mn {o r : List Nat} (h : RkSA s o r) {x y : Nat} (hx : x % 3 ≠ 0 ∨ s.length ≤ x) (hy : y % 3 ≠ 0 ∨ s.length ≤ y) : decide (byt r (min x s.length) < byt r (min y s.length)) = lx (s.drop x) (s.drop y) := by
  have e : ∀ x, s.drop (min x s.length) = s.drop x := fun x => by
    by_cases c : x ≤ s.length
    · rw [Nat.min_eq_left c]
    · rw [Nat.min_eq_right (by omega), List.drop_eq_nil_of_le (Nat.le_refl _), List.drop_eq_nil_of_le (by omega)]
  have e2 : ∀ x, (x % 3 ≠ 0 ∨ s.length ≤ x) → (min x s.length) % 3 ≠ 0 ∨ s.length ≤ min x s.length := fun x hx => by
    by_cases c : x ≤ s.length
    · rw [Nat.min_eq_left c]; exact hx
    · rw [Nat.min_eq_right (by omega)]; exact .inr (Nat.le_refl _)
  rw [Bool.eq_iff_iff, decide_eq_true_iff, h.lt (e2 x hx) (e2 y hy), e, e]
theorem less_lx {o r : List Nat} (h : RkSA s o r) {x j : Nat} (hx : x % 3 ≠ 0) (hj : j % 3 = 0) : lessB s r x j = lx (s.drop x) (s.drop j) := by
  unfold lessB
  rw [key_lx]
  by_cases c1 : keyN s x = keyN s j
  · rw [if_neg (show ¬ keyN s x ≠ keyN s j by omega), if_neg (show ¬ keyN s x < keyN s j by omega), if_neg (show ¬ keyN s j < keyN s x by omega)]
    by_cases c2 : (x + 1) % 3 ≠ 0 ∧ (j + 1) % 3 ≠ 0
    · rw [if_pos c2]
      exact h.mn (.inl c2.1) (.inl c2.2)
    · rw [if_neg c2, key_lx]
      by_cases c3 : keyN s (x + 1) = keyN s (j + 1)
      · rw [if_neg (show ¬ keyN s (x + 1) ≠ keyN s (j + 1) by omega), if_neg (show ¬ keyN s (x + 1) < keyN s (j + 1) by omega), if_neg (show ¬ keyN s (j + 1) < keyN s (x + 1) by omega)]
        exact h.mn (.inl (by omega)) (.inl (by omega))
      · rw [if_pos c3]
        by_cases c4 : keyN s (x + 1) < keyN s (j + 1)
        · rw [if_pos c4]; exact decide_eq_true c4
        · rw [if_neg c4, if_pos (by omega)]; exact decide_eq_false c4
  · rw [if_pos c1]
    by_cases c4 : keyN s x < keyN s j
    · rw [if_pos c4]; exact decide_eq_true c4
    · rw [if_neg c4, if_pos (by omega)]; exact decide_eq_false c4

theorem otL_srt {o r : List Nat} {k : Nat} (h : RkSA s o r) (hk : ∀ x ∈ s, x < k) (hr : ∀ x ∈ r, x ≤ s.length) : (otL s k r).Pairwise fun a b => lx (s.drop a) (s.drop b) = true := by
  have h1 : (passL (plM s.length 0) (behL s r) (s.length + 1)).Pairwise fun a b => byt (behL s r) a < byt (behL s r) b ∨ byt (behL s r) a = byt (behL s r) b ∧ a < b :=
    passL_sorted (fun x hx => by
      have hx := (plM_mem (by omega)).1 hx
      exact behL_lt hr _ (by rw [byt_eq (by rw [behL_len]; exact hx.1)]; exact List.getElem_mem _)) (plM_srt _ _)
  have h2 := passL_sorted (order := passL (plM s.length 0) (behL s r) (s.length + 1)) (keys := keysL s 0) (k := k + 1) (fun x hx => keysL_key hk (plM_lt (r := 0) (by omega) x ((ot1_perm hr).mem_iff.1 hx))) h1
  refine List.Pairwise.imp_of_mem ?_ h2
  intro a b ha hb hab
  have ha := (plM_mem (by omega)).1 ((otL_perm hk hr).mem_iff.1 ha)
  have hb := (plM_mem (by omega)).1 ((otL_perm hk hr).mem_iff.1 hb)
  simp only [keysL_at ha.1, keysL_at hb.1, behL_at ha.1, behL_at hb.1, Nat.add_zero] at hab
  rw [key_lx]
  rcases hab with hab | ⟨e, hab⟩
  · rw [if_pos hab]
  rw [if_neg (by omega), if_neg (by omega)]
  have hl := h.lt (x := a + 1) (y := b + 1) (.inl (by omega)) (.inl (by omega))
  have hl2 := h.lt (x := b + 1) (y := a + 1) (.inl (by omega)) (.inl (by omega))
  rcases hab with hab | ⟨e2, hab⟩
  · exact hl.1 hab
  · exfalso
    rcases lx_tri (s.drop (a + 1)) (s.drop (b + 1)) with c | c | c
    · have := hl.2 c; omega
    · have := congrArg List.length c
      simp at this; omega
    · have := hl2.2 c; omega

theorem mgIn_eq (s r : List Nat) (j : Nat) : ∀ (o l : List Nat), mgIn s r j l o = (l ++ o.takeWhile (fun x => lessB s r x j), o.dropWhile (fun x => lessB s r x j))
  | [], l => by simp [mgIn]
  | x :: o, l => by
    rw [mgIn]
    by_cases c : lessB s r x j = true
    · rw [if_pos c, mgIn_eq s r j o, List.takeWhile_cons_of_pos (p := fun x => lessB s r x j) c, List.dropWhile_cons_of_pos (p := fun x => lessB s r x j) c]; simp
    · rw [if_neg c, List.takeWhile_cons_of_neg (p := fun x => lessB s r x j) c, List.dropWhile_cons_of_neg (p := fun x => lessB s r x j) c]; simp
theorem takeWhile_pos {p : Nat → Bool} : ∀ o : List Nat, ∀ x ∈ o.takeWhile p, p x = true
  | [], x, hx => by simp at hx
  | y :: o, x, hx => by
    by_cases c : p y = true
    · rw [List.takeWhile_cons_of_pos c] at hx
      rcases List.mem_cons.1 hx with rfl | hx
      · exact c
      · exact takeWhile_pos o x hx
    · rw [List.takeWhile_cons_of_neg c] at hx; simp at hx

/-- Two sorted rows, put together so far. -/
structure MG (s o ot : List Nat) (i : Nat) (p : List Nat × List Nat) : Prop where
  l : p.1.Pairwise fun a b => lx (s.drop a) (s.drop b) = true
  r : p.2.Pairwise fun a b => lx (s.drop a) (s.drop b) = true
  lr : ∀ x ∈ p.1, ∀ y ∈ p.2, lx (s.drop x) (s.drop y) = true
  lo : ∀ x ∈ p.1, ∀ t, i ≤ t → t < ot.length → lx (s.drop x) (s.drop (byt ot t)) = true
  perm : (p.1 ++ p.2).Perm (o ++ ot.take i)
theorem MG.run {o r ot : List Nat} (h : RkSA s o r) (hot : ot.Perm (plM s.length 0)) (hos : ot.Pairwise fun a b => lx (s.drop a) (s.drop b) = true) : ∀ i, i ≤ ot.length → MG s o ot i (mgRun s r o ot i)
  | 0, _ => ⟨List.Pairwise.nil, h.srt, by simp [mgRun], by simp [mgRun], by simp [mgRun]⟩
  | i + 1, hi => by
    have ih := MG.run h hot hos i (by omega)
    have hjm := (plM_mem (by omega)).1 (hot.mem_iff.1 (show byt ot i ∈ ot by rw [byt_eq hi]; exact List.getElem_mem _))
    have hsub := mgRun_sub s r o ot i
    have ord : ∀ t, i + 1 ≤ t → t < ot.length → lx (s.drop (byt ot i)) (s.drop (byt ot t)) = true := fun t h1 h2 => by
      have := List.pairwise_iff_getElem.1 hos i t (by omega) h2 (by omega)
      rw [byt_eq (by omega), byt_eq h2]; exact this
    have htk := take_byt (l := ot) (k := i) hi
    rw [mgRun, mgIn_eq]
    obtain ⟨p, hp⟩ : ∃ p, mgRun s r o ot i = p := ⟨_, rfl⟩
    obtain ⟨j, hj⟩ : ∃ j, byt ot i = j := ⟨_, rfl⟩
    rw [hp] at ih hsub ⊢
    rw [hj] at hjm ord htk ⊢
    have mem : ∀ x ∈ p.2, x < s.length ∧ x % 3 ≠ 0 := fun x hx => smpL_mem.1 (h.perm.mem_iff.1 (hsub x hx))
    obtain ⟨tw, htw⟩ : ∃ tw, p.2.takeWhile (fun x => lessB s r x j) = tw := ⟨_, rfl⟩
    obtain ⟨dw, hdw⟩ : ∃ dw, p.2.dropWhile (fun x => lessB s r x j) = dw := ⟨_, rfl⟩
    have e : tw ++ dw = p.2 := by rw [← htw, ← hdw]; exact List.takeWhile_append_dropWhile
    have htj : ∀ x ∈ tw, lx (s.drop x) (s.drop j) = true := fun x hx => by
      have h1 := takeWhile_pos p.2 x (by rw [htw]; exact hx)
      rw [less_lx h (mem x (by rw [← e]; exact List.mem_append_left _ hx)).2 hjm.2] at h1
      exact h1
    have hjd : ∀ y ∈ dw, lx (s.drop j) (s.drop y) = true := fun y hy => by
      have hnj : j ∉ p.2 := fun hm => (mem j hm).2 hjm.2
      -- where the first stops
      have gen : ∀ q : List Nat, (∀ x ∈ q, x < s.length ∧ x % 3 ≠ 0) → q.Pairwise (fun a b => lx (s.drop a) (s.drop b) = true) → ∀ y ∈ q.dropWhile (fun x => lessB s r x j), lx (s.drop j) (s.drop y) = true := by
        intro q
        induction q with
        | nil => intro _ _ y hy; simp at hy
        | cons x q ihq =>
          intro hm hpw y hy
          rw [List.pairwise_cons] at hpw
          have hxm := hm x List.mem_cons_self
          by_cases c : lessB s r x j = true
          · rw [List.dropWhile_cons_of_pos (p := fun x => lessB s r x j) c] at hy
            exact ihq (fun z hz => hm z (List.mem_cons_of_mem _ hz)) hpw.2 y hy
          · rw [List.dropWhile_cons_of_neg (p := fun x => lessB s r x j) c] at hy
            rw [less_lx h hxm.2 hjm.2] at c
            have hjx : lx (s.drop j) (s.drop x) = true := by
              rcases lx_tri (s.drop x) (s.drop j) with c1 | c1 | c1
              · exact absurd c1 c
              · have := drop_ne hxm.1 hjm.1 c1; rw [this] at hxm; omega
              · exact c1
            rcases List.mem_cons.1 hy with rfl | hy
            · exact hjx
            · exact lx_trans hjx (hpw.1 y hy)
      exact gen p.2 mem ih.r y (by rw [hdw]; exact hy)
    have hpr := ih.r
    rw [← e, List.pairwise_append] at hpr
    have hlr : ∀ x ∈ p.1, ∀ y, (y ∈ tw ∨ y ∈ dw) → lx (s.drop x) (s.drop y) = true := fun x hx y hy => ih.lr x hx y (by rw [← e]; exact List.mem_append.2 hy)
    have hlj : ∀ x ∈ p.1, lx (s.drop x) (s.drop j) = true := fun x hx => by rw [← hj]; exact ih.lo x hx i (Nat.le_refl _) hi
    have hin : ∀ x ∈ p.1 ++ tw ++ [j], x ∈ p.1 ∨ x ∈ tw ∨ x = j := fun x hx => by
      simp only [List.mem_append, List.mem_singleton] at hx
      rcases hx with (hx | hx) | hx
      · exact .inl hx
      · exact .inr (.inl hx)
      · exact .inr (.inr hx)
    rw [htw, hdw]
    refine ⟨?_, hpr.2.1, fun x hx y hy => ?_, fun x hx t h1 h2 => ?_, ?_⟩
    · show (p.1 ++ tw ++ [j]).Pairwise _
      rw [List.pairwise_append, List.pairwise_append]
      refine ⟨⟨ih.l, hpr.1, fun x hx y hy => hlr x hx y (.inl hy)⟩, List.pairwise_singleton _ _, fun x hx y hy => ?_⟩
      obtain rfl := List.mem_singleton.1 hy
      rcases List.mem_append.1 hx with hx | hx
      · exact hlj x hx
      · exact htj x hx
    · rcases hin x hx with hx | hx | rfl
      · exact hlr x hx y (.inr hy)
      · exact hpr.2.2 x hx y hy
      · exact hjd y hy
    · rcases hin x hx with hx | hx | rfl
      · exact ih.lo x hx t (by omega) h2
      · exact lx_trans (htj x hx) (ord t h1 h2)
      · exact ord t h1 h2
    · show (p.1 ++ tw ++ [j] ++ dw).Perm _
      rw [htk]
      have h3 := ih.perm
      rw [← e] at h3
      have h4 : (p.1 ++ tw ++ [j] ++ dw).Perm ((p.1 ++ (tw ++ dw)) ++ [j]) := by
        rw [List.append_assoc, List.append_assoc, List.append_assoc, List.append_assoc]
        exact (List.Perm.append_left _ (List.Perm.append_left _ List.perm_append_comm))
      refine h4.trans ?_
      have h5 := h3.append_right [j]
      rwa [List.append_assoc o] at h5
theorem range_perm (m : Nat) : (smpL m ++ plM m 0).Perm (List.range m) := by
  refine (List.perm_ext_iff_of_nodup ?_ List.nodup_range).2 fun x => ?_
  · rw [List.nodup_append]
    refine ⟨smpL_nd m, (plM_srt m 0).imp (fun h => Nat.ne_of_lt h), ?_⟩
    intro a ha b hb e
    rw [smpL_mem] at ha
    rw [plM_mem (by omega)] at hb
    omega
  · rw [List.mem_append, smpL_mem, plM_mem (by omega), List.mem_range]; omega
theorem mgL_SA {o r : List Nat} {k : Nat} (h : RkSA s o r) (hk : ∀ x ∈ s, x < k) (hr : ∀ x ∈ r, x ≤ s.length) : SA s (mgL s r o (otL s k r)) := by
  have hp := otL_perm hk hr
  have hs := otL_srt h hk hr
  have hm := MG.run h hp hs _ (Nat.le_refl _)
  have hpm := hm.perm
  rw [List.take_length] at hpm
  refine ⟨?_, ?_⟩
  · exact (hpm.trans (h.perm.append hp)).trans (range_perm _)
  · unfold mgL
    rw [List.pairwise_append]
    exact ⟨hm.l, hm.r, hm.lr⟩
end
theorem skew_SA : ∀ f s k, s.length < f → s.length ≤ 100000 → k ≤ 1000000 → (∀ x ∈ s, x < k) → SkewOk f s k ∧ SA s (skewF f s k)
  | 0, s, k, h, _, _, _ => by omega
  | f + 1, s, k, h, hl, hk, hsk => by
    obtain ⟨h1, h2⟩ := skew_rk (s := s) (k := k) (fun s' k' => skew_SA f s' k') h hl hk hsk
    refine ⟨h1, ?_⟩
    by_cases c : s.length < 2
    · rw [skewF, if_pos c]
      have e : plM s.length 0 = List.range s.length := by
        have : s.length = 0 ∨ s.length = 1 := by omega
        rcases this with e | e <;> rw [e] <;> rfl
      rw [e]
      refine ⟨List.Perm.refl _, ?_⟩
      refine List.Pairwise.imp_of_mem ?_ List.pairwise_lt_range
      intro a b ha hb hab
      have := List.mem_range.1 hb
      omega
    · rw [skewF, if_neg c]
      exact mgL_SA (h2 (by omega)) hsk (rkd_ok h1 (by omega)).rle

-- the numbers squeezed
theorem lx_map {f : Nat → Nat} : ∀ {l m : List Nat}, (∀ x ∈ l, ∀ y ∈ m, (x < y → f x < f y) ∧ (y < x → f y < f x)) → lx (l.map f) (m.map f) = lx l m
  | [], [], _ => rfl
  | [], y :: m, _ => rfl
  | x :: l, [], _ => rfl
  | x :: l, y :: m, h => by
    obtain ⟨h1, h2⟩ := h x List.mem_cons_self y List.mem_cons_self
    rw [List.map_cons, List.map_cons, lx, lx, lx_map (fun a ha b hb => h a (List.mem_cons_of_mem _ ha) b (List.mem_cons_of_mem _ hb))]
    rcases Nat.lt_trichotomy x y with c | c | c
    · rw [if_pos c, if_pos (h1 c)]
    · subst c; rw [if_neg (by omega), if_neg (by omega), if_neg (by omega), if_neg (by omega)]
    · have := h2 c
      rw [if_neg (by omega), if_pos this, if_neg (by omega), if_pos c]
theorem ind_sum {s : List Nat} : ∀ l : List Nat, (l.map fun x => if x ∈ s then 1 else 0).sum = (l.filter fun x => decide (x ∈ s)).length
  | [] => rfl
  | x :: l => by
    rw [List.map_cons, List.sum_cons, ind_sum l]
    by_cases c : x ∈ s
    · rw [List.filter_cons_of_pos (by simpa using c), if_pos c]; simp; omega
    · rw [List.filter_cons_of_neg (by simpa using c), if_neg c]; simp
theorem thL_eq (s : List Nat) : thL s = (List.range (mxL s + 1)).map fun x => if x ∈ s then 1 else 0 := by unfold thL thP; rw [List.take_length]
theorem thL_at {s : List Nat} {x : Nat} (h : x ∈ s) : byt (thL s) x = 1 := by
  have := mxL_ge x h
  rw [byt_eq (by rw [thL_len]; omega)]
  simp [thL_eq, h]
theorem thL_take (s : List Nat) (x : Nat) : ((thL s).take x).sum ≤ s.length := by
  rw [thL_eq, ← List.map_take, ind_sum]
  refine nodup_sub_len' ((List.nodup_range.sublist (List.take_sublist _ _)).filter _) fun y hy => ?_
  simpa using (List.mem_filter.1 hy).2
theorem take_sum_le (l : List Nat) (i d : Nat) : (l.take i).sum ≤ (l.take (i + d)).sum := by
  rw [List.take_add, List.sum_append]; omega
theorem sq_mono {s : List Nat} {x y : Nat} (hx : x ∈ s) (hy : y ∈ s) (h : x < y) : byt (startsL (thL s)) x < byt (startsL (thL s)) y := by
  have h1 := mxL_ge x hx
  have h2 := mxL_ge y hy
  rw [startsL_at (by rw [thL_len]; omega), startsL_at (by rw [thL_len]; omega)]
  have h3 := take_sum_le (thL s) (x + 1) (y - (x + 1))
  rw [show x + 1 + (y - (x + 1)) = y by omega, take_byt (by rw [thL_len]; omega), thL_at hx] at h3
  simp at h3
  omega
theorem sqL_lt {s : List Nat} : ∀ x ∈ sqL s, x < s.length + 1 := fun x hx => by
  obtain ⟨y, hy, rfl⟩ := List.mem_map.1 hx
  have := mxL_ge y hy
  rw [startsL_at (by rw [thL_len]; omega)]
  have := thL_take s y
  omega
theorem sqL_SA {s a : List Nat} (h : SA (sqL s) a) : SA s a := by
  refine ⟨by have := h.perm; rwa [sqL_len] at this, h.srt.imp fun {i j} hij => ?_⟩
  unfold sqL at hij
  rw [← List.map_drop, ← List.map_drop, lx_map] at hij
  · exact hij
  · intro x hx y hy
    exact ⟨sq_mono (List.mem_of_mem_drop hx) (List.mem_of_mem_drop hy), sq_mono (List.mem_of_mem_drop hy) (List.mem_of_mem_drop hx)⟩
theorem skew_all {s : List Nat} {f : Nat} (hf : s.length < f) (hl : s.length ≤ 100000) : SkewOk f (sqL s) (s.length + 1) ∧ SA s (skewF f (sqL s) (s.length + 1)) := by
  obtain ⟨h1, h2⟩ := skew_SA f (sqL s) (s.length + 1) (by rw [sqL_len]; exact hf) (by rw [sqL_len]; exact hl) (by omega) sqL_lt
  exact ⟨h1, sqL_SA h2⟩
end Go.Proofs.Ytdpkhijbikbhnaa
