import Derived.Test.YtdpkhijbikbhnaaT28
namespace Go.Proofs.Ytdpkhijbikbhnaa
open Plain
set_option linter.unusedSimpArgs false
set_option linter.unusedVariables false

/- What a pass of sorting by counting comes to: the buckets, one behind the other. -/
theorem flatMap_congr' {f g : Nat → List Nat} : ∀ {l : List Nat}, (∀ x ∈ l, f x = g x) → l.flatMap f = l.flatMap g
  | [], _ => rfl
  | a :: l, h => by rw [List.flatMap_cons, List.flatMap_cons, h a (by simp), flatMap_congr' fun x hx => h x (by simp [hx])]
theorem flat_len (f : Nat → List Nat) (k : Nat) : ((List.range k).flatMap f).length = ((List.range k).map fun c => (f c).length).sum := by
  rw [List.length_flatMap]
theorem flat_set (f : Nat → List Nat) (c r x : Nat) (hr : r < (f c).length) : ∀ k, c < k →
    ((List.range k).flatMap f).set (((List.range c).map fun d => (f d).length).sum + r) x = (List.range k).flatMap fun d => if d = c then (f c).set r x else f d
  | 0, h => by omega
  | k + 1, h => by
    rw [List.range_succ, List.flatMap_append, List.flatMap_append]
    have e1 : ([k].flatMap f) = f k := by simp
    have e2 : ([k].flatMap fun d => if d = c then (f c).set r x else f d) = if k = c then (f c).set r x else f k := by simp
    rw [e1, e2]
    by_cases e : k = c
    · subst e
      rw [if_pos rfl, List.set_append_right _ _ (by rw [flat_len]; omega), flat_len]
      congr 1
      · have : ∀ d ∈ List.range k, (if d = k then (f k).set r x else f d) = f d := fun d hd => by
          rw [List.mem_range] at hd
          rw [if_neg (by omega)]
        rw [flatMap_congr' this]
      · congr 1; omega
    · rw [if_neg e]
      have hck : c < k := by omega
      have hlt : ((List.range c).map fun d => (f d).length).sum + r < ((List.range k).flatMap f).length := by
        rw [flat_len]
        have : ∀ m, c < m → ((List.range c).map fun d => (f d).length).sum + (f c).length ≤ ((List.range m).map fun d => (f d).length).sum := by
          intro m hm
          induction m with
          | zero => omega
          | succ m ih =>
            rw [List.range_succ, List.map_append, List.sum_append]
            by_cases e : m = c
            · subst e; simp
            · have := ih (by omega); omega
        have := this k hck
        omega
      rw [List.set_append_left _ _ hlt, flat_set f c r x hr k hck]

theorem sum_cnt_all : ∀ (l : List Nat) (k : Nat), (∀ x ∈ l, x < k) → (cntL l k).sum = l.length
  | [], k, _ => by
    have : cntL [] k = List.replicate k 0 := by unfold cntL; rw [List.eq_replicate_iff]; simp
    rw [this]; simp
  | x :: l, k, h => by
    have ih := sum_cnt_all l k (fun y hy => h y (by simp [hy]))
    have key : ∀ k, (cntL (x :: l) k).sum = (cntL l k).sum + if x < k then 1 else 0 := by
      intro k
      induction k with
      | zero => simp [cntL]
      | succ k ihk =>
        have e1 : ∀ l : List Nat, (cntL l (k + 1)).sum = (cntL l k).sum + l.count k := fun l => by simp [cntL, List.range_succ]
        rw [e1, e1, ihk, List.count_cons]
        by_cases h1 : x = k
        · subst h1; simp; omega
        · have : (x == k) = false := by simpa using h1
          rw [this]
          by_cases h2 : x < k
          · rw [if_pos h2, if_pos (show x < k + 1 by omega)]; simp; omega
          · rw [if_neg h2, if_neg (show ¬ x < k + 1 by omega)]; simp
    rw [key, if_pos (h x (by simp)), ih]; simp
def keyF (order keys : List Nat) (c : Nat) : List Nat := order.filter fun y => decide (byt keys y = c)
/-- The buckets when i have been laid. -/
def bkR (order keys : List Nat) (i c : Nat) : List Nat := keyF (order.take i) keys c ++ List.replicate (keyF (order.drop i) keys c).length 0
theorem keyF_app (a b keys : List Nat) (c : Nat) : keyF (a ++ b) keys c = keyF a keys c ++ keyF b keys c := by simp [keyF]
theorem keyF_count (order keys : List Nat) (c : Nat) : (keyF order keys c).length = (ksL order keys).count c := by
  unfold keyF ksL
  rw [← List.countP_eq_length_filter, List.count_eq_countP, List.countP_map]
  apply List.countP_congr
  intro x _
  simp
theorem bkR_len (order keys : List Nat) (i c : Nat) : (bkR order keys i c).length = (ksL order keys).count c := by
  rw [← keyF_count]
  conv => rhs; rw [← List.take_append_drop i order]
  rw [keyF_app]; simp [bkR]
theorem ksL_take (order keys : List Nat) (i : Nat) : (ksL order keys).take i = ksL (order.take i) keys := by simp [ksL]
theorem psRun_bk (order keys : List Nat) (k : Nat) (hk : ∀ i, i < order.length → byt (ksL order keys) i < k) : ∀ i, i ≤ order.length → psRun order keys k i = (List.range k).flatMap (bkR order keys i)
  | 0, _ => by
    rw [psRun]
    symm
    rw [List.eq_replicate_iff]
    constructor
    · rw [flat_len]
      have : ((List.range k).map fun c => (bkR order keys 0 c).length) = cntL (ksL order keys) k := by
        unfold cntL; apply List.map_congr_left; intro c _; exact bkR_len _ _ _ _
      rw [this]
      have h1 := sum_cnt_all (ksL order keys) k (fun x hx => by
        obtain ⟨i, hi, rfl⟩ := List.mem_iff_getElem.1 hx
        have hi2 : i < order.length := by simpa [ksL] using hi
        have := hk i hi2
        rwa [byt_eq hi] at this)
      rw [h1]; simp [ksL]
    · intro b hb
      obtain ⟨c, _, hc⟩ := List.mem_flatMap.1 hb
      simp [bkR, keyF] at hc
      exact hc.2
  | i + 1, hi => by
    have ih := psRun_bk order keys k hk i (by omega)
    rw [psRun, ih]
    have hc := hk i (by omega)
    obtain ⟨c, hcc⟩ : ∃ c, byt (ksL order keys) i = c := ⟨_, rfl⟩
    have hkc : byt keys (byt order i) = c := by rw [← hcc, ksL_at (by omega)]
    rw [hcc] at hc
    have hdrop : order.drop i = byt order i :: order.drop (i + 1) := drop_cons (by omega)
    have htake : order.take (i + 1) = order.take i ++ [byt order i] := take_byt (by omega)
    have hone : ∀ d, keyF [byt order i] keys d = if d = c then [byt order i] else [] := fun d => by
      simp only [keyF, List.filter_cons, List.filter_nil, hkc]
      by_cases e : d = c
      · subst e; simp
      · have : ¬ c = d := fun h => e h.symm
        simp [e, this]
    have hcons : ∀ d, keyF (order.drop i) keys d = keyF [byt order i] keys d ++ keyF (order.drop (i + 1)) keys d := fun d => by
      rw [← keyF_app, hdrop]; rfl
    have hps : psP order keys k i = ((List.range c).map fun d => (bkR order keys i d).length).sum + (keyF (order.take i) keys c).length := by
      unfold psP
      rw [hcc, ksL_take, ← keyF_count]
      congr 2
      unfold cntL
      rw [← List.map_take, List.take_range, Nat.min_eq_left (by omega)]
      apply List.map_congr_left
      intro d _
      exact (bkR_len _ _ _ _).symm
    rw [hps, flat_set _ _ _ _ _ _ hc]
    · refine flatMap_congr' ?_
      intro d _
      by_cases e : d = c
      · subst e
        rw [if_pos rfl]
        unfold bkR
        rw [htake, keyF_app, hone, if_pos rfl, hcons, hone, if_pos rfl, List.set_append_right _ _ (Nat.le_refl _), Nat.sub_self]
        simp [List.replicate_succ]
      · rw [if_neg e]
        unfold bkR
        rw [htake, keyF_app, hone, if_neg e, hcons, hone, if_neg e]
        simp
    · unfold bkR
      rw [hcons, hone, if_pos rfl]
      simp
theorem passL_eq {order keys : List Nat} {k : Nat} (hk : ∀ x ∈ order, byt keys x < k) : passL order keys k = (List.range k).flatMap (keyF order keys) := by
  unfold passL
  rw [psRun_bk order keys k (fun i hi => by rw [ksL_at hi]; exact hk _ (by rw [byt_eq hi]; exact List.getElem_mem hi)) _ (Nat.le_refl _)]
  refine flatMap_congr' ?_
  intro c _
  simp [bkR, keyF]
theorem passL_perm {order keys : List Nat} {k : Nat} (hk : ∀ x ∈ order, byt keys x < k) : (passL order keys k).Perm order := by
  rw [passL_eq hk]
  have : ∀ k, ((List.range k).flatMap (keyF order keys)).Perm (order.filter fun y => decide (byt keys y < k)) := by
    intro k
    induction k with
    | zero => simp
    | succ k ih =>
      rw [List.range_succ, List.flatMap_append]
      have e1 : ([k].flatMap (keyF order keys)) = keyF order keys k := by simp
      rw [e1]
      refine (ih.append_right _).trans ?_
      have h := List.filter_append_perm (fun y => decide (byt keys y < k)) (order.filter fun y => decide (byt keys y < k + 1))
      rw [List.filter_filter, List.filter_filter] at h
      have h1 : (order.filter fun a => decide (byt keys a < k) && decide (byt keys a < k + 1)) = order.filter fun y => decide (byt keys y < k) := by
        apply List.filter_congr; intro y _
        rw [Bool.eq_iff_iff]; simp; omega
      have h2 : (order.filter fun a => (!decide (byt keys a < k)) && decide (byt keys a < k + 1)) = keyF order keys k := by
        unfold keyF
        apply List.filter_congr; intro y _
        rw [Bool.eq_iff_iff]; simp; omega
      rw [h1, h2] at h
      exact h
  refine (this k).trans ?_
  rw [List.filter_eq_self.2 (fun y hy => decide_eq_true (hk y hy))]
/-- The order that was stays among those with one key. -/
theorem passL_sorted {order keys : List Nat} {k : Nat} {R : Nat → Nat → Prop} (hk : ∀ x ∈ order, byt keys x < k) (h : order.Pairwise R) : (passL order keys k).Pairwise fun a b => byt keys a < byt keys b ∨ byt keys a = byt keys b ∧ R a b := by
  rw [passL_eq hk, List.pairwise_flatMap]
  constructor
  · intro c _
    refine (h.filter _).imp_of_mem ?_
    intro a b ha hb hR
    simp at ha hb
    exact .inr ⟨by rw [ha.2, hb.2], hR⟩
  · refine List.pairwise_lt_range.imp ?_
    intro c d hcd a ha b hb
    simp [keyF] at ha hb
    exact .inl (by rw [ha.2, hb.2]; exact hcd)
theorem passL_mem {order keys : List Nat} {k x : Nat} (hk : ∀ x ∈ order, byt keys x < k) : x ∈ passL order keys k ↔ x ∈ order := (passL_perm hk).mem_iff
end Go.Proofs.Ytdpkhijbikbhnaa
