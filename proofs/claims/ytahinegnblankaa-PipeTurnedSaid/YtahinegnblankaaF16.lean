import Derived.Test.YtahinegnblankaaF15
namespace Go.Proofs.Ytahinegnblankaa
open Go Abs
set_option linter.unusedSimpArgs false
set_option linter.unusedVariables false

theorem mv_perm {r : List Nat} {k : Nat} (h : k < r.length) : (mv r k).Perm r := by
  have e : r = r.take k ++ byt r k :: r.drop (k + 1) := by rw [← drop_cons h, List.take_append_drop]
  conv => rhs; rw [e]
  exact List.perm_middle.symm

theorem idx_inj {l : List Nat} {x y : Nat} (hx : x ∈ l) (hy : y ∈ l) (h : idx l x = idx l y) : x = y := by rw [← idx_byt hx, h, idx_byt hy]

theorem idx_cons (a : Nat) (l : List Nat) (x : Nat) : idx (a :: l) x = if a = x then 0 else idx l x + 1 := by rw [idx]

theorem idx_app_left {a b : List Nat} {x : Nat} (h : x ∈ a) : idx (a ++ b) x = idx a x := by
  induction a with
  | nil => simp at h
  | cons y a ih =>
    rw [List.cons_append, idx_cons, idx_cons]
    split
    · rfl
    · rename_i hn
      rw [ih (by
        rcases List.mem_cons.1 h with h | h
        · exact absurd h.symm hn
        · exact h)]

theorem idx_app_right {a b : List Nat} {x : Nat} (h : x ∉ a) : idx (a ++ b) x = a.length + idx b x := by
  induction a with
  | nil => simp
  | cons y a ih =>
    rw [List.cons_append, idx_cons, if_neg (fun e => h (by simp [e])), ih (fun h' => h (by simp [h'])), List.length_cons]
    omega

/-- Where all are, once one went to the front. -/
theorem idx_mv {r : List Nat} (hn : r.Nodup) {x y : Nat} (hx : x ∈ r) (hy : y ∈ r) : idx (mv r (idx r y)) x = if x = y then 0 else idx r x + (if idx r x < idx r y then 1 else 0) := by
  have hk := idx_lt hy
  have hb := idx_byt hy
  rw [mv, hb, idx_cons]
  by_cases e : x = y
  · rw [if_pos e.symm, if_pos e]
  · rw [if_neg (fun h => e h.symm), if_neg e]
    have er : r = r.take (idx r y) ++ y :: r.drop (idx r y + 1) := by
      conv => lhs; rw [← List.take_append_drop (idx r y) r, drop_cons hk, hb]
    generalize hK : idx r y = K at *
    by_cases hm : x ∈ r.take K
    · have h1 : idx r x = idx (r.take K) x := by conv => lhs; rw [er]
                                                 exact idx_app_left hm
      have h2 := idx_lt hm
      have h3 : (r.take K).length = K := by simp; omega
      rw [idx_app_left hm, if_pos (by omega)]
      omega
    · have h1 : idx r x = (r.take K).length + (idx (r.drop (K + 1)) x + 1) := by
        conv => lhs; rw [er]
        rw [idx_app_right hm, idx_cons, if_neg (fun h => e h.symm)]
      have h3 : (r.take K).length = K := by simp; omega
      rw [idx_app_right hm, if_neg (by omega)]
      omega

theorem idx_at {r : List Nat} (hn : r.Nodup) {k : Nat} (hk : k < r.length) : idx r (byt r k) = k := by
  have hm : byt r k ∈ r := by rw [byt_eq hk]; exact List.getElem_mem hk
  have h1 := idx_lt hm
  have h2 : r[idx r (byt r k)] = r[k] := by rw [← byt_eq h1, ← byt_eq hk]; exact idx_byt hm
  have hp := List.pairwise_iff_getElem.1 hn
  rcases Nat.lt_trichotomy (idx r (byt r k)) k with h | h | h
  · exact absurd h2 (hp _ _ h1 hk h)
  · exact h
  · exact absurd h2.symm (hp _ _ hk h1 h)

theorem back_move {b : List Nat} (hb : ∀ x ∈ b, x < 256) : ∀ {r : List Nat}, Full r → back (move b r) r = b := by
  induction b with
  | nil => intro r _; rfl
  | cons c b ih =>
    intro r h
    have hc := hb c (by simp)
    rw [move, back, idx_byt (h.mem c hc), ih (fun y hy => hb y (by simp [hy])) (h.mv (h.idx hc))]

theorem move_back {b : List Nat} (hb : ∀ x ∈ b, x < 256) : ∀ {r : List Nat}, Full r → r.Nodup → move (back b r) r = b := by
  induction b with
  | nil => intro r _ _; rfl
  | cons c b ih =>
    intro r h hn
    have hc := hb c (by simp)
    have hcl : c < r.length := by rw [h.len]; exact hc
    rw [back, move, idx_at hn hcl, ih (fun y hy => hb y (by simp [hy])) (h.mv hc) ((mv_perm hcl).nodup_iff.2 hn)]

theorem row0_nodup : row0.Nodup := List.nodup_range
end Go.Proofs.Ytahinegnblankaa
