import Derived.Test.YtahinegnblankaaF12
import Derived.Test.YtahinegnblankaaW4
namespace Go.Proofs.Ytahinegnblankaa
open Go Abs
set_option linter.unusedSimpArgs false
set_option linter.unusedVariables false

theorem putAll_eq : ∀ (cs l : List Value) (o : Nat), o + cs.length ≤ l.length → putAll l o cs = l.take o ++ cs ++ l.drop (o + cs.length) := by
  intro cs
  induction cs with
  | nil => intro l o _; simp [putAll]
  | cons c cs ih =>
    intro l o h
    simp only [List.length_cons] at h
    rw [putAll, ih (l.set o c) (o + 1) (by simp; omega)]
    have hs := List.set_eq_take_append_cons_drop (l := l) (i := o) (a := c)
    rw [if_pos (by omega)] at hs
    have h1 : (l.set o c).take (o + 1) = l.take o ++ [c] := by
      rw [hs, List.take_append, List.length_take, Nat.min_eq_left (by omega), List.take_take, Nat.min_eq_right (by omega)]
      simp
    have h2 : (l.set o c).drop (o + 1 + cs.length) = l.drop (o + (cs.length + 1)) := by
      rw [List.drop_set_of_lt (by omega)]
      congr 1; omega
    rw [h1, h2]
    simp

theorem take_one_byt {r : List Nat} (h : 0 < r.length) : r.take 1 = [byt r 0] := by
  cases r with
  | nil => simp at h
  | cons x l => simp [byt]

/-- Written blocks keep what they don't name. -/
theorem ap_out {f : Eff} {g : Heap} {q : Nat} (h : q ∉ f.wr) : f.ap g q = g q := by
  simp only [Eff.wr, List.mem_append, List.mem_range'_1, not_or] at h
  unfold Eff.ap
  rw [addAll_out (by omega), setAll_out h.1]

theorem Own.append_wr {P : Program} {T T' e : TypeId} {g g' : Heap} {v y : Value} {l : List Value} {n n' j : Nat} {f : Eff} (h : Own e g v l n n') (hf : stepAppend P T T' v y g' j = some f) : ∀ x ∈ f.wr, x ∈ srcBlk v ∨ j ≤ x := by
  obtain ⟨i, h, hi⟩ := h
  rcases h with ⟨_, rfl, _, _⟩ | ⟨k, rfl, rfl, _, _⟩
  · obtain ⟨_, h2⟩ := append_fp_nil hf
    exact fun x hx => .inr (by have := h2 x hx; omega)
  · obtain ⟨_, h2⟩ := append_fp_some hf
    have := hi k rfl
    exact fun x hx => .inl (by have := h2 x hx; simp only at this; simp only [srcBlk]; rw [if_neg (by omega)]; simp [this])

set_option maxRecDepth 10000 in
theorem moves_spec (p : Nat) (r : List Nat) (k : Nat) (g : Heap) (j : Nat) (hl : r.length ≤ 2 ^ 40) (hk : k < r.length) (hp : g p = some ⟨false, 5, bs r⟩) : FnSpec Try.prog 69 [.slice (some ⟨p, 0, some r.length⟩) r.length 1, .int .i64 k] g { v := .tuple #[], r := [p], w := [(p, ⟨false, 5, bs (mv r k)⟩)], j := j } := by
  refine spec_of_body [] follows Try.func69 rfl (by kernel_rfl) (by simp [Try.f69]) (by kernel_rfl) rfl ?_
  intro g2 s2 n hg hfr hs hn hwf hsv
  have hp2 : g2 p = some ⟨false, 5, bs r⟩ := by rw [hg p (by simp [Eff.fp])]; exact hp
  have hpn : p < n := hs p (hwf p _ hp2).1
  have hsr := src_bs (m := r.length) hp2 rfl
  obtain ⟨i1, i2, _⟩ := own_at (P := Try.prog) (T := 24) hp2 (i := k) (bs_at hk) Try.underlying24 tsize5 aggT5
  have hbl : (bs r).length = r.length := by simp
  rw [hbl] at i1 i2
  obtain ⟨a1, _, _, _⟩ := src_slV (P := Try.prog) hsr Try.underlying24 tsize5 (some (.int .i64 ((1 : Nat) : Int))) none 1 r.length rfl rfl (by omega) (Nat.le_refl _)
  obtain ⟨b1, b2, b3, _⟩ := src_slV (P := Try.prog) hsr Try.underlying24 tsize5 none (some (.int .i64 (k : Int))) 0 k rfl rfl (by omega) (by omega)
  obtain ⟨vd, hvd0⟩ : ∃ vd, vd = slV (.slice (some ⟨p, 0, some r.length⟩) r.length 1) 1 r.length := ⟨_, rfl⟩
  obtain ⟨vs, hvs0⟩ : ∃ vs, vs = slV (.slice (some ⟨p, 0, some r.length⟩) r.length 1) 0 k := ⟨_, rfl⟩
  rw [← hvd0] at a1
  rw [← hvs0] at b1 b2 b3
  have a1' : stepSlice Try.prog 24 (.slice (some ⟨p, 0, some r.length⟩) r.length 1) (some (.int .i64 1)) none = some { v := vd } := a1
  have b2' : srcCells vs g2 1 = some (k, bs (r.take k)) := by
    have := b2.cells
    simpa using this
  -- what the copy comes to
  have hcopy : ∃ f, stepCopy Try.prog 24 vd vs g2 = some f ∧ f.a = [] ∧ (∀ q, q ≠ p → f.ap g2 q = g2 q) ∧ f.ap g2 p = some ⟨false, 5, bs (byt r 0 :: (r.take k ++ r.drop (k + 1)))⟩ := by
    have hr0 : r = byt r 0 :: r.drop 1 := by
      have := drop_cons (l := r) (k := 0) (by omega)
      simpa using this
    by_cases h0 : k = 0
    · subst h0
      have hvd : ∃ ad m, vd = .slice (some ad) m 1 := by
        rw [hvd0, slV]
        split
        · exact ⟨_, _, rfl⟩
        · exact ⟨_, _, rfl⟩
      obtain ⟨ad, m, rfl⟩ := hvd
      refine ⟨{ v := .int .i64 0, r := srcBlk vs }, ?_, rfl, fun q hq => rfl, ?_⟩
      · simp [stepCopy, Try.underlying24, tsize5, b2']
      · show g2 p = _
        rw [hp2]
        simp only [List.take_zero, List.nil_append, Nat.zero_add]
        rw [← hr0]
    · have hl1 : 1 < r.length := by omega
      have hvd : vd = .slice (some ⟨p, 1, some r.length⟩) (r.length - 1) 1 := by
        rw [hvd0, slV, if_neg (by omega)]
      subst hvd
      have hmin : min k (r.length - 1) = k := by omega
      refine ⟨{ v := .int .i64 k, r := p :: srcBlk vs, w := [(p, ⟨false, 5, putAll (bs r) 1 (bs (r.take k))⟩)] }, ?_, rfl, fun q hq => by simp [ap_wr, upd_app, hq], ?_⟩
      · simp only [stepCopy, Try.underlying24, tsize5, b2', hmin, rd, hp2, hbl]
        simp [h0]
        rw [List.take_of_length_le (by simp; omega)]
      · simp only [ap_wr, upd_self]
        rw [putAll_eq _ _ _ (by simp; omega)]
        congr 2
        have e1 : (bs r).take 1 = bs [byt r 0] := by rw [← List.map_take, take_one_byt (by omega)]
        have e2 : (bs r).drop (1 + (bs (r.take k)).length) = bs (r.drop (k + 1)) := by
          rw [← List.map_drop]; congr 2; simp; omega
        rw [e1, e2]
        simp
  obtain ⟨f, hf, hfa, hf1, hf2⟩ := hcopy
  refine s_run (by simp only [runL, Option.getD_some, List.getElem?_cons_succ, List.getElem?_cons_zero, awant_none, astep, evl, put, ap_none, List.length_nil, Nat.add_zero, upd_app, ↓reduceIte, Nat.reduceEqDiff, undef, i1, i2] <;> rfl) ?_
  refine w_gen (fun t => t 0 = .slice (some ⟨p, 0, some r.length⟩) r.length 1 ∧ t 1 = .int .i64 k ∧ t 4 = .int .u8 (byt r k)) (by simp [upd_app]) ?_
  rintro t ⟨t0, t1, t4⟩
  refine s_drawn #[0, 1, 0, 0, 12, 31] (by decide +kernel) ?_
  refine d_pure 5 (by simp only [runP, List.take_succ_cons, List.take_zero, awant_none, astep, evl, put, upd_app, reduceCtorEq, ↓reduceIte, Nat.reduceEqDiff, Option.map_some, Option.map_none, List.isEmpty_nil, Bool.and_self, t0, t1, a1', b1] <;> rfl) ?_
  dsimp only
  refine d_step f (by simp only [astep, evl, upd_app, stepCall, ↓reduceIte, Nat.reduceEqDiff]; exact hf) rfl (by simp) (d_heap fun G hG => ?_)
  rw [← hG] at hf1 hf2
  simp only [hfa, List.length_nil, Nat.add_zero]
  have hat0 : (bs (byt r 0 :: (r.take k ++ r.drop (k + 1))))[0]? = some (.int .u8 (byt r 0)) := rfl
  obtain ⟨j1, j2, j3⟩ := own_at (P := Try.prog) (T := 24) hf2 (i := 0) hat0 Try.underlying24 tsize5 aggT5
  have hbl2 : (bs (byt r 0 :: (r.take k ++ r.drop (k + 1)))).length = r.length := by simp; omega
  rw [hbl2] at j1 j3
  have j1' : stepIndex Try.prog 24 (.slice (some ⟨p, 0, some r.length⟩) r.length 1) (.int .i64 0) = some { v := .pointer (some ⟨p, 0, some r.length⟩) } := j1 .i64
  refine region_run (id := 2) (by simp only [runL, awant_none, astep, evl, put, ap_none, ap_wr, List.length_nil, Nat.add_zero, upd_app, reduceCtorEq, ↓reduceIte, Nat.reduceEqDiff, List.map_cons, undef, t0, t4, j1', j3] <;> rfl) ?_
  refine ⟨.inl rfl, by simp, [], fin_w1 ?_ (by intro c hc; simp at hc) (by rw [hp2]; rfl) ?_ (fun c hc => SV1_plain (plain_bs _ c hc)) (fun i b hi hb => by simp [upd_app, hi, hf1 i hi, hb])⟩
  · simp [resVal]
  · simp [mv]
end Go.Proofs.Ytahinegnblankaa
