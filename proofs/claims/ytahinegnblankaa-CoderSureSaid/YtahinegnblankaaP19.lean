import Derived.Test.YtahinegnblankaaP18
namespace Go.Proofs.Ytahinegnblankaa
open Go Abs
set_option linter.unusedSimpArgs false
set_option linter.unusedVariables false

theorem tinf30 : tinf Try.prog 30 = some (List.replicate 256 (.bool false), 256, 256) := by kernel_rfl
theorem tsize4 : tsize Try.prog 4 = some 1 := by kernel_rfl
theorem aggT4 : aggT Try.prog 4 = some false := by kernel_rfl

/-- Which bytes were seen. -/
def seenC (pre : List Nat) : List Value := (List.range 256).map fun x => Value.bool (decide (x ∈ pre))

theorem seenC_nil : seenC [] = List.replicate 256 (.bool false) := by
  have h : (fun x : Nat => Value.bool (decide (x ∈ ([] : List Nat)))) = fun _ => Value.bool false := by funext x; simp
  unfold seenC
  rw [h, List.map_const', List.length_range]
theorem seenC_len (pre : List Nat) : (seenC pre).length = 256 := by simp [seenC]
theorem seenC_at {pre : List Nat} {x : Nat} (hx : x < 256) : (seenC pre)[x]? = some (.bool (decide (x ∈ pre))) := by simp [seenC, hx]
theorem seenC_set {pre : List Nat} {y : Nat} (hy : y < 256) : (seenC pre).set y (.bool true) = seenC (pre ++ [y]) := by
  apply List.ext_getElem?
  intro i
  rw [List.getElem?_set]
  by_cases hi : i < 256
  · by_cases e : y = i
    · subst e
      rw [if_pos rfl, if_pos (by rw [seenC_len]; exact hi), seenC_at hi]
      simp
    · rw [if_neg e, seenC_at hi, seenC_at hi]
      congr 2
      rw [decide_eq_decide]
      simp
      omega
  · rw [if_neg (by omega), List.getElem?_eq_none (by rw [seenC_len]; omega), List.getElem?_eq_none (by rw [seenC_len]; omega)]

/-- Where an unseen byte stands, and who is behind it. -/
structure Pos (r : List Nat) (pre : List Nat) (c n : Nat) : Prop where
  full : Full r
  nodup : r.Nodup
  at_ : idx r c = c + n
  ord : ∀ x, x < 256 → x ≠ c → (idx r c < idx r x ↔ (x ∉ pre ∧ c < x))

theorem pos_start {c : Nat} (hc : c < 256) : Pos row0 [] c 0 := by
  have key : ∀ x, x < 256 → idx row0 x = x := fun x hx => by
    have h1 : byt row0 x = x := by rw [byt_eq (by simpa using hx)]; simp
    have := idx_at row0_nodup (k := x) (by simpa using hx)
    rwa [h1] at this
  exact ⟨full_row, row0_nodup, by rw [key c hc]; rfl, fun x hx _ => by rw [key c hc, key x hx]; simp⟩

theorem pos_step {r pre : List Nat} {c n y : Nat} (h : Pos r pre c n) (hc : c < 256) (hy : y < 256) (hne : y ≠ c) : Pos (mv r (idx r y)) (pre ++ [y]) c (if c < y ∧ y ∉ pre then n + 1 else n) := by
  have hk := h.full.idx hy
  have hkl : idx r y < r.length := by rw [h.full.len]; exact hk
  have my := h.full.mem y hy
  have mc := h.full.mem c hc
  have ic := idx_mv h.nodup mc my
  rw [if_neg (fun e => hne e.symm)] at ic
  have oy := h.ord y hy hne
  refine ⟨h.full.mv hk, (mv_perm hkl).nodup_iff.2 h.nodup, ?_, fun x hx hxc => ?_⟩
  · rw [ic, h.at_]
    have : idx r c < idx r y ↔ (c < y ∧ y ∉ pre) := by rw [oy]; exact And.comm
    rw [h.at_] at this
    by_cases hq : c < y ∧ y ∉ pre
    · rw [if_pos hq, if_pos (this.2 hq)]; omega
    · rw [if_neg hq, if_neg (fun h => hq (this.1 h))]; omega
  · have mx := h.full.mem x hx
    have ix := idx_mv h.nodup mx my
    rw [ic, ix]
    by_cases e : x = y
    · subst e
      rw [if_pos rfl]
      simp
    · rw [if_neg e]
      have ox := h.ord x hx hxc
      have n1 : idx r x ≠ idx r y := fun h' => e (idx_inj mx my h')
      have n2 : idx r x ≠ idx r c := fun h' => hxc (idx_inj mx mc h')
      have n3 : idx r y ≠ idx r c := fun h' => hne (idx_inj my mc h')
      have hm : x ∉ pre ++ [y] ↔ x ∉ pre := by simp [e]
      rw [hm, ← ox]
      split <;> split <;> omega

set_option maxRecDepth 10000 in
theorem lawFFirst_spec (v : Value) (l : List Nat) (c : Nat) (g : Heap) (hc : c < 256) (hb : ∀ x ∈ l, x < 256) (hv : Src g v 1 l.length (bs l)) : FnSpec Try.prog 7 [v, .int .u8 c] g { v := .bool true, r := srcBlk v } := by
  refine spec_of_body [4] follows Try.func7 rfl (by kernel_rfl) (by simp [Try.f7]) (by kernel_rfl) rfl ?_
  intro g2 s2 n hg hfr hs hn hwf hsv
  have hv2 : Src g2 v 1 l.length (bs l) := hv.congr fun i hi => hg i (by simp [Eff.fp, hi])
  have hlen := hv2.len Try.underlying24
  have hdom : ∀ i ∈ srcBlk v, i < n := fun i hi => by
    obtain ⟨b, hb⟩ := Option.isSome_iff_exists.1 (hv2.dom i hi)
    exact hs i (hwf i b hb).1
  refine s_run (by simp only [runL, List.drop_succ_cons, List.drop_zero, awant_some, Option.getD_some, List.getElem?_toArray, List.getElem?_cons_succ, List.getElem?_cons_zero, Option.bind_some, b_tt, b_tf, b_ft, b_ff, Bool.not_true, Bool.not_false, List.take_succ_cons, List.take_zero, awant_none, astep, evl, put, ap_none, ap_new, ap_wr, List.length_nil, List.length_cons, Nat.add_zero, Nat.zero_add, upd_app, stepBin, abin, stepUn, stepPick, stepExtract, stepCall, if_true, if_false, reduceCtorEq, ↓reduceIte, Nat.reduceEqDiff, Nat.reduceAdd, List.map_cons, List.map_nil, Option.map_some, Option.map_none, Bool.false_eq_true, Int.reduceLE, Int.reduceToNat, ne_eq, not_false_eq_true, and_self, and_true, true_and, decide_true, decide_false, Int.reduceEq, Int.reduceLT, Int.reduceBEq, Int.reduceBNe, not_true_eq_false, undef] <;> rfl) ?_
  by_cases ea1 : (l.length : Int) > 200
  · have ed1 : (decide ((l.length : Int) > 200)) = true := decide_eq_true ea1
    refine w_assoc (s_run (by simp only [runL, List.drop_succ_cons, List.drop_zero, awant_some, Option.getD_some, List.getElem?_toArray, List.getElem?_cons_succ, List.getElem?_cons_zero, Option.bind_some, b_tt, b_tf, b_ft, b_ff, Bool.not_true, Bool.not_false, List.take_succ_cons, List.take_zero, awant_none, astep, evl, put, ap_none, ap_new, ap_wr, List.length_nil, List.length_cons, Nat.add_zero, Nat.zero_add, upd_app, stepBin, abin, stepUn, stepPick, stepExtract, stepCall, if_true, if_false, reduceCtorEq, ↓reduceIte, Nat.reduceEqDiff, Nat.reduceAdd, List.map_cons, List.map_nil, Option.map_some, Option.map_none, Bool.false_eq_true, Int.reduceLE, Int.reduceToNat, ne_eq, not_false_eq_true, and_self, and_true, true_and, decide_true, decide_false, Int.reduceEq, Int.reduceLT, Int.reduceBEq, Int.reduceBNe, not_true_eq_false, undef, hlen, ed1] <;> rfl) ?_)
    refine s_true (by simp [evl, upd_app]) (w_assoc (s_run (by simp only [runL, List.drop_succ_cons, List.drop_zero, awant_some, Option.getD_some, List.getElem?_toArray, List.getElem?_cons_succ, List.getElem?_cons_zero, Option.bind_some, b_tt, b_tf, b_ft, b_ff, Bool.not_true, Bool.not_false, List.take_succ_cons, List.take_zero, awant_none, astep, evl, put, ap_none, ap_new, ap_wr, List.length_nil, List.length_cons, Nat.add_zero, Nat.zero_add, upd_app, stepBin, abin, stepUn, stepPick, stepExtract, stepCall, if_true, if_false, reduceCtorEq, ↓reduceIte, Nat.reduceEqDiff, Nat.reduceAdd, List.map_cons, List.map_nil, Option.map_some, Option.map_none, Bool.false_eq_true, Int.reduceLE, Int.reduceToNat, ne_eq, not_false_eq_true, and_self, and_true, true_and, decide_true, decide_false, Int.reduceEq, Int.reduceLT, Int.reduceBEq, Int.reduceBNe, not_true_eq_false, undef] <;> rfl) ?_))
    refine s_ret ⟨.inr rfl, by simp, [], fin_none ?_ trivial (fun _ _ h => h)⟩
    simp [resVal, upd_app]
  have ed1 : (decide ((l.length : Int) > 200)) = false := decide_eq_false ea1
  refine w_assoc (s_run (by simp only [runL, List.drop_succ_cons, List.drop_zero, awant_some, Option.getD_some, List.getElem?_toArray, List.getElem?_cons_succ, List.getElem?_cons_zero, Option.bind_some, b_tt, b_tf, b_ft, b_ff, Bool.not_true, Bool.not_false, List.take_succ_cons, List.take_zero, awant_none, astep, evl, put, ap_none, ap_new, ap_wr, List.length_nil, List.length_cons, Nat.add_zero, Nat.zero_add, upd_app, stepBin, abin, stepUn, stepPick, stepExtract, stepCall, if_true, if_false, reduceCtorEq, ↓reduceIte, Nat.reduceEqDiff, Nat.reduceAdd, List.map_cons, List.map_nil, Option.map_some, Option.map_none, Bool.false_eq_true, Int.reduceLE, Int.reduceToNat, ne_eq, not_false_eq_true, and_self, and_true, true_and, decide_true, decide_false, Int.reduceEq, Int.reduceLT, Int.reduceBEq, Int.reduceBNe, not_true_eq_false, undef, hlen, ed1] <;> rfl) ?_)
  refine s_false (by simp [evl, upd_app]) (s_skip ?_)
  have hal : stepAlloc Try.prog 30 n = some { v := .pointer (some ⟨n, 0, some 256⟩), j := n, a := [⟨false, 30, List.replicate 256 (.bool false)⟩] } := by simp only [stepAlloc, tinf30]
  refine s_run (by simp only [runL, List.drop_succ_cons, List.drop_zero, awant_some, Option.getD_some, List.getElem?_toArray, List.getElem?_cons_succ, List.getElem?_cons_zero, Option.bind_some, b_tt, b_tf, b_ft, b_ff, Bool.not_true, Bool.not_false, List.take_succ_cons, List.take_zero, awant_none, astep, evl, put, ap_none, ap_new, ap_wr, List.length_nil, List.length_cons, Nat.add_zero, Nat.zero_add, upd_app, stepBin, abin, stepUn, stepPick, stepExtract, stepCall, if_true, if_false, reduceCtorEq, ↓reduceIte, Nat.reduceEqDiff, Nat.reduceAdd, List.map_cons, List.map_nil, Option.map_some, Option.map_none, Bool.false_eq_true, Int.reduceLE, Int.reduceToNat, ne_eq, not_false_eq_true, and_self, and_true, true_and, decide_true, decide_false, Int.reduceEq, Int.reduceLT, Int.reduceBEq, Int.reduceBNe, not_true_eq_false, undef] <;> rfl) ?_
  refine s_run (by simp only [runL, List.drop_succ_cons, List.drop_zero, awant_some, Option.getD_some, List.getElem?_toArray, List.getElem?_cons_succ, List.getElem?_cons_zero, Option.bind_some, b_tt, b_tf, b_ft, b_ff, Bool.not_true, Bool.not_false, List.take_succ_cons, List.take_zero, awant_none, astep, evl, put, ap_none, ap_new, ap_wr, List.length_nil, List.length_cons, Nat.add_zero, Nat.zero_add, upd_app, stepBin, abin, stepUn, stepPick, stepExtract, stepCall, if_true, if_false, reduceCtorEq, ↓reduceIte, Nat.reduceEqDiff, Nat.reduceAdd, List.map_cons, List.map_nil, Option.map_some, Option.map_none, Bool.false_eq_true, Int.reduceLE, Int.reduceToNat, ne_eq, not_false_eq_true, and_self, and_true, true_and, decide_true, decide_false, Int.reduceEq, Int.reduceLT, Int.reduceBEq, Int.reduceBNe, not_true_eq_false, undef, hal] <;> rfl) (w_heap fun G1 hG1 => ?_)
  have k1 : Kp n g2 G1 := by rw [hG1]; exact kp_upd (Kp.refl _ _) (Nat.le_refl _)
  have b1 : G1 n = some ⟨false, 30, seenC []⟩ := by rw [hG1, seenC_nil]; simp [upd_app]
  refine w_assoc (s_run (by simp only [runL, List.drop_succ_cons, List.drop_zero, awant_some, Option.getD_some, List.getElem?_toArray, List.getElem?_cons_succ, List.getElem?_cons_zero, Option.bind_some, b_tt, b_tf, b_ft, b_ff, Bool.not_true, Bool.not_false, List.take_succ_cons, List.take_zero, awant_none, astep, evl, put, ap_none, ap_new, ap_wr, List.length_nil, List.length_cons, Nat.add_zero, Nat.zero_add, upd_app, stepBin, abin, stepUn, stepPick, stepExtract, stepCall, if_true, if_false, reduceCtorEq, ↓reduceIte, Nat.reduceEqDiff, Nat.reduceAdd, List.map_cons, List.map_nil, Option.map_some, Option.map_none, Bool.false_eq_true, Int.reduceLE, Int.reduceToNat, ne_eq, not_false_eq_true, and_self, and_true, true_and, decide_true, decide_false, Int.reduceEq, Int.reduceLT, Int.reduceBEq, Int.reduceBNe, not_true_eq_false, undef] <;> rfl) ?_)
  refine s_for 0 l.length (fun k t g n' => ∃ (r : List Nat) (q : Nat), t 0 = v ∧ t 1 = .int .u8 c ∧ t 5 = .int .i64 q ∧ t 6 = .pointer (some ⟨n, 0, some 256⟩) ∧ r = after (l.take k) row0 ∧ Pos r (l.take k) c q ∧ q ≤ k ∧ g n = some ⟨false, 30, seenC (l.take k)⟩ ∧ Kp n g2 g ∧ n < n') (by omega) (by omega) (by simp [upd_app])
    ⟨row0, 0, by simp [upd_app], by simp [upd_app], by simp [upd_app], by simp [upd_app], rfl, pos_start hc, by omega, by simpa using b1, k1, by omega⟩ ?_ ?_ ?_
  · rintro k t g n' hk t7 ⟨r, q, t0, t1, t5, t6, hr, hP, hq, hgn, hkp, hnn⟩
    have dl : decide ((k : Int) < (l.length : Int)) = decide (k < l.length) := by simp
    exact ⟨_, (by simp only [runL, List.drop_succ_cons, List.drop_zero, awant_some, Option.getD_some, List.getElem?_toArray, List.getElem?_cons_succ, List.getElem?_cons_zero, Option.bind_some, b_tt, b_tf, b_ft, b_ff, Bool.not_true, Bool.not_false, List.take_succ_cons, List.take_zero, awant_none, astep, evl, put, ap_none, ap_new, ap_wr, List.length_nil, List.length_cons, Nat.add_zero, Nat.zero_add, upd_app, stepBin, abin, stepUn, stepPick, stepExtract, stepCall, if_true, if_false, reduceCtorEq, ↓reduceIte, Nat.reduceEqDiff, Nat.reduceAdd, List.map_cons, List.map_nil, Option.map_some, Option.map_none, Bool.false_eq_true, Int.reduceLE, Int.reduceToNat, ne_eq, not_false_eq_true, and_self, and_true, true_and, decide_true, decide_false, Int.reduceEq, Int.reduceLT, Int.reduceBEq, Int.reduceBNe, not_true_eq_false, undef, t7, t0, hlen, dl] <;> rfl), by simp [upd_app], by simp [upd_app, t7], r, q, by simp [upd_app, t0], by simp [upd_app, t1], by simp [upd_app, t5], by simp [upd_app, t6], hr, hP, hq, hgn, hkp, hnn⟩
  · rintro k t g n' hk t7 ⟨r, q, t0, t1, t5, t6, hr, hP, hq, hgn, hkp, hnn⟩
    have hvg := hkp.src hv2 hdom
    obtain ⟨pa, i1, i2, _⟩ := hvg.at1 (P := Try.prog) (i := k) (c := .int .u8 (byt l k)) (bs_at hk) Try.underlying24 tsize5 aggT5
    have htk : l.take (k + 1) = l.take k ++ [byt l k] := by rw [List.take_succ_eq_append_getElem hk, byt_eq hk]
    have hyl := byt_lt hb k
    generalize byt l k = y at i2 htk hyl
    refine w_assoc ?_
    by_cases e : y = c
    · have d : ((y : Int) == (c : Int)) = true := ieq_t (by omega)
      refine s_run (by simp only [runL, List.drop_succ_cons, List.drop_zero, awant_some, Option.getD_some, List.getElem?_toArray, List.getElem?_cons_succ, List.getElem?_cons_zero, Option.bind_some, b_tt, b_tf, b_ft, b_ff, Bool.not_true, Bool.not_false, List.take_succ_cons, List.take_zero, awant_none, astep, evl, put, ap_none, ap_new, ap_wr, List.length_nil, List.length_cons, Nat.add_zero, Nat.zero_add, upd_app, stepBin, abin, stepUn, stepPick, stepExtract, stepCall, if_true, if_false, reduceCtorEq, ↓reduceIte, Nat.reduceEqDiff, Nat.reduceAdd, List.map_cons, List.map_nil, Option.map_some, Option.map_none, Bool.false_eq_true, Int.reduceLE, Int.reduceToNat, ne_eq, not_false_eq_true, and_self, and_true, true_and, decide_true, decide_false, Int.reduceEq, Int.reduceLT, Int.reduceBEq, Int.reduceBNe, not_true_eq_false, undef, t0, t1, t7, i1, i2, d] <;> rfl) ?_
      refine s_true (by simp [evl, upd_app]) (w_assoc (s_run (by simp only [runL, List.drop_succ_cons, List.drop_zero, awant_some, Option.getD_some, List.getElem?_toArray, List.getElem?_cons_succ, List.getElem?_cons_zero, Option.bind_some, b_tt, b_tf, b_ft, b_ff, Bool.not_true, Bool.not_false, List.take_succ_cons, List.take_zero, awant_none, astep, evl, put, ap_none, ap_new, ap_wr, List.length_nil, List.length_cons, Nat.add_zero, Nat.zero_add, upd_app, stepBin, abin, stepUn, stepPick, stepExtract, stepCall, if_true, if_false, reduceCtorEq, ↓reduceIte, Nat.reduceEqDiff, Nat.reduceAdd, List.map_cons, List.map_nil, Option.map_some, Option.map_none, Bool.false_eq_true, Int.reduceLE, Int.reduceToNat, ne_eq, not_false_eq_true, and_self, and_true, true_and, decide_true, decide_false, Int.reduceEq, Int.reduceLT, Int.reduceBEq, Int.reduceBNe, not_true_eq_false, undef] <;> rfl) (s_ret ?_)))
      exact ⟨.inr rfl, by simp, [], fin_plain hs hwf hkp (by simp [resVal, upd_app]) trivial⟩
    have d : ((y : Int) == (c : Int)) = false := ieq_f (by omega)
    refine s_run (by simp only [runL, List.drop_succ_cons, List.drop_zero, awant_some, Option.getD_some, List.getElem?_toArray, List.getElem?_cons_succ, List.getElem?_cons_zero, Option.bind_some, b_tt, b_tf, b_ft, b_ff, Bool.not_true, Bool.not_false, List.take_succ_cons, List.take_zero, awant_none, astep, evl, put, ap_none, ap_new, ap_wr, List.length_nil, List.length_cons, Nat.add_zero, Nat.zero_add, upd_app, stepBin, abin, stepUn, stepPick, stepExtract, stepCall, if_true, if_false, reduceCtorEq, ↓reduceIte, Nat.reduceEqDiff, Nat.reduceAdd, List.map_cons, List.map_nil, Option.map_some, Option.map_none, Bool.false_eq_true, Int.reduceLE, Int.reduceToNat, ne_eq, not_false_eq_true, and_self, and_true, true_and, decide_true, decide_false, Int.reduceEq, Int.reduceLT, Int.reduceBEq, Int.reduceBNe, not_true_eq_false, undef, t0, t1, t7, i1, i2, d] <;> rfl) ?_
    refine s_false (by simp [evl, upd_app]) (s_skip ?_)
    have hrd : rd g ⟨n, y, some 256⟩ = some ⟨false, 30, seenC (l.take k)⟩ := by simp [rd, hgn, seenC_len]
    have hix : stepIndex Try.prog 30 (.pointer (some ⟨n, 0, some 256⟩)) (.int .u8 (y : Int)) = some { v := .pointer (some ⟨n, y, some 256⟩) } := by
      simp [stepIndex, Try.underlying30, tsize4]; omega
    have hld : stepLoad Try.prog 4 (.pointer (some ⟨n, y, some 256⟩)) g = some { v := .bool (decide (y ∈ l.take k)), r := [n] } := by
      simp only [stepLoad, hrd, aggT4, seenC_at hyl]
    have hst : stepStore Try.prog 4 (.pointer (some ⟨n, y, some 256⟩)) (.bool true) g = some { v := undef, r := [n], w := [(n, ⟨false, 30, seenC (l.take (k + 1))⟩)] } := by
      simp only [stepStore, hrd, isTup, tsize4, Value.cells]
      rw [if_pos ⟨trivial, trivial, rfl, by show y + 1 ≤ _; rw [seenC_len]; omega⟩]
      simp only [putAll, seenC_set hyl, htk]
    have hP' := pos_step hP hc hyl e
    rw [← htk] at hP'
    refine w_gen (fun t => t 7 = .int .i64 k ∧ t 0 = v ∧ t 1 = .int .u8 c ∧ t 5 = .int .i64 q ∧ t 6 = .pointer (some ⟨n, 0, some 256⟩)) (by simp [upd_app, t7, t0, t1, t5, t6]) ?_
    clear t7 t0 t1 t5 t6
    rintro t ⟨t7, t0, t1, t5, t6⟩
    refine s_cut (fun t g' n'' => g' = g ∧ n'' = n' ∧ t 7 = .int .i64 k ∧ t 0 = v ∧ t 1 = .int .u8 c ∧ t 5 = .int .i64 ((if c < y ∧ y ∉ l.take k then q + 1 else q : Nat) : Int) ∧ t 6 = .pointer (some ⟨n, 0, some 256⟩)) ?_ ?_
    · by_cases c1 : c < y
      · have d1 : decide ((y : Int) > (c : Int)) = true := decide_eq_true (by omega)
        by_cases c2 : y ∈ l.take k
        · have d2 : decide (y ∈ l.take k) = true := decide_eq_true c2
          rw [d2] at hld
          refine s_run (by simp only [runL, List.drop_succ_cons, List.drop_zero, awant_some, Option.getD_some, List.getElem?_toArray, List.getElem?_cons_succ, List.getElem?_cons_zero, Option.bind_some, b_tt, b_tf, b_ft, b_ff, Bool.not_true, Bool.not_false, List.take_succ_cons, List.take_zero, awant_none, astep, evl, put, ap_none, ap_new, ap_wr, List.length_nil, List.length_cons, Nat.add_zero, Nat.zero_add, upd_app, stepBin, abin, stepUn, stepPick, stepExtract, stepCall, if_true, if_false, reduceCtorEq, ↓reduceIte, Nat.reduceEqDiff, Nat.reduceAdd, List.map_cons, List.map_nil, Option.map_some, Option.map_none, Bool.false_eq_true, Int.reduceLE, Int.reduceToNat, ne_eq, not_false_eq_true, and_self, and_true, true_and, decide_true, decide_false, Int.reduceEq, Int.reduceLT, Int.reduceBEq, Int.reduceBNe, not_true_eq_false, undef, t0, t1, t7, t6, i1, i2, d1, hix, hld] <;> rfl) ?_
          refine w_false (by simp [evl, upd_app]) (w_skip ?_)
          exact ⟨rfl, rfl, rfl, by simp [upd_app, t7], by simp [upd_app, t0], by simp [upd_app, t1], by rw [if_neg (fun h => h.2 c2)]; simp [upd_app, t5], by simp [upd_app, t6]⟩
        · have d2 : decide (y ∈ l.take k) = false := decide_eq_false c2
          have w1 : IntKind.i64.wrap ((q : Int) + 1) = ((q + 1 : Nat) : Int) := wrap_succ (by omega)
          rw [d2] at hld
          refine s_run (by simp only [runL, List.drop_succ_cons, List.drop_zero, awant_some, Option.getD_some, List.getElem?_toArray, List.getElem?_cons_succ, List.getElem?_cons_zero, Option.bind_some, b_tt, b_tf, b_ft, b_ff, Bool.not_true, Bool.not_false, List.take_succ_cons, List.take_zero, awant_none, astep, evl, put, ap_none, ap_new, ap_wr, List.length_nil, List.length_cons, Nat.add_zero, Nat.zero_add, upd_app, stepBin, abin, stepUn, stepPick, stepExtract, stepCall, if_true, if_false, reduceCtorEq, ↓reduceIte, Nat.reduceEqDiff, Nat.reduceAdd, List.map_cons, List.map_nil, Option.map_some, Option.map_none, Bool.false_eq_true, Int.reduceLE, Int.reduceToNat, ne_eq, not_false_eq_true, and_self, and_true, true_and, decide_true, decide_false, Int.reduceEq, Int.reduceLT, Int.reduceBEq, Int.reduceBNe, not_true_eq_false, undef, t0, t1, t7, t6, i1, i2, d1, hix, hld] <;> rfl) ?_
          refine w_true (by simp [evl, upd_app]) ?_
          refine region_run (id := 11) (by simp only [runL, List.drop_succ_cons, List.drop_zero, awant_some, Option.getD_some, List.getElem?_toArray, List.getElem?_cons_succ, List.getElem?_cons_zero, Option.bind_some, b_tt, b_tf, b_ft, b_ff, Bool.not_true, Bool.not_false, List.take_succ_cons, List.take_zero, awant_none, astep, evl, put, ap_none, ap_new, ap_wr, List.length_nil, List.length_cons, Nat.add_zero, Nat.zero_add, upd_app, stepBin, abin, stepUn, stepPick, stepExtract, stepCall, if_true, if_false, reduceCtorEq, ↓reduceIte, Nat.reduceEqDiff, Nat.reduceAdd, List.map_cons, List.map_nil, Option.map_some, Option.map_none, Bool.false_eq_true, Int.reduceLE, Int.reduceToNat, ne_eq, not_false_eq_true, and_self, and_true, true_and, decide_true, decide_false, Int.reduceEq, Int.reduceLT, Int.reduceBEq, Int.reduceBNe, not_true_eq_false, undef, t5, w1] <;> rfl) ?_
          exact ⟨rfl, rfl, rfl, by simp [upd_app, t7], by simp [upd_app, t0], by simp [upd_app, t1], by rw [if_pos ⟨c1, c2⟩]; simp [upd_app], by simp [upd_app, t6]⟩
      · have d1 : decide ((y : Int) > (c : Int)) = false := decide_eq_false (by omega)
        refine s_run (by simp only [runL, List.drop_succ_cons, List.drop_zero, awant_some, Option.getD_some, List.getElem?_toArray, List.getElem?_cons_succ, List.getElem?_cons_zero, Option.bind_some, b_tt, b_tf, b_ft, b_ff, Bool.not_true, Bool.not_false, List.take_succ_cons, List.take_zero, awant_none, astep, evl, put, ap_none, ap_new, ap_wr, List.length_nil, List.length_cons, Nat.add_zero, Nat.zero_add, upd_app, stepBin, abin, stepUn, stepPick, stepExtract, stepCall, if_true, if_false, reduceCtorEq, ↓reduceIte, Nat.reduceEqDiff, Nat.reduceAdd, List.map_cons, List.map_nil, Option.map_some, Option.map_none, Bool.false_eq_true, Int.reduceLE, Int.reduceToNat, ne_eq, not_false_eq_true, and_self, and_true, true_and, decide_true, decide_false, Int.reduceEq, Int.reduceLT, Int.reduceBEq, Int.reduceBNe, not_true_eq_false, undef, t0, t1, t7, i1, i2, d1] <;> rfl) ?_
        refine w_false (by simp [evl, upd_app]) (w_skip ?_)
        exact ⟨rfl, rfl, rfl, by simp [upd_app, t7], by simp [upd_app, t0], by simp [upd_app, t1], by rw [if_neg (fun h => c1 h.1)]; simp [upd_app, t5], by simp [upd_app, t6]⟩
    · clear t7 t0 t1 t5 t6
      rintro t g' n'' ⟨rfl, rfl, t7, t0, t1, t5, t6⟩
      refine region_run (id := 12) (by simp only [runL, List.drop_succ_cons, List.drop_zero, awant_some, Option.getD_some, List.getElem?_toArray, List.getElem?_cons_succ, List.getElem?_cons_zero, Option.bind_some, b_tt, b_tf, b_ft, b_ff, Bool.not_true, Bool.not_false, List.take_succ_cons, List.take_zero, awant_none, astep, evl, put, ap_none, ap_new, ap_wr, List.length_nil, List.length_cons, Nat.add_zero, Nat.zero_add, upd_app, stepBin, abin, stepUn, stepPick, stepExtract, stepCall, if_true, if_false, reduceCtorEq, ↓reduceIte, Nat.reduceEqDiff, Nat.reduceAdd, List.map_cons, List.map_nil, Option.map_some, Option.map_none, Bool.false_eq_true, Int.reduceLE, Int.reduceToNat, ne_eq, not_false_eq_true, and_self, and_true, true_and, decide_true, decide_false, Int.reduceEq, Int.reduceLT, Int.reduceBEq, Int.reduceBNe, not_true_eq_false, undef, t0, t7, t6, i1, i2, hix, hst] <;> rfl) ?_
      simp only [rangePost]
      refine ⟨by simp [upd_app, t7], fun _ _ _ => ⟨mv r (idx r y), _, by simp [upd_app, t0], by simp [upd_app, t1], by simp [upd_app, t5], by simp [upd_app, t6], by rw [htk, after_snoc, hr], hP', by split <;> omega, by simp [upd_app], kp_upd hkp (Nat.le_refl _), hnn⟩⟩
  · rintro t g n' ⟨r, q, t0, t1, t5, t6, hr, hP, hq, hgn, hkp, hnn⟩
    rw [List.take_length] at hr hP
    have kz : Kp n' g (upd g n' (some ⟨false, 5, []⟩)) := kp_upd (Kp.refl _ _) (Nat.le_refl _)
    have hz : OwnB 5 (upd g n' (some ⟨false, 5, []⟩)) (.slice (some ⟨n', 0, some 0⟩) 0 1) [] n' := ⟨rfl, by simp⟩
    obtain ⟨f, hf, hfa, hO, hk⟩ := hz.append (P := Try.prog) (T := 24) (j := n' + 1) (y := v) (news := bs l) (by simpa using kz.src (hkp.src hv2 hdom) (fun i hi => by have := hdom i hi; omega)) Try.underlying24 tinf5 (by simp; omega) (by omega)
    rw [List.nil_append] at hO
    obtain ⟨f2, hf2, hfa2, hO2, hk2⟩ := hO.push (P := Try.prog) (T := 24) (j := n' + 1) (c := .int .u8 (c : Nat)) (by omega) Try.underlying24 tinf5 (by simp; omega) (by omega)
    have hf2' : stepAppend Try.prog 24 24 f.v (.slice (some ⟨n' + 1 + f.a.length, 0, some 1⟩) 1 1) (upd (f.ap (upd g n' (some ⟨false, 5, []⟩))) (n' + 1 + f.a.length) (some ⟨false, 5, [.int .u8 (c : Int)]⟩)) (n' + 1 + f.a.length + 1) = some f2 := by simpa [hfa] using hf2
    refine s_take 6 (by simp only [runL, List.drop_succ_cons, List.drop_zero, awant_some, Option.getD_some, List.getElem?_toArray, List.getElem?_cons_succ, List.getElem?_cons_zero, Option.bind_some, b_tt, b_tf, b_ft, b_ff, Bool.not_true, Bool.not_false, List.take_succ_cons, List.take_zero, awant_none, astep, evl, put, ap_none, ap_new, ap_wr, List.length_nil, List.length_cons, Nat.add_zero, Nat.zero_add, upd_app, stepBin, abin, stepUn, stepPick, stepExtract, stepCall, if_true, if_false, reduceCtorEq, ↓reduceIte, Nat.reduceEqDiff, Nat.reduceAdd, List.map_cons, List.map_nil, Option.map_some, Option.map_none, Bool.false_eq_true, Int.reduceLE, Int.reduceToNat, ne_eq, not_false_eq_true, and_self, and_true, true_and, decide_true, decide_false, Int.reduceEq, Int.reduceLT, Int.reduceBEq, Int.reduceBNe, not_true_eq_false, undef, t0, t1, lit24_0, hf, lit24_1, hf2'] <;> rfl) (ops_heap fun G2 hG2 => ops_num fun N hN => ?_)
    simp only [hfa, hfa2, List.length_nil, Nat.add_zero] at hG2 hN
    rw [← hG2] at hO2 hk2
    have hcell : bs l ++ [Value.int .u8 (c : Int)] = bs (l ++ [c]) := by simp
    rw [hcell] at hO2
    obtain ⟨hfv, b2⟩ := hO2
    have hll : (bs (l ++ [c])).length = l.length + 1 := by simp
    rw [hll] at hfv
    have kg : Kp n g2 G2 := fun i hi => by rw [hk2 i (by omega) (by omega), hk i (by omega), upd_ne _ _ (by omega), hkp i hi]
    rw [hfv]
    have hbc : ∀ x ∈ l ++ [c], x < 256 := fun x hx => by
      simp at hx
      rcases hx with hx | rfl
      · exact hb x hx
      · exact hc
    have hms := move_spec (.slice (some ⟨n', 0, some (l.length + 1)⟩) (l.length + 1) 1) (l ++ [c]) G2 N (by simp; omega) hbc (src_bs b2 (by simp))
    have hlc : (l ++ [c]).length = l.length + 1 := by simp
    rw [hlc] at hms
    refine ops_call 26 _ rfl hms (by intro _; rfl) (ops_heap fun G3 hG3 => ?_)
    have k3 : Kp N G2 G3 := by rw [hG3]; exact kp_ap (Kp.refl _ _) rfl (fun _ => Nat.le_refl _)
    have b3 : G3 N = some ⟨false, 5, bs (move (l ++ [c]) row0)⟩ := by rw [hG3]; simp [ap_new, upd_app]
    refine ops_run (by simp only [runL, List.drop_succ_cons, List.drop_zero, awant_some, Option.getD_some, List.getElem?_toArray, List.getElem?_cons_succ, List.getElem?_cons_zero, Option.bind_some, b_tt, b_tf, b_ft, b_ff, Bool.not_true, Bool.not_false, List.take_succ_cons, List.take_zero, awant_none, astep, evl, put, ap_none, ap_new, ap_wr, List.length_nil, List.length_cons, Nat.add_zero, Nat.zero_add, upd_app, stepBin, abin, stepUn, stepPick, stepExtract, stepCall, if_true, if_false, reduceCtorEq, ↓reduceIte, Nat.reduceEqDiff, Nat.reduceAdd, List.map_cons, List.map_nil, Option.map_some, Option.map_none, Bool.false_eq_true, Int.reduceLE, Int.reduceToNat, ne_eq, not_false_eq_true, and_self, and_true, true_and, decide_true, decide_false, Int.reduceEq, Int.reduceLT, Int.reduceBEq, Int.reduceBNe, not_true_eq_false, undef] <;> rfl) ?_
    refine w_gen (fun t => t 0 = v ∧ t 1 = .int .u8 c ∧ t 5 = .int .i64 q ∧ t 8 = .slice (some ⟨N, 0, some (l.length + 1)⟩) (l.length + 1) 1) (by simp [upd_app, put, t0, t1, t5]) ?_
    clear t0 t1 t5 t6
    rintro t ⟨t0, t1, t5, t8⟩
    have hml : (move (l ++ [c]) row0).length = l.length + 1 := by rw [move_len, hlc]
    have hms3 := src_bs (m := l.length + 1) b3 hml.symm
    have hlm : stepLen Try.prog 24 (.slice (some ⟨N, 0, some (l.length + 1)⟩) (l.length + 1) 1) = some { v := .int .i64 ((l.length + 1 : Nat) : Int) } := by simp [stepLen, Try.underlying24]
    have hbl : byt (move (l ++ [c]) row0) l.length = c + q := by
      rw [move_snoc, ← hr]
      unfold byt
      rw [List.getElem?_append_right (by rw [move_len]; exact Nat.le_refl _), move_len, Nat.sub_self]
      simp [hP.at_]
    have hcq : c + q < 256 := by
      have := hP.full.idx hc
      rw [hP.at_] at this
      exact this
    obtain ⟨p1, a1, a2, _⟩ := hms3.at1 (P := Try.prog) (i := l.length) (c := .int .u8 ((c + q : Nat) : Int)) (by rw [← hbl]; exact bs_at (by omega)) Try.underlying24 tsize5 aggT5
    have w1 : IntKind.i64.wrap ((l.length : Int) + 1) = ((l.length + 1 : Nat) : Int) := wrap_succ (by omega)
    have w2 : IntKind.i64.wrap ((c + q : Nat) : Int) = ((c + q : Nat) : Int) := wrap_nat (by omega)
    have w3 : IntKind.i64.wrap (c : Int) = (c : Int) := wrap_nat (by omega)
    have w4 : IntKind.i64.wrap ((c : Int) + (q : Int)) = ((c + q : Nat) : Int) := wrap_add (by omega)
    refine s_take 20 (by simp only [runL, List.drop_succ_cons, List.drop_zero, awant_some, Option.getD_some, List.getElem?_toArray, List.getElem?_cons_succ, List.getElem?_cons_zero, Option.bind_some, b_tt, b_tf, b_ft, b_ff, Bool.not_true, Bool.not_false, List.take_succ_cons, List.take_zero, awant_none, astep, evl, put, ap_none, ap_new, ap_wr, List.length_nil, List.length_cons, Nat.add_zero, Nat.zero_add, upd_app, stepBin, abin, stepUn, stepPick, stepExtract, stepCall, if_true, if_false, reduceCtorEq, ↓reduceIte, Nat.reduceEqDiff, Nat.reduceAdd, List.map_cons, List.map_nil, Option.map_some, Option.map_none, Bool.false_eq_true, Int.reduceLE, Int.reduceToNat, ne_eq, not_false_eq_true, and_self, and_true, true_and, decide_true, decide_false, Int.reduceEq, Int.reduceLT, Int.reduceBEq, Int.reduceBNe, not_true_eq_false, undef, t0, t1, t5, t8, hlen, hlm, w1, a1, a2, conv5_3, w2, w3, w4, beq_self_eq_true] <;> rfl) ?_
    refine g_call 30 _ (by simp only [runL, List.drop_succ_cons, List.drop_zero, awant_some, Option.getD_some, List.getElem?_toArray, List.getElem?_cons_succ, List.getElem?_cons_zero, Option.bind_some, b_tt, b_tf, b_ft, b_ff, Bool.not_true, Bool.not_false, List.take_succ_cons, List.take_zero, awant_none, astep, evl, put, ap_none, ap_new, ap_wr, List.length_nil, List.length_cons, Nat.add_zero, Nat.zero_add, upd_app, stepBin, abin, stepUn, stepPick, stepExtract, stepCall, if_true, if_false, reduceCtorEq, ↓reduceIte, Nat.reduceEqDiff, Nat.reduceAdd, List.map_cons, List.map_nil, Option.map_some, Option.map_none, Bool.false_eq_true, Int.reduceLE, Int.reduceToNat, ne_eq, not_false_eq_true, and_self, and_true, true_and, decide_true, decide_false, Int.reduceEq, Int.reduceLT, Int.reduceBEq, Int.reduceBNe, not_true_eq_false, undef] <;> rfl) rfl (fknown_spec _) (by simp) ?_
    refine ops_run (by simp only [runL, List.drop_succ_cons, List.drop_zero, awant_some, Option.getD_some, List.getElem?_toArray, List.getElem?_cons_succ, List.getElem?_cons_zero, Option.bind_some, b_tt, b_tf, b_ft, b_ff, Bool.not_true, Bool.not_false, List.take_succ_cons, List.take_zero, awant_none, astep, evl, put, ap_none, ap_new, ap_wr, List.length_nil, List.length_cons, Nat.add_zero, Nat.zero_add, upd_app, stepBin, abin, stepUn, stepPick, stepExtract, stepCall, if_true, if_false, reduceCtorEq, ↓reduceIte, Nat.reduceEqDiff, Nat.reduceAdd, List.map_cons, List.map_nil, Option.map_some, Option.map_none, Bool.false_eq_true, Int.reduceLE, Int.reduceToNat, ne_eq, not_false_eq_true, and_self, and_true, true_and, decide_true, decide_false, Int.reduceEq, Int.reduceLT, Int.reduceBEq, Int.reduceBNe, not_true_eq_false, undef] <;> rfl) ?_
    exact w_ret ⟨.inr rfl, by simp, [], fin_plain hs hwf (kg.trans k3 (by omega)) (by simp [resVal, upd_app]) trivial⟩
end Go.Proofs.Ytahinegnblankaa
