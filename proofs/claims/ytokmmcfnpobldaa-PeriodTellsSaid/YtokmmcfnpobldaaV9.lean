import Derived.Test.YtokmmcfnpobldaaV8
namespace Go.Proofs.Ytokmmcfnpobldaa
open Go Abs
set_option linter.unusedSimpArgs false
set_option linter.unusedVariables false

theorem conv3_31 (x : Int) (g : Heap) : stepConv Try.prog 3 31 (.int .i64 x) g = some { v := .int .u64 (IntKind.u64.wrap x) } := by simp [stepConv, Try.underlying3, Try.underlying31]

/-- One byte more, the number kept within 64 digits. -/
theorem vval_step' (l : List Nat) (k : Nat) (hk : k < l.length) (hc : l[k]?.getD 0 < 256) (hk9 : k ≤ 9) :
    bits .or .u64 ((vval (l.take k) : Nat) : Int) (IntKind.u64.wrap (IntKind.u64.wrap (bits .and .u8 ((l[k]?.getD 0 : Nat) : Int) 127) * 2 ^ (min ((7 * k : Nat) : Int).toNat IntKind.u64.bits))) = ((vval (l.take (k + 1)) % 2 ^ 64 : Nat) : Int) := by
  have h1 := vval_take l k hk
  have h2 : vval (l.take k) < 128 ^ k := by
    have := vval_lt (l.take k)
    rwa [List.length_take, Nat.min_eq_left (by omega)] at this
  have h3 : bits .and .u8 ((l[k]?.getD 0 : Nat) : Int) 127 = ((l[k]?.getD 0 % 128 : Nat) : Int) := by
    have := u8_and_nat (l[k]?.getD 0) 127 hc (by omega)
    rw [nat_mask7] at this
    exact this
  have h4 : ((l[k]?.getD 0 % 128 : Nat) : Int) * 2 ^ (min ((7 * k : Nat) : Int).toNat IntKind.u64.bits) = ((l[k]?.getD 0 % 128 * 128 ^ k : Nat) : Int) := by
    have : min ((7 * k : Nat) : Int).toNat IntKind.u64.bits = 7 * k := by rw [Int.toNat_natCast]; exact Nat.min_eq_left (by show 7 * k ≤ 64; omega)
    rw [this, show (128 : Nat) = 2 ^ 7 from rfl, ← Nat.pow_mul]
    simp
  have hp : 128 ^ k ≤ 2 ^ 63 := by
    rw [show (128 : Nat) = 2 ^ 7 from rfl, ← Nat.pow_mul]
    exact Nat.pow_le_pow_right (by omega) (by omega)
  have h5 : IntKind.u64.wrap ((l[k]?.getD 0 % 128 * 128 ^ k : Nat) : Int) = ((l[k]?.getD 0 % 128 * 128 ^ k % 2 ^ 64 : Nat) : Int) := by rw [IntKind.wrap_u64]; simp
  have hmod : l[k]?.getD 0 % 128 * 128 ^ k % 2 ^ 64 % 2 ^ (7 * k) = 0 := by
    rw [Nat.mod_mod_of_dvd _ (Nat.pow_dvd_pow 2 (show 7 * k ≤ 64 by omega)), Nat.pow_mul]
    exact Nat.mul_mod_left _ _
  rw [h3, wrapU64_of (x := ((l[k]?.getD 0 % 128 : Nat) : Int)) (by omega) (by have := Nat.mod_lt (l[k]?.getD 0) (show 128 > 0 by omega); omega), h4, h5, u64_or_nat _ _ (by omega) (Nat.mod_lt _ (by omega)), Nat.or_comm, nat_join (7 * k) _ _ hmod (by rw [Nat.pow_mul]; exact h2), h1]
  congr 1
  have h6 : l[k]?.getD 0 % 128 * 128 ^ k % 2 ^ 64 + vval (l.take k) < 2 ^ 64 := by
    have hd : 2 ^ (7 * k) ∣ 2 ^ 64 := Nat.pow_dvd_pow 2 (by omega)
    obtain ⟨q, hq⟩ := hd
    obtain ⟨r, hr⟩ := Nat.dvd_of_mod_eq_zero hmod
    have h7 : l[k]?.getD 0 % 128 * 128 ^ k % 2 ^ 64 < 2 ^ 64 := Nat.mod_lt _ (by omega)
    have h8 : vval (l.take k) < 2 ^ (7 * k) := by rw [Nat.pow_mul]; exact h2
    rw [hr, hq] at h7
    have h9 : r < q := Nat.lt_of_mul_lt_mul_left h7
    rw [hr, hq]
    have h10 : 2 ^ (7 * k) * (r + 1) ≤ 2 ^ (7 * k) * q := Nat.mul_le_mul_left _ h9
    rw [Nat.mul_add, Nat.mul_one] at h10
    omega
  omega

set_option maxRecDepth 10000 in
theorem rget_spec (v : Value) (l : List Nat) (g : Heap) (hl : l.length ≤ 2 ^ 40) (hb : ∀ i : Nat, l[i]?.getD 0 < 256) (hv : Src g v 1 l.length (bs l)) : FnSpec Try.prog 20 [v] g { v := gres (vget l), r := srcBlk v } := by
  refine spec_of_body [2, 3, 4] follows Try.func20 rfl (by kernel_rfl) (by simp [Try.f20]) (by kernel_rfl) rfl ?_
  intro g2 s2 n hg hfr hs hn hwf hsv
  have hv2 : Src g2 v 1 l.length (bs l) := hv.congr fun i hi => hg i (by simp [Eff.fp, hi])
  have hlen := hv2.len Try.underlying23
  have hdom : ∀ i ∈ srcBlk v, i < n := fun i hi => by
    obtain ⟨b, hb⟩ := Option.isSome_iff_exists.1 (hv2.dom i hi)
    exact hs i (hwf i b hb).1
  have tupRes : ∀ {t : Nat → Value}, (∃ x, t 2 = .int .u64 x) → (∃ x, t 3 = .int .i64 x) → (∃ x, t 4 = .bool x) → ([2, 3, 4].length ≠ 1 → ∀ r ∈ [2, 3, 4], isTup (t r) = false) := by
    rintro t ⟨x, hx⟩ ⟨y, hy⟩ ⟨z, hz⟩ _ r hr
    simp only [List.mem_cons, List.not_mem_nil, or_false] at hr
    rcases hr with rfl | rfl | rfl <;> simp [hx, hy, hz, isTup]
  have svg : ∀ r, SVT s2 (gres r) := by
    rintro (_ | ⟨x, y⟩) c hc <;> simp [gres] at hc <;> rcases hc with rfl | rfl | rfl <;> trivial
  refine s_run (by simp only [runL, List.drop_succ_cons, List.drop_zero, awant_some, Option.getD_some, List.getElem?_toArray, List.getElem?_cons_succ, List.getElem?_cons_zero, Option.bind_some, b_tt, b_tf, b_ft, b_ff, Bool.not_true, Bool.not_false, List.take_succ_cons, List.take_zero, awant_none, astep, evl, put, ap_none, ap_new, ap_wr, List.length_nil, List.length_cons, Nat.add_zero, Nat.zero_add, upd_app, stepBin, abin, stepUn, stepPick, stepExtract, stepCall, if_true, if_false, reduceCtorEq, ↓reduceIte, Nat.reduceEqDiff, Nat.reduceAdd, List.map_cons, List.map_nil, Option.map_some, Option.map_none, Bool.false_eq_true, Int.reduceLE, Int.reduceToNat, ne_eq, not_false_eq_true, and_self, and_true, true_and, decide_true, decide_false] <;> rfl) ?_
  refine s_run (by simp only [runL, List.drop_succ_cons, List.drop_zero, awant_some, Option.getD_some, List.getElem?_toArray, List.getElem?_cons_succ, List.getElem?_cons_zero, Option.bind_some, b_tt, b_tf, b_ft, b_ff, Bool.not_true, Bool.not_false, List.take_succ_cons, List.take_zero, awant_none, astep, evl, put, ap_none, ap_new, ap_wr, List.length_nil, List.length_cons, Nat.add_zero, Nat.zero_add, upd_app, stepBin, abin, stepUn, stepPick, stepExtract, stepCall, if_true, if_false, reduceCtorEq, ↓reduceIte, Nat.reduceEqDiff, Nat.reduceAdd, List.map_cons, List.map_nil, Option.map_some, Option.map_none, Bool.false_eq_true, Int.reduceLE, Int.reduceToNat, ne_eq, not_false_eq_true, and_self, and_true, true_and, decide_true, decide_false] <;> rfl) ?_
  refine w_assoc (s_run (by simp only [runL, List.drop_succ_cons, List.drop_zero, awant_some, Option.getD_some, List.getElem?_toArray, List.getElem?_cons_succ, List.getElem?_cons_zero, Option.bind_some, b_tt, b_tf, b_ft, b_ff, Bool.not_true, Bool.not_false, List.take_succ_cons, List.take_zero, awant_none, astep, evl, put, ap_none, ap_new, ap_wr, List.length_nil, List.length_cons, Nat.add_zero, Nat.zero_add, upd_app, stepBin, abin, stepUn, stepPick, stepExtract, stepCall, if_true, if_false, reduceCtorEq, ↓reduceIte, Nat.reduceEqDiff, Nat.reduceAdd, List.map_cons, List.map_nil, Option.map_some, Option.map_none, Bool.false_eq_true, Int.reduceLE, Int.reduceToNat, ne_eq, not_false_eq_true, and_self, and_true, true_and, decide_true, decide_false] <;> rfl) ?_)
  refine s_block (fun t g n' => vget l = none ∧ g2 = g) ?_ ?_
  · refine w_loop (fun t g n' => ∃ i : Nat, i ≤ l.length ∧ i ≤ 10 ∧ t 0 = v ∧ t 5 = .int .u64 ((vval (l.take i) % 2 ^ 64 : Nat) : Int) ∧ t 6 = .int .i64 i ∧ (∀ j : Nat, j < i → ¬ l[j]?.getD 0 < 128) ∧ g2 = g ∧ n = n')
      (fun t _ _ => match t 6 with | .int _ i => 10 - i.toNat | _ => 0) ⟨0, by omega, by omega, by simp [upd_app], by simp [upd_app, vval], by simp [upd_app], by omega, rfl, rfl⟩ ?_
    rintro t g n' ⟨i, hi, hi10, t0, t5, t6, hhigh, rfl, rfl⟩
    have hnf : ¬ (i < l.length ∧ i < 10) → vget l = none := fun h => by
      apply vget_none
      rcases findLow_lt l 0 with hf | ⟨e, he, hf, hlow, hh⟩
      · exact .inl hf
      · right
        rw [hf]
        have : ¬ e < i := fun h' => hhigh e h' hlow
        omega
    by_cases c1 : i < l.length
    · have d1 : decide ((i : Int) < (l.length : Int)) = true := by simp; exact c1
      by_cases c2 : i < 10
      · have d2 : decide ((i : Int) < 10) = true := by simp; omega
        refine w_assoc (s_run (by simp only [runL, List.drop_succ_cons, List.drop_zero, awant_some, Option.getD_some, List.getElem?_toArray, List.getElem?_cons_succ, List.getElem?_cons_zero, Option.bind_some, b_tt, b_tf, b_ft, b_ff, Bool.not_true, Bool.not_false, List.take_succ_cons, List.take_zero, awant_none, astep, evl, put, ap_none, ap_new, ap_wr, List.length_nil, List.length_cons, Nat.add_zero, Nat.zero_add, upd_app, stepBin, abin, stepUn, stepPick, stepExtract, stepCall, if_true, if_false, reduceCtorEq, ↓reduceIte, Nat.reduceEqDiff, Nat.reduceAdd, List.map_cons, List.map_nil, Option.map_some, Option.map_none, Bool.false_eq_true, Int.reduceLE, Int.reduceToNat, ne_eq, not_false_eq_true, and_self, and_true, true_and, decide_true, decide_false, t0, t6, hlen, d1, d2] <;> rfl) ?_)
        refine s_true (by simp [evl, upd_app]) (s_skip ?_)
        obtain ⟨p, hp1, hp2, _⟩ := hv2.at1 (P := Try.prog) (bs_at c1) Try.underlying23 tsize5 aggT5
        have hsmall : vval (l.take i) < 2 ^ 64 := by
          have h1 := vval_lt (l.take i)
          have h2 : 128 ^ (l.take i).length ≤ 2 ^ 63 := by
            rw [show (128 : Nat) = 2 ^ 7 from rfl, ← Nat.pow_mul]
            exact Nat.pow_le_pow_right (by omega) (by rw [List.length_take]; omega)
          omega
        rw [Nat.mod_eq_of_lt hsmall] at t5
        have w4 : IntKind.i64.wrap (7 * (i : Int)) = ((7 * i : Nat) : Int) := by rw [wrap64_of (by omega) (by omega)]; simp
        have w5 : IntKind.u64.wrap ((7 * i : Nat) : Int) = ((7 * i : Nat) : Int) := wrapU64_of (by omega) (by omega)
        have w6 : IntKind.i64.wrap ((i : Int) + 1) = ((i + 1 : Nat) : Int) := by rw [wrap64_of (by omega) (by omega)]; simp
        have hst := vval_step' l i c1 (hb i) (by omega)
        refine w_seq (w_block ?_)
        refine s_run (by simp only [runL, List.drop_succ_cons, List.drop_zero, awant_some, Option.getD_some, List.getElem?_toArray, List.getElem?_cons_succ, List.getElem?_cons_zero, Option.bind_some, b_tt, b_tf, b_ft, b_ff, Bool.not_true, Bool.not_false, List.take_succ_cons, List.take_zero, awant_none, astep, evl, put, ap_none, ap_new, ap_wr, List.length_nil, List.length_cons, Nat.add_zero, Nat.zero_add, upd_app, stepBin, abin, stepUn, stepPick, stepExtract, stepCall, if_true, if_false, reduceCtorEq, ↓reduceIte, Nat.reduceEqDiff, Nat.reduceAdd, List.map_cons, List.map_nil, Option.map_some, Option.map_none, Bool.false_eq_true, Int.reduceLE, Int.reduceToNat, ne_eq, not_false_eq_true, and_self, and_true, true_and, decide_true, decide_false, t0, t5, t6, hp1, hp2, conv5_22, conv3_31, w4, w5, hst, show (0 : Int) ≤ ((7 * i : Nat) : Int) from Int.natCast_nonneg _] <;> rfl) ?_
        refine s_run (by simp only [runL, List.drop_succ_cons, List.drop_zero, awant_some, Option.getD_some, List.getElem?_toArray, List.getElem?_cons_succ, List.getElem?_cons_zero, Option.bind_some, b_tt, b_tf, b_ft, b_ff, Bool.not_true, Bool.not_false, List.take_succ_cons, List.take_zero, awant_none, astep, evl, put, ap_none, ap_new, ap_wr, List.length_nil, List.length_cons, Nat.add_zero, Nat.zero_add, upd_app, stepBin, abin, stepUn, stepPick, stepExtract, stepCall, if_true, if_false, reduceCtorEq, ↓reduceIte, Nat.reduceEqDiff, Nat.reduceAdd, List.map_cons, List.map_nil, Option.map_some, Option.map_none, Bool.false_eq_true, Int.reduceLE, Int.reduceToNat, ne_eq, not_false_eq_true, and_self, and_true, true_and, decide_true, decide_false, t0, t5, t6, hp1, hp2] <;> rfl) ?_
        by_cases hlow : l[i]?.getD 0 < 128
        · refine w_true (by simp [evl, upd_app]; omega) ?_
          have hfi : findLow l 0 = (i : Int) := by
            rcases findLow_lt l 0 with hf | ⟨e, he, hf, hlow', hh⟩
            · exfalso
              have key : ∀ (l : List Nat) (k i : Nat), i < l.length → l[i]?.getD 0 < 128 → findLow l k ≠ -1 := by
                intro l
                induction l with
                | nil => intro k i hi; simp at hi
                | cons c l ih =>
                  intro k i hi hl
                  rw [findLow]
                  split
                  · omega
                  · cases i with
                    | zero => simp at hl; omega
                    | succ i => exact ih (k + 1) i (by simpa using hi) (by simpa using hl)
              exact key l 0 i c1 hlow hf
            · rw [hf, Nat.zero_add]
              have h1 : ¬ i < e := fun h => hh i h hlow
              have h2 : ¬ e < i := fun h => hhigh e h hlow'
              congr 1; omega
          have hve := vget_eq l i c1 hfi (by omega) hlow hhigh hb
          have hx : vval (l.take (i + 1)) % 2 ^ 64 < 2 ^ 64 := Nat.mod_lt _ (by omega)
          obtain ⟨v', hs1, hs2, hs3, hs4⟩ := hv2.slice Try.underlying23 tsize5 none (some (.int .i64 ((i + 1 : Nat) : Int))) 0 (i + 1) rfl rfl (by omega) (by omega)
          have hs5 : Src g2 v' 1 (l.take (i + 1)).length (bs (l.take (i + 1))) := by
            have h1 : (l.take (i + 1)).length = i + 1 := by simp; omega
            rw [h1]; simpa using hs2
          have hgrp := take_grp l i c1 hlow hhigh hb
          have hb' : ∀ x ∈ l.take (i + 1), x < 256 := fun x hx => by
            obtain ⟨j, hj, e⟩ := List.mem_iff_getElem.1 (List.mem_of_mem_take hx)
            have := hb j
            rw [List.getElem?_eq_getElem hj, e] at this
            exact this
          refine w_gen (fun t => t 0 = v ∧ t 5 = .int .u64 ((vval (l.take (i + 1)) % 2 ^ 64 : Nat) : Int) ∧ t 6 = .int .i64 i) (by simp [upd_app, t0, t6]) ?_
          clear t0 t5 t6 hst
          generalize vval (l.take (i + 1)) % 2 ^ 64 = x at hve hx
          rintro t ⟨t0, t5, t6⟩
          refine w_assoc (s_drawn #[0, 1, 3, 0, 0, 16, 56, 120, 255] (by decide +kernel) ?_)
          refine d_pure 1 (by simp only [runP, List.drop_succ_cons, List.drop_zero, awant_some, Option.getD_some, List.getElem?_toArray, List.getElem?_cons_succ, List.getElem?_cons_zero, Option.bind_some, b_tt, b_tf, b_ft, b_ff, Bool.not_true, Bool.not_false, List.take_succ_cons, List.take_zero, awant_none, astep, evl, put, ap_none, ap_new, ap_wr, List.length_nil, List.length_cons, Nat.add_zero, Nat.zero_add, upd_app, stepBin, abin, stepUn, stepPick, stepExtract, stepCall, if_true, if_false, reduceCtorEq, ↓reduceIte, Nat.reduceEqDiff, Nat.reduceAdd, List.map_cons, List.map_nil, Option.map_some, Option.map_none, Bool.false_eq_true, Int.reduceLE, Int.reduceToNat, ne_eq, not_false_eq_true, and_self, and_true, true_and, decide_true, decide_false, List.isEmpty_nil, Bool.and_self, Bool.and_true, t5] <;> rfl) ?_
          refine d_call 18 _ rfl rfl rfl rfl (rput_spec x hx _ _) (by intro _; rfl) (by simp) (d_heap fun G hG => ?_)
          obtain ⟨r, hr, hr2⟩ := src_str (g := G) (src_own (k := n) (e := 5) (l := vput x) (by simp [hG, ap_new, upd_app]))
          refine d_step { v := .string (nstr (vput x)), r := r } (by simp only [runL, List.drop_succ_cons, List.drop_zero, awant_some, Option.getD_some, List.getElem?_toArray, List.getElem?_cons_succ, List.getElem?_cons_zero, Option.bind_some, b_tt, b_tf, b_ft, b_ff, Bool.not_true, Bool.not_false, List.take_succ_cons, List.take_zero, awant_none, astep, evl, put, ap_none, ap_new, ap_wr, List.length_nil, List.length_cons, Nat.add_zero, Nat.zero_add, upd_app, stepBin, abin, stepUn, stepPick, stepExtract, stepCall, if_true, if_false, reduceCtorEq, ↓reduceIte, Nat.reduceEqDiff, Nat.reduceAdd, List.map_cons, List.map_nil, Option.map_some, Option.map_none, Bool.false_eq_true, Int.reduceLE, Int.reduceToNat, ne_eq, not_false_eq_true, and_self, and_true, true_and, decide_true, decide_false, hr]) rfl (by intro p hp; simp only [List.mem_singleton] at hp; subst hp; exact .inl (bit_of 2 1 rfl rfl (by decide +kernel))) ?_
          refine d_pure 4 (by simp only [runP, List.drop_succ_cons, List.drop_zero, awant_some, Option.getD_some, List.getElem?_toArray, List.getElem?_cons_succ, List.getElem?_cons_zero, Option.bind_some, b_tt, b_tf, b_ft, b_ff, Bool.not_true, Bool.not_false, List.take_succ_cons, List.take_zero, awant_none, astep, evl, put, ap_none, ap_new, ap_wr, List.length_nil, List.length_cons, Nat.add_zero, Nat.zero_add, upd_app, stepBin, abin, stepUn, stepPick, stepExtract, stepCall, if_true, if_false, reduceCtorEq, ↓reduceIte, Nat.reduceEqDiff, Nat.reduceAdd, List.map_cons, List.map_nil, Option.map_some, Option.map_none, Bool.false_eq_true, Int.reduceLE, Int.reduceToNat, ne_eq, not_false_eq_true, and_self, and_true, true_and, decide_true, decide_false, List.isEmpty_nil, Bool.and_self, Bool.and_true, t0, t6, w6, hs1] <;> rfl) ?_
          have hs6 : Src G v' 1 (l.take (i + 1)).length (bs (l.take (i + 1))) := hs5.congr fun k hk => by
            have := hdom k (hs3 k hk)
            rw [hG]
            simp [ap_new, upd_app]
            omega
          obtain ⟨r', hr', hr2'⟩ := src_str hs6
          refine d_step { v := .string (nstr (l.take (i + 1))), r := r' } (by simp only [runL, List.drop_succ_cons, List.drop_zero, awant_some, Option.getD_some, List.getElem?_toArray, List.getElem?_cons_succ, List.getElem?_cons_zero, Option.bind_some, b_tt, b_tf, b_ft, b_ff, Bool.not_true, Bool.not_false, List.take_succ_cons, List.take_zero, awant_none, astep, evl, put, ap_none, ap_new, ap_wr, List.length_nil, List.length_cons, Nat.add_zero, Nat.zero_add, upd_app, stepBin, abin, stepUn, stepPick, stepExtract, stepCall, if_true, if_false, reduceCtorEq, ↓reduceIte, Nat.reduceEqDiff, Nat.reduceAdd, List.map_cons, List.map_nil, Option.map_some, Option.map_none, Bool.false_eq_true, Int.reduceLE, Int.reduceToNat, ne_eq, not_false_eq_true, and_self, and_true, true_and, decide_true, decide_false, hr']) rfl ?_ ?_
          · intro p hp
            simp only [List.mem_cons, List.not_mem_nil, or_false] at hp
            rcases hp with rfl | rfl
            · right; simp [Eff.wr]
            · right
              simp only [Eff.wr, List.map_nil, List.length_nil, List.range'_zero, List.append_nil, List.not_mem_nil, not_false_eq_true, and_true, implies_true]
              intro k hk hk'
              simp at hk
              have := hdom k (hs3 k (hr2' k hk'))
              omega
          refine d_pure 1 (by simp only [runP, List.drop_succ_cons, List.drop_zero, awant_some, Option.getD_some, List.getElem?_toArray, List.getElem?_cons_succ, List.getElem?_cons_zero, Option.bind_some, b_tt, b_tf, b_ft, b_ff, Bool.not_true, Bool.not_false, List.take_succ_cons, List.take_zero, awant_none, astep, evl, put, ap_none, ap_new, ap_wr, List.length_nil, List.length_cons, Nat.add_zero, Nat.zero_add, upd_app, stepBin, abin, stepUn, stepPick, stepExtract, stepCall, if_true, if_false, reduceCtorEq, ↓reduceIte, Nat.reduceEqDiff, Nat.reduceAdd, List.map_cons, List.map_nil, Option.map_some, Option.map_none, Bool.false_eq_true, Int.reduceLE, Int.reduceToNat, ne_eq, not_false_eq_true, and_self, and_true, true_and, decide_true, decide_false, List.isEmpty_nil, Bool.and_self, Bool.and_true, nstr_beq (vput_256 x) hb'] <;> rfl) ?_
          have hold : ∀ i b, g2 i = some b → G i = some b := fun k b hk => by
            have := hs k (hwf k b hk).1
            rw [hG]
            simp [ap_new, upd_app, show k ≠ n by omega, hk]
          by_cases heq : vput x = l.take (i + 1)
          · rw [if_pos heq] at hve
            refine s_false (by simp [evl, put, upd_app, heq]) (s_skip ?_)
            refine s_run (by simp only [runL, List.drop_succ_cons, List.drop_zero, awant_some, Option.getD_some, List.getElem?_toArray, List.getElem?_cons_succ, List.getElem?_cons_zero, Option.bind_some, b_tt, b_tf, b_ft, b_ff, Bool.not_true, Bool.not_false, List.take_succ_cons, List.take_zero, awant_none, astep, evl, put, ap_none, ap_new, ap_wr, List.length_nil, List.length_cons, Nat.add_zero, Nat.zero_add, upd_app, stepBin, abin, stepUn, stepPick, stepExtract, stepCall, if_true, if_false, reduceCtorEq, ↓reduceIte, Nat.reduceEqDiff, Nat.reduceAdd, List.map_cons, List.map_nil, Option.map_some, Option.map_none, Bool.false_eq_true, Int.reduceLE, Int.reduceToNat, ne_eq, not_false_eq_true, and_self, and_true, true_and, decide_true, decide_false, t5, t6, w6] <;> rfl) ?_
            refine w_ret ⟨.inr rfl, tupRes ⟨_, rfl⟩ ⟨_, rfl⟩ ⟨_, rfl⟩, [], fin_none ?_ (svg _) hold⟩
            simp [resVal, upd_app, hve, gres]
          · rw [if_neg heq] at hve
            refine s_true (by simp [evl, put, upd_app, heq]) ?_
            refine w_assoc (s_run (by simp only [runL, List.drop_succ_cons, List.drop_zero, awant_some, Option.getD_some, List.getElem?_toArray, List.getElem?_cons_succ, List.getElem?_cons_zero, Option.bind_some, b_tt, b_tf, b_ft, b_ff, Bool.not_true, Bool.not_false, List.take_succ_cons, List.take_zero, awant_none, astep, evl, put, ap_none, ap_new, ap_wr, List.length_nil, List.length_cons, Nat.add_zero, Nat.zero_add, upd_app, stepBin, abin, stepUn, stepPick, stepExtract, stepCall, if_true, if_false, reduceCtorEq, ↓reduceIte, Nat.reduceEqDiff, Nat.reduceAdd, List.map_cons, List.map_nil, Option.map_some, Option.map_none, Bool.false_eq_true, Int.reduceLE, Int.reduceToNat, ne_eq, not_false_eq_true, and_self, and_true, true_and, decide_true, decide_false, t5, t6, w6] <;> rfl) ?_)
            refine s_ret ⟨.inr rfl, tupRes ⟨_, rfl⟩ ⟨_, rfl⟩ ⟨_, rfl⟩, [], fin_none ?_ (svg _) hold⟩
            simp [resVal, upd_app, hve, gres]
        · refine w_false (by simp [evl, upd_app]; omega) (w_skip ?_)
          refine region_run (id := 4) (by simp only [runL, List.drop_succ_cons, List.drop_zero, awant_some, Option.getD_some, List.getElem?_toArray, List.getElem?_cons_succ, List.getElem?_cons_zero, Option.bind_some, b_tt, b_tf, b_ft, b_ff, Bool.not_true, Bool.not_false, List.take_succ_cons, List.take_zero, awant_none, astep, evl, put, ap_none, ap_new, ap_wr, List.length_nil, List.length_cons, Nat.add_zero, Nat.zero_add, upd_app, stepBin, abin, stepUn, stepPick, stepExtract, stepCall, if_true, if_false, reduceCtorEq, ↓reduceIte, Nat.reduceEqDiff, Nat.reduceAdd, List.map_cons, List.map_nil, Option.map_some, Option.map_none, Bool.false_eq_true, Int.reduceLE, Int.reduceToNat, ne_eq, not_false_eq_true, and_self, and_true, true_and, decide_true, decide_false, t6, w6] <;> rfl) ?_
          refine ⟨⟨i + 1, by omega, by omega, by simp [upd_app, t0], by simp [upd_app], by simp [upd_app], fun j hj => ?_, rfl, rfl⟩, ?_⟩
          · by_cases e : j = i
            · rw [e]; exact hlow
            · exact hhigh j (by omega)
          · rw [t6]
            simp only [upd_app, if_true, Int.toNat_natCast]
            omega
      · have d2 : decide ((i : Int) < 10) = false := by simp; omega
        refine w_assoc (s_run (by simp only [runL, List.drop_succ_cons, List.drop_zero, awant_some, Option.getD_some, List.getElem?_toArray, List.getElem?_cons_succ, List.getElem?_cons_zero, Option.bind_some, b_tt, b_tf, b_ft, b_ff, Bool.not_true, Bool.not_false, List.take_succ_cons, List.take_zero, awant_none, astep, evl, put, ap_none, ap_new, ap_wr, List.length_nil, List.length_cons, Nat.add_zero, Nat.zero_add, upd_app, stepBin, abin, stepUn, stepPick, stepExtract, stepCall, if_true, if_false, reduceCtorEq, ↓reduceIte, Nat.reduceEqDiff, Nat.reduceAdd, List.map_cons, List.map_nil, Option.map_some, Option.map_none, Bool.false_eq_true, Int.reduceLE, Int.reduceToNat, ne_eq, not_false_eq_true, and_self, and_true, true_and, decide_true, decide_false, t0, t6, hlen, d1, d2] <;> rfl) ?_)
        refine s_false (by simp [evl, upd_app]) (s_exit ?_)
        exact ⟨hnf (by omega), rfl⟩
    · have d1 : decide ((i : Int) < (l.length : Int)) = false := by simp; omega
      refine w_assoc (s_run (by simp only [runL, List.drop_succ_cons, List.drop_zero, awant_some, Option.getD_some, List.getElem?_toArray, List.getElem?_cons_succ, List.getElem?_cons_zero, Option.bind_some, b_tt, b_tf, b_ft, b_ff, Bool.not_true, Bool.not_false, List.take_succ_cons, List.take_zero, awant_none, astep, evl, put, ap_none, ap_new, ap_wr, List.length_nil, List.length_cons, Nat.add_zero, Nat.zero_add, upd_app, stepBin, abin, stepUn, stepPick, stepExtract, stepCall, if_true, if_false, reduceCtorEq, ↓reduceIte, Nat.reduceEqDiff, Nat.reduceAdd, List.map_cons, List.map_nil, Option.map_some, Option.map_none, Bool.false_eq_true, Int.reduceLE, Int.reduceToNat, ne_eq, not_false_eq_true, and_self, and_true, true_and, decide_true, decide_false, t0, t6, hlen, d1] <;> rfl) ?_)
      refine s_false (by simp [evl, upd_app]) (s_exit ?_)
      exact ⟨hnf (by omega), rfl⟩
  · rintro t g n' ⟨h1, rfl⟩
    refine s_run (by simp only [runL, List.drop_succ_cons, List.drop_zero, awant_some, Option.getD_some, List.getElem?_toArray, List.getElem?_cons_succ, List.getElem?_cons_zero, Option.bind_some, b_tt, b_tf, b_ft, b_ff, Bool.not_true, Bool.not_false, List.take_succ_cons, List.take_zero, awant_none, astep, evl, put, ap_none, ap_new, ap_wr, List.length_nil, List.length_cons, Nat.add_zero, Nat.zero_add, upd_app, stepBin, abin, stepUn, stepPick, stepExtract, stepCall, if_true, if_false, reduceCtorEq, ↓reduceIte, Nat.reduceEqDiff, Nat.reduceAdd, List.map_cons, List.map_nil, Option.map_some, Option.map_none, Bool.false_eq_true, Int.reduceLE, Int.reduceToNat, ne_eq, not_false_eq_true, and_self, and_true, true_and, decide_true, decide_false] <;> rfl) ?_
    refine w_ret ⟨.inr rfl, tupRes ⟨_, rfl⟩ ⟨_, rfl⟩ ⟨_, rfl⟩, [], fin_none ?_ (svg _) (fun _ _ h => h)⟩
    simp [resVal, upd_app, h1, gres]
end Go.Proofs.Ytokmmcfnpobldaa
