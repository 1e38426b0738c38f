import Derived.Test.YtokmmcfnpobldaaV9
namespace Go.Proofs.Ytokmmcfnpobldaa
open Go Abs
set_option linter.unusedSimpArgs false
set_option linter.unusedVariables false

theorem findLow_grp (p m : List Nat) (h : isGrp p) (k : Nat) : findLow (p ++ m) k = ((k + (p.length - 1) : Nat) : Int) := by
  induction p generalizing k with
  | nil => exact h.elim
  | cons c p ih =>
    rcases h with ⟨h1, rfl⟩ | ⟨h1, h2, h3⟩
    · simp [findLow, h1]
    · have hp : 0 < p.length := by cases p with
        | nil => exact h3.elim
        | cons => simp
      simp only [List.cons_append, findLow, if_neg (show ¬ c < 128 by omega), ih h3, List.length_cons]
      congr 1; omega

theorem vput_pos (v : Nat) : 0 < (vput v).length := List.length_pos_iff.2 (vput_ne_nil v)

theorem vget_vput (v : Nat) (hv : v < 2 ^ 64) (m : List Nat) (hm : ∀ x ∈ m, x < 256) : vget (vput v ++ m) = some (v, (vput v).length) := by
  have hf := findLow_grp (vput v) m (vput_grp v) 0
  have hpos := vput_pos v
  have h10 := vput_len10 v hv
  rw [Nat.zero_add] at hf
  rcases findLow_lt (vput v ++ m) 0 with h | ⟨e, he, h1, hlow, hhigh⟩
  · rw [hf] at h; omega
  · rw [h1, Nat.zero_add] at hf
    have he' : e = (vput v).length - 1 := by omega
    have ht : (vput v ++ m).take (e + 1) = vput v := by rw [show e + 1 = (vput v).length by omega]; simp
    have hb : ∀ x ∈ vput v ++ m, x < 256 := fun x hx => by
      rcases List.mem_append.1 hx with h | h
      · exact vput_256 v x h
      · exact hm x h
    rw [vget_eq _ e he (by rw [h1, Nat.zero_add]) (by omega) hlow hhigh (getD_256 hb), ht, vval_vput, Nat.mod_eq_of_lt hv, if_pos rfl, show e + 1 = (vput v).length by omega]

theorem lit0 (j : Nat) : stepBuildSlice Try.prog 23 0 [] j = some { v := .slice (some ⟨j, 0, some 0⟩) 0 1, j := j, a := [⟨false, 5, []⟩] } := build_nil Try.underlying23 tinf5 _

set_option maxRecDepth 10000 in
theorem lawPuts_spec (a : Nat) (ha : a < 2 ^ 64) (v : Value) (l : List Nat) (g : Heap) (hb : ∀ x ∈ l, x < 256) (hv : Src g v 1 l.length (bs l)) : FnSpec Try.prog 3 [.int .u64 a, v] g { v := .bool true, r := srcBlk v } := by
  refine spec_of_body [4] follows Try.func3 rfl (by kernel_rfl) (by simp [Try.f3]) (by kernel_rfl) rfl ?_
  intro g2 s2 n hg hfr hs hn hwf hsv
  have hv2 : Src g2 v 1 l.length (bs l) := hv.congr fun i hi => hg i (by simp [Eff.fp, hi])
  have hlen := hv2.len Try.underlying23
  have hdom : ∀ i ∈ srcBlk v, i < n := fun i hi => by
    obtain ⟨b, hb⟩ := Option.isSome_iff_exists.1 (hv2.dom i hi)
    exact hs i (hwf i b hb).1
  refine s_run (by simp only [runL, List.drop_succ_cons, List.drop_zero, awant_some, Option.getD_some, List.getElem?_toArray, List.getElem?_cons_succ, List.getElem?_cons_zero, Option.bind_some, b_tt, b_tf, b_ft, b_ff, Bool.not_true, Bool.not_false, List.take_succ_cons, List.take_zero, awant_none, astep, evl, put, ap_none, ap_new, ap_wr, List.length_nil, List.length_cons, Nat.add_zero, Nat.zero_add, upd_app, stepBin, abin, stepUn, stepPick, stepExtract, stepCall, if_true, if_false, reduceCtorEq, ↓reduceIte, Nat.reduceEqDiff, Nat.reduceAdd, List.map_cons, List.map_nil, Option.map_some, Option.map_none, Bool.false_eq_true, Int.reduceLE, Int.reduceToNat, ne_eq, not_false_eq_true, and_self, and_true, true_and, decide_true, decide_false] <;> rfl) ?_
  refine w_assoc (s_run (by simp only [runL, List.drop_succ_cons, List.drop_zero, awant_some, Option.getD_some, List.getElem?_toArray, List.getElem?_cons_succ, List.getElem?_cons_zero, Option.bind_some, b_tt, b_tf, b_ft, b_ff, Bool.not_true, Bool.not_false, List.take_succ_cons, List.take_zero, awant_none, astep, evl, put, ap_none, ap_new, ap_wr, List.length_nil, List.length_cons, Nat.add_zero, Nat.zero_add, upd_app, stepBin, abin, stepUn, stepPick, stepExtract, stepCall, if_true, if_false, reduceCtorEq, ↓reduceIte, Nat.reduceEqDiff, Nat.reduceAdd, List.map_cons, List.map_nil, Option.map_some, Option.map_none, Bool.false_eq_true, Int.reduceLE, Int.reduceToNat, ne_eq, not_false_eq_true, and_self, and_true, true_and, decide_true, decide_false, List.getElem?_cons_zero, Option.getD_some, hlen] <;> rfl) ?_)
  by_cases h50 : l.length ≤ 50
  · refine s_false (by simp [evl, upd_app]; omega) (s_skip ?_)
    refine s_take 1 (by simp only [runL, List.drop_succ_cons, List.drop_zero, awant_some, Option.getD_some, List.getElem?_toArray, List.getElem?_cons_succ, List.getElem?_cons_zero, Option.bind_some, b_tt, b_tf, b_ft, b_ff, Bool.not_true, Bool.not_false, List.take_succ_cons, List.take_zero, awant_none, astep, evl, put, ap_none, ap_new, ap_wr, List.length_nil, List.length_cons, Nat.add_zero, Nat.zero_add, upd_app, stepBin, abin, stepUn, stepPick, stepExtract, stepCall, if_true, if_false, reduceCtorEq, ↓reduceIte, Nat.reduceEqDiff, Nat.reduceAdd, List.map_cons, List.map_nil, Option.map_some, Option.map_none, Bool.false_eq_true, Int.reduceLE, Int.reduceToNat, ne_eq, not_false_eq_true, and_self, and_true, true_and, decide_true, decide_false] <;> rfl) ?_
    refine ops_call 16 _ rfl (put_spec a ha _ _) (by intro _; rfl) (ops_heap fun G1 hG1 => ?_)
    refine ops_run (by simp only [runL, List.drop_succ_cons, List.drop_zero, awant_some, Option.getD_some, List.getElem?_toArray, List.getElem?_cons_succ, List.getElem?_cons_zero, Option.bind_some, b_tt, b_tf, b_ft, b_ff, Bool.not_true, Bool.not_false, List.take_succ_cons, List.take_zero, awant_none, astep, evl, put, ap_none, ap_new, ap_wr, List.length_nil, List.length_cons, Nat.add_zero, Nat.zero_add, upd_app, stepBin, abin, stepUn, stepPick, stepExtract, stepCall, if_true, if_false, reduceCtorEq, ↓reduceIte, Nat.reduceEqDiff, Nat.reduceAdd, List.map_cons, List.map_nil, Option.map_some, Option.map_none, Bool.false_eq_true, Int.reduceLE, Int.reduceToNat, ne_eq, not_false_eq_true, and_self, and_true, true_and, decide_true, decide_false] <;> rfl) ?_
    refine w_gen (fun t => t 0 = .int .u64 a ∧ t 1 = v ∧ t 5 = .slice (some ⟨n, 0, some (vput a).length⟩) (vput a).length 1) (by simp [upd_app]) ?_
    rintro t ⟨t0, t1, t5⟩
    refine s_take 2 (by simp only [runL, List.drop_succ_cons, List.drop_zero, awant_some, Option.getD_some, List.getElem?_toArray, List.getElem?_cons_succ, List.getElem?_cons_zero, Option.bind_some, b_tt, b_tf, b_ft, b_ff, Bool.not_true, Bool.not_false, List.take_succ_cons, List.take_zero, awant_none, astep, evl, put, ap_none, ap_new, ap_wr, List.length_nil, List.length_cons, Nat.add_zero, Nat.zero_add, upd_app, stepBin, abin, stepUn, stepPick, stepExtract, stepCall, if_true, if_false, reduceCtorEq, ↓reduceIte, Nat.reduceEqDiff, Nat.reduceAdd, List.map_cons, List.map_nil, Option.map_some, Option.map_none, Bool.false_eq_true, Int.reduceLE, Int.reduceToNat, ne_eq, not_false_eq_true, and_self, and_true, true_and, decide_true, decide_false, t5, lit0] <;> rfl) ?_
    refine ops_heap fun G2 hG2 => ?_
    have e2 : ∀ k, k < n → G2 k = g2 k := fun k hk => by rw [hG2]; simp [upd_app, hG1, ap_new]; rw [if_neg (by omega), if_neg (by omega)]
    have e2n : G2 n = some ⟨false, 5, bs (vput a)⟩ := by rw [hG2]; simp [upd_app, hG1, ap_new]
    have o2 : OwnI 5 1 G2 (.slice (some ⟨n + 1, 0, some 0⟩) 0 1) 0 [] (some (n + 1)) := .inr ⟨n + 1, rfl, rfl, by rw [hG2]; simp [upd_app], rfl⟩
    have h10 := vput_len10 a ha
    obtain ⟨f3, i3, hf3, o3, hi3, hk3⟩ := own_append (P := Try.prog) (n := n + 1 + 1) (T := 23) o2 (src_own (l := vput a) e2n).cells (by simp) Try.underlying23 tinf5 (by omega) (by omega) (by omega)
    rcases hi3 with ⟨rfl, ha3⟩ | ⟨h, _⟩
    case inr => cases h
    refine ops_step f3 (by simp only [runL, List.drop_succ_cons, List.drop_zero, awant_some, Option.getD_some, List.getElem?_toArray, List.getElem?_cons_succ, List.getElem?_cons_zero, Option.bind_some, b_tt, b_tf, b_ft, b_ff, Bool.not_true, Bool.not_false, List.take_succ_cons, List.take_zero, awant_none, astep, evl, put, ap_none, ap_new, ap_wr, List.length_nil, List.length_cons, Nat.add_zero, Nat.zero_add, upd_app, stepBin, abin, stepUn, stepPick, stepExtract, stepCall, if_true, if_false, reduceCtorEq, ↓reduceIte, Nat.reduceEqDiff, Nat.reduceAdd, List.map_cons, List.map_nil, Option.map_some, Option.map_none, Bool.false_eq_true, Int.reduceLE, Int.reduceToNat, ne_eq, not_false_eq_true, and_self, and_true, true_and, decide_true, decide_false, t5, hf3]) rfl (ops_heap fun G3 hG3 => ?_)
    rw [← hG3] at o3 hk3
    refine ops_take 1 (by simp only [runL, List.drop_succ_cons, List.drop_zero, awant_some, Option.getD_some, List.getElem?_toArray, List.getElem?_cons_succ, List.getElem?_cons_zero, Option.bind_some, b_tt, b_tf, b_ft, b_ff, Bool.not_true, Bool.not_false, List.take_succ_cons, List.take_zero, awant_none, astep, evl, put, ap_none, ap_new, ap_wr, List.length_nil, List.length_cons, Nat.add_zero, Nat.zero_add, upd_app, stepBin, abin, stepUn, stepPick, stepExtract, stepCall, if_true, if_false, reduceCtorEq, ↓reduceIte, Nat.reduceEqDiff, Nat.reduceAdd, List.map_cons, List.map_nil, Option.map_some, Option.map_none, Bool.false_eq_true, Int.reduceLE, Int.reduceToNat, ne_eq, not_false_eq_true, and_self, and_true, true_and, decide_true, decide_false, t1] <;> rfl) ?_
    have hv3 : Src G3 v 1 l.length (bs l) := hv2.congr fun k hk => by
      have := hdom k hk
      rw [hk3 k (by omega) (by simp; omega), e2 k this]
    obtain ⟨f4, i4, hf4, o4, hi4, hk4⟩ := own_append (P := Try.prog) (n := n + 1 + 1) (T := 23) o3 hv3.cells (by simp) Try.underlying23 tinf5 (by omega) (by omega) (by omega)
    rcases hi4 with ⟨rfl, ha4⟩ | ⟨h, _⟩
    case inr => cases h
    refine ops_step f4 (by simp only [runL, List.drop_succ_cons, List.drop_zero, awant_some, Option.getD_some, List.getElem?_toArray, List.getElem?_cons_succ, List.getElem?_cons_zero, Option.bind_some, b_tt, b_tf, b_ft, b_ff, Bool.not_true, Bool.not_false, List.take_succ_cons, List.take_zero, awant_none, astep, evl, put, ap_none, ap_new, ap_wr, List.length_nil, List.length_cons, Nat.add_zero, Nat.zero_add, upd_app, stepBin, abin, stepUn, stepPick, stepExtract, stepCall, if_true, if_false, reduceCtorEq, ↓reduceIte, Nat.reduceEqDiff, Nat.reduceAdd, List.map_cons, List.map_nil, Option.map_some, Option.map_none, Bool.false_eq_true, Int.reduceLE, Int.reduceToNat, ne_eq, not_false_eq_true, and_self, and_true, true_and, decide_true, decide_false, hf4, ha3]) rfl (ops_heap fun G4 hG4 => ?_)
    rw [← hG4] at o4 hk4
    have hcells : [] ++ bs (vput a) ++ bs l = bs (vput a ++ l) := by simp
    have hm : 0 + (vput a).length + l.length = (vput a ++ l).length := by simp
    rw [hcells, hm] at o4
    have hb4 : ∀ x ∈ vput a ++ l, x < 256 := fun x hx => by
      rcases List.mem_append.1 hx with h | h
      · exact vput_256 a x h
      · exact hb x h
    refine ops_call 17 _ rfl (get_spec f4.v (vput a ++ l) G4 (by rw [← hm]; omega) (getD_256 hb4) o4.toSrc) (by simp) ?_
    rw [vget_vput a ha l hb]
    refine ops_run (by simp only [runL, List.drop_succ_cons, List.drop_zero, awant_some, Option.getD_some, List.getElem?_toArray, List.getElem?_cons_succ, List.getElem?_cons_zero, Option.bind_some, b_tt, b_tf, b_ft, b_ff, Bool.not_true, Bool.not_false, List.take_succ_cons, List.take_zero, awant_none, astep, evl, put, ap_none, ap_new, ap_wr, List.length_nil, List.length_cons, Nat.add_zero, Nat.zero_add, upd_app, stepBin, abin, stepUn, stepPick, stepExtract, stepCall, if_true, if_false, reduceCtorEq, ↓reduceIte, Nat.reduceEqDiff, Nat.reduceAdd, List.map_cons, List.map_nil, Option.map_some, Option.map_none, Bool.false_eq_true, Int.reduceLE, Int.reduceToNat, ne_eq, not_false_eq_true, and_self, and_true, true_and, decide_true, decide_false, gres] <;> rfl) ?_
    have e4n : G4 n = some ⟨false, 5, bs (vput a)⟩ := by
      rw [hk4 n (by omega) (by simp), hk3 n (by omega) (by simp), e2n]
    have e4 : ∀ k, k < n → G4 k = g2 k := fun k hk => by
      rw [hk4 k (by omega) (by simp; omega), hk3 k (by omega) (by simp; omega), e2 k hk]
    refine w_gen (fun t => t 0 = .int .u64 a ∧ t 5 = .slice (some ⟨n, 0, some (vput a).length⟩) (vput a).length 1 ∧ t 6 = .int .u64 a ∧ t 7 = .int .i64 (vput a).length ∧ t 8 = .bool true) (by simp [upd_app, put, t0, t5]) ?_
    clear t0 t1 t5
    rintro t ⟨t0, t5, t6, t7, t8⟩
    simp only [ha4, ha3, List.length_nil, Nat.add_zero]
    refine s_drawn #[0, 1, 0, 4, 12, 31, 63, 127, 255, 511, 1023, 1023, 4095, 8191, 16383, 32767, 32767, 98303, 262143, 524287, 1048575, 2097151, 4194303, 8388607] (by decide +kernel) ?_
    obtain ⟨r1, hr1, hr1'⟩ := src_str (src_own e4n)
    refine d_pure 1 (by simp only [runP, List.drop_succ_cons, List.drop_zero, awant_some, Option.getD_some, List.getElem?_toArray, List.getElem?_cons_succ, List.getElem?_cons_zero, Option.bind_some, b_tt, b_tf, b_ft, b_ff, Bool.not_true, Bool.not_false, List.take_succ_cons, List.take_zero, awant_none, astep, evl, put, ap_none, ap_new, ap_wr, List.length_nil, List.length_cons, Nat.add_zero, Nat.zero_add, upd_app, stepBin, abin, stepUn, stepPick, stepExtract, stepCall, if_true, if_false, reduceCtorEq, ↓reduceIte, Nat.reduceEqDiff, Nat.reduceAdd, List.map_cons, List.map_nil, Option.map_some, Option.map_none, Bool.false_eq_true, Int.reduceLE, Int.reduceToNat, ne_eq, not_false_eq_true, and_self, and_true, true_and, decide_true, decide_false, List.isEmpty_nil, Bool.and_self, Bool.and_true, t5] <;> rfl) ?_
    refine d_step { v := .string (nstr (vput a)), r := r1 } (by simp only [runL, List.drop_succ_cons, List.drop_zero, awant_some, Option.getD_some, List.getElem?_toArray, List.getElem?_cons_succ, List.getElem?_cons_zero, Option.bind_some, b_tt, b_tf, b_ft, b_ff, Bool.not_true, Bool.not_false, List.take_succ_cons, List.take_zero, awant_none, astep, evl, put, ap_none, ap_new, ap_wr, List.length_nil, List.length_cons, Nat.add_zero, Nat.zero_add, upd_app, stepBin, abin, stepUn, stepPick, stepExtract, stepCall, if_true, if_false, reduceCtorEq, ↓reduceIte, Nat.reduceEqDiff, Nat.reduceAdd, List.map_cons, List.map_nil, Option.map_some, Option.map_none, Bool.false_eq_true, Int.reduceLE, Int.reduceToNat, ne_eq, not_false_eq_true, and_self, and_true, true_and, decide_true, decide_false, hr1]) rfl (by simp) ?_
    refine d_pure 1 (by simp only [runP, List.drop_succ_cons, List.drop_zero, awant_some, Option.getD_some, List.getElem?_toArray, List.getElem?_cons_succ, List.getElem?_cons_zero, Option.bind_some, b_tt, b_tf, b_ft, b_ff, Bool.not_true, Bool.not_false, List.take_succ_cons, List.take_zero, awant_none, astep, evl, put, ap_none, ap_new, ap_wr, List.length_nil, List.length_cons, Nat.add_zero, Nat.zero_add, upd_app, stepBin, abin, stepUn, stepPick, stepExtract, stepCall, if_true, if_false, reduceCtorEq, ↓reduceIte, Nat.reduceEqDiff, Nat.reduceAdd, List.map_cons, List.map_nil, Option.map_some, Option.map_none, Bool.false_eq_true, Int.reduceLE, Int.reduceToNat, ne_eq, not_false_eq_true, and_self, and_true, true_and, decide_true, decide_false, List.isEmpty_nil, Bool.and_self, Bool.and_true, t0] <;> rfl) ?_
    refine d_call 18 _ rfl rfl rfl rfl (rput_spec a ha _ _) (by intro _; rfl) ?_ (d_heap fun G5 hG5 => ?_)
    · intro p hp
      simp only [List.mem_singleton] at hp
      subst hp
      right
      refine ⟨by simp [Eff.wr], fun x hx => ?_⟩
      have h1 := hr1' x hx
      simp [srcBlk] at h1
      simp [Eff.wr]
      omega
    obtain ⟨r2, hr2, hr2'⟩ := src_str (g := G5) (src_own (k := n + 2) (e := 5) (l := vput a) (by simp [hG5, ap_new, upd_app]))
    refine d_step { v := .string (nstr (vput a)), r := r2 } (by simp only [runL, List.drop_succ_cons, List.drop_zero, awant_some, Option.getD_some, List.getElem?_toArray, List.getElem?_cons_succ, List.getElem?_cons_zero, Option.bind_some, b_tt, b_tf, b_ft, b_ff, Bool.not_true, Bool.not_false, List.take_succ_cons, List.take_zero, awant_none, astep, evl, put, ap_none, ap_new, ap_wr, List.length_nil, List.length_cons, Nat.add_zero, Nat.zero_add, upd_app, stepBin, abin, stepUn, stepPick, stepExtract, stepCall, if_true, if_false, reduceCtorEq, ↓reduceIte, Nat.reduceEqDiff, Nat.reduceAdd, List.map_cons, List.map_nil, Option.map_some, Option.map_none, Bool.false_eq_true, Int.reduceLE, Int.reduceToNat, ne_eq, not_false_eq_true, and_self, and_true, true_and, decide_true, decide_false, hr2]) rfl ?_ ?_
    · intro p hp
      simp only [List.mem_cons, List.not_mem_nil, or_false] at hp
      rcases hp with rfl | rfl
      · exact .inl (bit_of 4 3 rfl rfl (by decide +kernel))
      · right; simp [Eff.wr]
    have hlen5 := (src_own e4n).len Try.underlying23
    refine d_pure 16 (by simp only [runP, List.drop_succ_cons, List.drop_zero, awant_some, Option.getD_some, List.getElem?_toArray, List.getElem?_cons_succ, List.getElem?_cons_zero, Option.bind_some, b_tt, b_tf, b_ft, b_ff, Bool.not_true, Bool.not_false, List.take_succ_cons, List.take_zero, awant_none, astep, evl, put, ap_none, ap_new, ap_wr, List.length_nil, List.length_cons, Nat.add_zero, Nat.zero_add, upd_app, stepBin, abin, stepUn, stepPick, stepExtract, stepCall, if_true, if_false, reduceCtorEq, ↓reduceIte, Nat.reduceEqDiff, Nat.reduceAdd, List.map_cons, List.map_nil, Option.map_some, Option.map_none, Bool.false_eq_true, Int.reduceLE, Int.reduceToNat, ne_eq, not_false_eq_true, and_self, and_true, true_and, decide_true, decide_false, List.isEmpty_nil, Bool.and_self, Bool.and_true, t5, t6, t7, t8, t0, hlen5, beq_self_eq_true] <;> rfl) ?_
    refine d_call 19 _ rfl rfl rfl rfl (known_spec _) (by simp) ?_ ?_
    · intro p hp; right; simp [Eff.wr]
    refine d_pure 2 (by simp only [runP, List.drop_succ_cons, List.drop_zero, awant_some, Option.getD_some, List.getElem?_toArray, List.getElem?_cons_succ, List.getElem?_cons_zero, Option.bind_some, b_tt, b_tf, b_ft, b_ff, Bool.not_true, Bool.not_false, List.take_succ_cons, List.take_zero, awant_none, astep, evl, put, ap_none, ap_new, ap_wr, List.length_nil, List.length_cons, Nat.add_zero, Nat.zero_add, upd_app, stepBin, abin, stepUn, stepPick, stepExtract, stepCall, if_true, if_false, reduceCtorEq, ↓reduceIte, Nat.reduceEqDiff, Nat.reduceAdd, List.map_cons, List.map_nil, Option.map_some, Option.map_none, Bool.false_eq_true, Int.reduceLE, Int.reduceToNat, ne_eq, not_false_eq_true, and_self, and_true, true_and, decide_true, decide_false, List.isEmpty_nil, Bool.and_self, Bool.and_true] <;> rfl) ?_
    refine w_ret ⟨.inr rfl, by simp, [], fin_none ?_ trivial ?_⟩
    · simp [resVal, upd_app]
    · intro i b hb
      have := hs i (hwf i b hb).1
      show G5 i = some b
      rw [hG5]
      simp [ap_new, upd_app, show i ≠ n + 2 by omega, e4 i this, hb]
  · refine s_true (by simp [evl, upd_app]; omega) ?_
    refine w_assoc (s_run (by simp only [runL, List.drop_succ_cons, List.drop_zero, awant_some, Option.getD_some, List.getElem?_toArray, List.getElem?_cons_succ, List.getElem?_cons_zero, Option.bind_some, b_tt, b_tf, b_ft, b_ff, Bool.not_true, Bool.not_false, List.take_succ_cons, List.take_zero, awant_none, astep, evl, put, ap_none, ap_new, ap_wr, List.length_nil, List.length_cons, Nat.add_zero, Nat.zero_add, upd_app, stepBin, abin, stepUn, stepPick, stepExtract, stepCall, if_true, if_false, reduceCtorEq, ↓reduceIte, Nat.reduceEqDiff, Nat.reduceAdd, List.map_cons, List.map_nil, Option.map_some, Option.map_none, Bool.false_eq_true, Int.reduceLE, Int.reduceToNat, ne_eq, not_false_eq_true, and_self, and_true, true_and, decide_true, decide_false] <;> rfl) ?_)
    refine s_ret ⟨.inr rfl, by simp, [], fin_none ?_ trivial (fun _ _ h => h)⟩
    simp [resVal, upd_app]
end Go.Proofs.Ytokmmcfnpobldaa
