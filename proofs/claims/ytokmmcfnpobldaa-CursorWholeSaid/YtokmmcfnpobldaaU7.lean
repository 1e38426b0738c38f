import Derived.Test.YtokmmcfnpobldaaU6
import Derived.Test.YtokmmcfnpobldaaU5
namespace Go.Proofs.Ytokmmcfnpobldaa
open Go Abs
set_option linter.unusedSimpArgs false
set_option linter.unusedVariables false

theorem Own.keepOn {e : TypeId} {g g' : Heap} {v : Value} {l : List Value} {n n' n'' : Nat} (h : Own e g v l n n') (hk : ∀ q, n ≤ q → q < n' → g' q = g q) (hn : n' ≤ n'') : Own e g' v l n n'' := by
  obtain ⟨i, h, hi⟩ := h
  exact ⟨i, h.keep fun k hk' => hk k (hi k hk').1 (hi k hk').2.1, fun q hq => by have := hi q hq; omega⟩

def cnewE (v : Value) (l : List Nat) (j : Nat) : Eff :=
  if isNil v then { v := pt1 j, r := srcBlk v, j := j, a := [⟨false, 68, [.slice none 0 0]⟩] } else { v := pt1 j, r := srcBlk v, j := j, a := [⟨false, 68, [.slice (some ⟨j + 1, 0, some l.length⟩) l.length 1]⟩, ⟨false, 5, bs l⟩] }

theorem cnewE_use {v : Value} {l : List Nat} {G : Heap} (j : Nat) (hv : Src G v 1 l.length (bs l)) :
    (cnewE v l j).v = pt1 j ∧ (cnewE v l j).j = j ∧ (cnewE v l j).w = [] ∧ Kp j G ((cnewE v l j).ap G) ∧ j < j + (cnewE v l j).a.length ∧ ∃ vc, Cu 68 ((cnewE v l j).ap G) j vc l ∧ ∀ i ∈ srcBlk vc, j < i ∧ i < j + (cnewE v l j).a.length := by
  by_cases h0 : isNil v = true
  · have hl : l = [] := List.eq_nil_of_length_eq_zero (nil_empty hv h0)
    rw [cnewE, if_pos h0]
    refine ⟨rfl, rfl, rfl, kp_ap (Kp.refl _ _) rfl (fun _ => Nat.le_refl _), by simp, .slice none 0 0, ⟨by simp [ap_new, upd_app], .inl ⟨rfl, by simp [hl], by simp [hl]⟩, by simp [srcBlk]⟩, by simp [srcBlk]⟩
  · rw [cnewE, if_neg h0]
    refine ⟨rfl, rfl, rfl, kp_ap (Kp.refl _ _) rfl (fun _ => Nat.le_refl _), by simp, .slice (some ⟨j + 1, 0, some l.length⟩) l.length 1, ⟨by simp [Eff.ap, setAll, addAll, upd_app], src_bs (ro := false) (e := 5) (by simp [Eff.ap, setAll, addAll, upd_app]) rfl, fun h => by have := srcBlk_own _ h; omega⟩, fun i hi => by have := srcBlk_own i hi; simp; omega⟩

theorem cvarE_some {e : TypeId} {G : Heap} {p : Nat} {v : Value} {l : List Nat} {most : Int} {j x c : Nat} (hC : Cu e G p v l) (h : cvar l most = some (x, c)) :
    (cvarE e p v l most j).v = .tuple #[.int .i64 x, .bool true] ∧ Cu e ((cvarE e p v l most j).ap G) p (slV v c l.length) (l.drop c) ∧ ∀ i, i ≠ p → (cvarE e p v l most j).ap G i = G i := by
  have he : cvarE e p v l most j = { v := .tuple #[.int .i64 x, .bool true], r := p :: srcBlk v, w := [(p, ⟨false, e, [slV v c l.length]⟩)], j := j } := by simp [cvarE, h]
  rw [he]
  have hap : ∀ i, i ≠ p → ({ v := .tuple #[.int .i64 x, .bool true], r := p :: srcBlk v, w := [(p, ⟨false, e, [slV v c l.length]⟩)], j := j } : Eff).ap G i = G i := fun i hi => by simp [ap_wr, upd_app, hi]
  exact ⟨rfl, hC.taken (cvar_le h).1 (by simp [ap_wr]) (fun i hi => hap i fun e => hC.ne (e ▸ hi)), hap⟩

theorem cvarE_none {e : TypeId} {p : Nat} {v : Value} {l : List Nat} {most : Int} {j : Nat} (h : cvar l most = none) : cvarE e p v l most j = { v := .tuple #[.int .i64 0, .bool false], r := p :: srcBlk v, j := j } := by simp [cvarE, h]

theorem lit2 (x y : Int) (j : Nat) : stepBuildSlice Try.prog 23 2 [(0, .int .u8 x), (1, .int .u8 y)] j = some { v := .slice (some ⟨j, 0, some 2⟩) 2 1, j := j, a := [⟨false, 5, [.int .u8 x, .int .u8 y]⟩] } := by
  simp [stepBuildSlice, Try.underlying23, tinf5, fillL, Value.cells, isTup, putAll, List.replicate]

theorem cvar_k1 : cvar [172, 2] 299 = none := by decide
theorem cvar_k2 : cvar [172, 2] 300 = some (300, 2) := by decide

set_option maxRecDepth 10000 in
theorem ckn_spec (g : Heap) : FnSpec Try.prog 33 [] g { v := .bool true } := by
  refine spec_of_body [0] follows Try.func33 rfl (by kernel_rfl) (by simp [Try.f33]) (by kernel_rfl) rfl ?_
  intro g2 s2 n hg hfr hs hn hwf hsv
  refine s_run (by simp only [runL, List.drop_succ_cons, List.drop_zero, awant_some, Option.getD_some, List.getElem?_toArray, List.getElem?_cons_succ, List.getElem?_cons_zero, Option.bind_some, b_tt, b_tf, b_ft, b_ff, Bool.not_true, Bool.not_false, List.take_succ_cons, List.take_zero, awant_none, astep, evl, put, ap_none, ap_new, ap_wr, List.length_nil, List.length_cons, Nat.add_zero, Nat.zero_add, upd_app, stepBin, abin, stepUn, stepPick, stepExtract, stepCall, if_true, if_false, reduceCtorEq, ↓reduceIte, Nat.reduceEqDiff, Nat.reduceAdd, List.map_cons, List.map_nil, Option.map_some, Option.map_none, Bool.false_eq_true, Int.reduceLE, Int.reduceToNat, ne_eq, not_false_eq_true, and_self, and_true, true_and, decide_true, decide_false, Int.reduceEq, Int.reduceLT, Int.reduceBEq, Int.reduceBNe, not_true_eq_false, undef] <;> rfl) ?_
  refine s_take 1 (by simp only [runL, List.drop_succ_cons, List.drop_zero, awant_some, Option.getD_some, List.getElem?_toArray, List.getElem?_cons_succ, List.getElem?_cons_zero, Option.bind_some, b_tt, b_tf, b_ft, b_ff, Bool.not_true, Bool.not_false, List.take_succ_cons, List.take_zero, awant_none, astep, evl, put, ap_none, ap_new, ap_wr, List.length_nil, List.length_cons, Nat.add_zero, Nat.zero_add, upd_app, stepBin, abin, stepUn, stepPick, stepExtract, stepCall, if_true, if_false, reduceCtorEq, ↓reduceIte, Nat.reduceEqDiff, Nat.reduceAdd, List.map_cons, List.map_nil, Option.map_some, Option.map_none, Bool.false_eq_true, Int.reduceLE, Int.reduceToNat, ne_eq, not_false_eq_true, and_self, and_true, true_and, decide_true, decide_false, Int.reduceEq, Int.reduceLT, Int.reduceBEq, Int.reduceBNe, not_true_eq_false, undef, lit2] <;> rfl) (ops_heap fun G1 hG1 => ?_)
  have b1 : G1 n = some ⟨false, 5, bs [172, 2]⟩ := by rw [hG1]; simp [upd_app]
  have k1 : Kp n g2 G1 := by rw [hG1]; exact kp_upd (Kp.refl _ _) (Nat.le_refl _)
  have hsr := src_bs (m := 2) b1 rfl
  obtain ⟨u1, u2, u3, u4, u5, vc, u6, u7⟩ := cnewE_use (n + 1) hsr
  have hc : FnSpec Try.prog 30 [_] G1 (cnewE _ [172, 2] (n + 1)) := cnew_spec _ [172, 2] G1 (n + 1) (by decide) hsr
  refine ops_call 30 _ rfl hc (by intro _; exact u2) (ops_heap fun G2 hG2 => ops_num fun N2 hN2 => ?_)
  rw [← hG2] at u4 u6
  rw [u1]
  refine ops_run (by simp only [runL, List.drop_succ_cons, List.drop_zero, awant_some, Option.getD_some, List.getElem?_toArray, List.getElem?_cons_succ, List.getElem?_cons_zero, Option.bind_some, b_tt, b_tf, b_ft, b_ff, Bool.not_true, Bool.not_false, List.take_succ_cons, List.take_zero, awant_none, astep, evl, put, ap_none, ap_new, ap_wr, List.length_nil, List.length_cons, Nat.add_zero, Nat.zero_add, upd_app, stepBin, abin, stepUn, stepPick, stepExtract, stepCall, if_true, if_false, reduceCtorEq, ↓reduceIte, Nat.reduceEqDiff, Nat.reduceAdd, List.map_cons, List.map_nil, Option.map_some, Option.map_none, Bool.false_eq_true, Int.reduceLE, Int.reduceToNat, ne_eq, not_false_eq_true, and_self, and_true, true_and, decide_true, decide_false, Int.reduceEq, Int.reduceLT, Int.reduceBEq, Int.reduceBNe, not_true_eq_false, undef] <;> rfl) ?_
  refine w_gen (fun t => t 1 = pt1 (n + 1)) (by simp [upd_app, put]) ?_
  intro t t1
  refine s_take 1 (by simp only [runL, List.drop_succ_cons, List.drop_zero, awant_some, Option.getD_some, List.getElem?_toArray, List.getElem?_cons_succ, List.getElem?_cons_zero, Option.bind_some, b_tt, b_tf, b_ft, b_ff, Bool.not_true, Bool.not_false, List.take_succ_cons, List.take_zero, awant_none, astep, evl, put, ap_none, ap_new, ap_wr, List.length_nil, List.length_cons, Nat.add_zero, Nat.zero_add, upd_app, stepBin, abin, stepUn, stepPick, stepExtract, stepCall, if_true, if_false, reduceCtorEq, ↓reduceIte, Nat.reduceEqDiff, Nat.reduceAdd, List.map_cons, List.map_nil, Option.map_some, Option.map_none, Bool.false_eq_true, Int.reduceLE, Int.reduceToNat, ne_eq, not_false_eq_true, and_self, and_true, true_and, decide_true, decide_false, Int.reduceEq, Int.reduceLT, Int.reduceBEq, Int.reduceBNe, not_true_eq_false, undef, t1] <;> rfl) ?_
  have hv1 := cvarint_spec (n + 1) vc [172, 2] 299 G2 N2 (by decide) (by decide) (by omega) u6
  rw [cvarE_none cvar_k1] at hv1
  refine ops_call 31 _ rfl hv1 (by intro h; exact (h rfl).elim) ?_
  refine ops_run (by simp only [runL, List.drop_succ_cons, List.drop_zero, awant_some, Option.getD_some, List.getElem?_toArray, List.getElem?_cons_succ, List.getElem?_cons_zero, Option.bind_some, b_tt, b_tf, b_ft, b_ff, Bool.not_true, Bool.not_false, List.take_succ_cons, List.take_zero, awant_none, astep, evl, put, ap_none, ap_new, ap_wr, List.length_nil, List.length_cons, Nat.add_zero, Nat.zero_add, upd_app, stepBin, abin, stepUn, stepPick, stepExtract, stepCall, if_true, if_false, reduceCtorEq, ↓reduceIte, Nat.reduceEqDiff, Nat.reduceAdd, List.map_cons, List.map_nil, Option.map_some, Option.map_none, Bool.false_eq_true, Int.reduceLE, Int.reduceToNat, ne_eq, not_false_eq_true, and_self, and_true, true_and, decide_true, decide_false, Int.reduceEq, Int.reduceLT, Int.reduceBEq, Int.reduceBNe, not_true_eq_false, undef] <;> rfl) ?_
  refine w_gen (fun t => t 1 = pt1 (n + 1) ∧ t 3 = .bool false) (by simp [upd_app, put, t1]) ?_
  clear t1
  rintro t ⟨t1, t3⟩
  refine s_take 1 (by simp only [runL, List.drop_succ_cons, List.drop_zero, awant_some, Option.getD_some, List.getElem?_toArray, List.getElem?_cons_succ, List.getElem?_cons_zero, Option.bind_some, b_tt, b_tf, b_ft, b_ff, Bool.not_true, Bool.not_false, List.take_succ_cons, List.take_zero, awant_none, astep, evl, put, ap_none, ap_new, ap_wr, List.length_nil, List.length_cons, Nat.add_zero, Nat.zero_add, upd_app, stepBin, abin, stepUn, stepPick, stepExtract, stepCall, if_true, if_false, reduceCtorEq, ↓reduceIte, Nat.reduceEqDiff, Nat.reduceAdd, List.map_cons, List.map_nil, Option.map_some, Option.map_none, Bool.false_eq_true, Int.reduceLE, Int.reduceToNat, ne_eq, not_false_eq_true, and_self, and_true, true_and, decide_true, decide_false, Int.reduceEq, Int.reduceLT, Int.reduceBEq, Int.reduceBNe, not_true_eq_false, undef, t1] <;> rfl) ?_
  have hv2 := cvarint_spec (n + 1) vc [172, 2] 300 G2 N2 (by decide) (by decide) (by omega) u6
  obtain ⟨q1, q2, q3⟩ := cvarE_some (j := N2) u6 cvar_k2
  refine ops_call 31 _ rfl hv2 (by intro h; exact (h cvarE_a).elim) (ops_heap fun G3 hG3 => ?_)
  rw [← hG3] at q2 q3
  rw [q1]
  refine ops_run (by simp only [runL, List.drop_succ_cons, List.drop_zero, awant_some, Option.getD_some, List.getElem?_toArray, List.getElem?_cons_succ, List.getElem?_cons_zero, Option.bind_some, b_tt, b_tf, b_ft, b_ff, Bool.not_true, Bool.not_false, List.take_succ_cons, List.take_zero, awant_none, astep, evl, put, ap_none, ap_new, ap_wr, List.length_nil, List.length_cons, Nat.add_zero, Nat.zero_add, upd_app, stepBin, abin, stepUn, stepPick, stepExtract, stepCall, if_true, if_false, reduceCtorEq, ↓reduceIte, Nat.reduceEqDiff, Nat.reduceAdd, List.map_cons, List.map_nil, Option.map_some, Option.map_none, Bool.false_eq_true, Int.reduceLE, Int.reduceToNat, ne_eq, not_false_eq_true, and_self, and_true, true_and, decide_true, decide_false, Int.reduceEq, Int.reduceLT, Int.reduceBEq, Int.reduceBNe, not_true_eq_false, undef] <;> rfl) ?_
  refine w_gen (fun t => t 1 = pt1 (n + 1) ∧ t 3 = .bool false ∧ t 4 = .int .i64 (300 : Nat) ∧ t 5 = .bool true) (by simp [upd_app, put, t1, t3]) ?_
  clear t1 t3
  rintro t ⟨t1, t3, t4, t5⟩
  have d : (((300 : Nat) : Int) == 300) = true := rfl
  refine s_take 11 (by simp only [runL, List.drop_succ_cons, List.drop_zero, awant_some, Option.getD_some, List.getElem?_toArray, List.getElem?_cons_succ, List.getElem?_cons_zero, Option.bind_some, b_tt, b_tf, b_ft, b_ff, Bool.not_true, Bool.not_false, List.take_succ_cons, List.take_zero, awant_none, astep, evl, put, ap_none, ap_new, ap_wr, List.length_nil, List.length_cons, Nat.add_zero, Nat.zero_add, upd_app, stepBin, abin, stepUn, stepPick, stepExtract, stepCall, if_true, if_false, reduceCtorEq, ↓reduceIte, Nat.reduceEqDiff, Nat.reduceAdd, List.map_cons, List.map_nil, Option.map_some, Option.map_none, Bool.false_eq_true, Int.reduceLE, Int.reduceToNat, ne_eq, not_false_eq_true, and_self, and_true, true_and, decide_true, decide_false, Int.reduceEq, Int.reduceLT, Int.reduceBEq, Int.reduceBNe, not_true_eq_false, undef, t1, t3, t4, t5, d] <;> rfl) ?_
  refine g_call 32 _ (by simp only [runL, List.drop_succ_cons, List.drop_zero, awant_some, Option.getD_some, List.getElem?_toArray, List.getElem?_cons_succ, List.getElem?_cons_zero, Option.bind_some, b_tt, b_tf, b_ft, b_ff, Bool.not_true, Bool.not_false, List.take_succ_cons, List.take_zero, awant_none, astep, evl, put, ap_none, ap_new, ap_wr, List.length_nil, List.length_cons, Nat.add_zero, Nat.zero_add, upd_app, stepBin, abin, stepUn, stepPick, stepExtract, stepCall, if_true, if_false, reduceCtorEq, ↓reduceIte, Nat.reduceEqDiff, Nat.reduceAdd, List.map_cons, List.map_nil, Option.map_some, Option.map_none, Bool.false_eq_true, Int.reduceLE, Int.reduceToNat, ne_eq, not_false_eq_true, and_self, and_true, true_and, decide_true, decide_false, Int.reduceEq, Int.reduceLT, Int.reduceBEq, Int.reduceBNe, not_true_eq_false, undef] <;> rfl) rfl (cleft_spec (n + 1) _ _ G3 q2) (by simp) ?_
  have d2 : (((List.drop 2 [172, 2]).length : Int) == 0) = true := rfl
  refine ops_run (by simp only [runL, List.drop_succ_cons, List.drop_zero, awant_some, Option.getD_some, List.getElem?_toArray, List.getElem?_cons_succ, List.getElem?_cons_zero, Option.bind_some, b_tt, b_tf, b_ft, b_ff, Bool.not_true, Bool.not_false, List.take_succ_cons, List.take_zero, awant_none, astep, evl, put, ap_none, ap_new, ap_wr, List.length_nil, List.length_cons, Nat.add_zero, Nat.zero_add, upd_app, stepBin, abin, stepUn, stepPick, stepExtract, stepCall, if_true, if_false, reduceCtorEq, ↓reduceIte, Nat.reduceEqDiff, Nat.reduceAdd, List.map_cons, List.map_nil, Option.map_some, Option.map_none, Bool.false_eq_true, Int.reduceLE, Int.reduceToNat, ne_eq, not_false_eq_true, and_self, and_true, true_and, decide_true, decide_false, Int.reduceEq, Int.reduceLT, Int.reduceBEq, Int.reduceBNe, not_true_eq_false, undef, d2] <;> rfl) ?_
  refine w_ret ⟨.inr rfl, by simp, [], fin_plain hs hwf (fun q hq => ?_) ?_ trivial⟩
  · show G3 q = g2 q
    rw [q3 q (by omega), u4 q (by omega), k1 q hq]
  · simp [resVal, upd_app]

def cat (ns : List Nat) : List Nat := ns.flatMap vput

theorem cat_len (ns : List Nat) (h : ∀ x ∈ ns, x ≤ 2 ^ 40) : (cat ns).length ≤ 10 * ns.length := by
  induction ns with
  | nil => simp [cat]
  | cons x ns ih =>
    have h1 := vput_len10 x (by have := h x (by simp); omega)
    have h2 := ih fun y hy => h y (by simp [hy])
    simp only [cat, List.flatMap_cons, List.length_append, List.length_cons] at h2 ⊢
    omega

theorem cat_256 (ns : List Nat) : ∀ x ∈ cat ns, x < 256 := by
  intro x hx
  simp only [cat, List.mem_flatMap] at hx
  obtain ⟨y, _, hy⟩ := hx
  exact vput_256 y x hy

theorem cvar_cat {x : Nat} (hx : x ≤ 2 ^ 40) (m : List Nat) (hm : ∀ y ∈ m, y < 256) (most : Int) : cvar (vput x ++ m) most = if most < (x : Int) then none else some (x, (vput x).length) := by
  unfold cvar
  rw [vget_vput x (by omega) m hm]
  by_cases h : most < 0
  · rw [if_pos h, if_pos (by omega)]
  · rw [if_neg h]

set_option maxRecDepth 10000 in
theorem lawCNumbers_spec (v : Value) (l : List Int) (less : Int) (g : Heap) (hv : Src g v 1 l.length (l.map (Value.int .i64))) : FnSpec Try.prog 13 [v, .int .i64 less] g { v := .bool true, r := srcBlk v } := by
  refine spec_of_body [4] follows Try.func13 rfl (by kernel_rfl) (by simp [Try.f13]) (by kernel_rfl) rfl ?_
  intro g2 s2 n hg hfr hs hn hwf hsv
  have hv2 : Src g2 v 1 l.length (l.map (Value.int .i64)) := hv.congr fun i hi => hg i (by simp [Eff.fp, hi])
  have hlen := hv2.len Try.underlying36
  have hdom : ∀ i ∈ srcBlk v, i < n := fun i hi => by
    obtain ⟨b, hb⟩ := Option.isSome_iff_exists.1 (hv2.dom i hi)
    exact hs i (hwf i b hb).1
  refine s_run (by simp only [runL, List.drop_succ_cons, List.drop_zero, awant_some, Option.getD_some, List.getElem?_toArray, List.getElem?_cons_succ, List.getElem?_cons_zero, Option.bind_some, b_tt, b_tf, b_ft, b_ff, Bool.not_true, Bool.not_false, List.take_succ_cons, List.take_zero, awant_none, astep, evl, put, ap_none, ap_new, ap_wr, List.length_nil, List.length_cons, Nat.add_zero, Nat.zero_add, upd_app, stepBin, abin, stepUn, stepPick, stepExtract, stepCall, if_true, if_false, reduceCtorEq, ↓reduceIte, Nat.reduceEqDiff, Nat.reduceAdd, List.map_cons, List.map_nil, Option.map_some, Option.map_none, Bool.false_eq_true, Int.reduceLE, Int.reduceToNat, ne_eq, not_false_eq_true, and_self, and_true, true_and, decide_true, decide_false, Int.reduceEq, Int.reduceLT, Int.reduceBEq, Int.reduceBNe, not_true_eq_false, undef] <;> rfl) ?_
  by_cases ea1 : (l.length : Int) > 50
  · have ed1 : (decide ((l.length : Int) > 50)) = true := decide_eq_true ea1
    refine w_assoc (s_run (by simp only [runL, List.drop_succ_cons, List.drop_zero, awant_some, Option.getD_some, List.getElem?_toArray, List.getElem?_cons_succ, List.getElem?_cons_zero, Option.bind_some, b_tt, b_tf, b_ft, b_ff, Bool.not_true, Bool.not_false, List.take_succ_cons, List.take_zero, awant_none, astep, evl, put, ap_none, ap_new, ap_wr, List.length_nil, List.length_cons, Nat.add_zero, Nat.zero_add, upd_app, stepBin, abin, stepUn, stepPick, stepExtract, stepCall, if_true, if_false, reduceCtorEq, ↓reduceIte, Nat.reduceEqDiff, Nat.reduceAdd, List.map_cons, List.map_nil, Option.map_some, Option.map_none, Bool.false_eq_true, Int.reduceLE, Int.reduceToNat, ne_eq, not_false_eq_true, and_self, and_true, true_and, decide_true, decide_false, Int.reduceEq, Int.reduceLT, Int.reduceBEq, Int.reduceBNe, not_true_eq_false, undef, hlen, ed1] <;> rfl) ?_)
    refine s_true (by simp [evl, upd_app]) (w_assoc (s_run (by simp only [runL, List.drop_succ_cons, List.drop_zero, awant_some, Option.getD_some, List.getElem?_toArray, List.getElem?_cons_succ, List.getElem?_cons_zero, Option.bind_some, b_tt, b_tf, b_ft, b_ff, Bool.not_true, Bool.not_false, List.take_succ_cons, List.take_zero, awant_none, astep, evl, put, ap_none, ap_new, ap_wr, List.length_nil, List.length_cons, Nat.add_zero, Nat.zero_add, upd_app, stepBin, abin, stepUn, stepPick, stepExtract, stepCall, if_true, if_false, reduceCtorEq, ↓reduceIte, Nat.reduceEqDiff, Nat.reduceAdd, List.map_cons, List.map_nil, Option.map_some, Option.map_none, Bool.false_eq_true, Int.reduceLE, Int.reduceToNat, ne_eq, not_false_eq_true, and_self, and_true, true_and, decide_true, decide_false, Int.reduceEq, Int.reduceLT, Int.reduceBEq, Int.reduceBNe, not_true_eq_false, undef] <;> rfl) ?_))
    refine s_ret ⟨.inr rfl, by simp, [], fin_none ?_ trivial (fun _ _ h => h)⟩
    simp [resVal, upd_app]
  have ed1 : (decide ((l.length : Int) > 50)) = false := decide_eq_false ea1
  by_cases ea2 : less < 1
  · have ed2 : (decide (less < 1)) = true := decide_eq_true ea2
    refine w_assoc (s_run (by simp only [runL, List.drop_succ_cons, List.drop_zero, awant_some, Option.getD_some, List.getElem?_toArray, List.getElem?_cons_succ, List.getElem?_cons_zero, Option.bind_some, b_tt, b_tf, b_ft, b_ff, Bool.not_true, Bool.not_false, List.take_succ_cons, List.take_zero, awant_none, astep, evl, put, ap_none, ap_new, ap_wr, List.length_nil, List.length_cons, Nat.add_zero, Nat.zero_add, upd_app, stepBin, abin, stepUn, stepPick, stepExtract, stepCall, if_true, if_false, reduceCtorEq, ↓reduceIte, Nat.reduceEqDiff, Nat.reduceAdd, List.map_cons, List.map_nil, Option.map_some, Option.map_none, Bool.false_eq_true, Int.reduceLE, Int.reduceToNat, ne_eq, not_false_eq_true, and_self, and_true, true_and, decide_true, decide_false, Int.reduceEq, Int.reduceLT, Int.reduceBEq, Int.reduceBNe, not_true_eq_false, undef, hlen, ed1, ed2] <;> rfl) ?_)
    refine s_true (by simp [evl, upd_app]) (w_assoc (s_run (by simp only [runL, List.drop_succ_cons, List.drop_zero, awant_some, Option.getD_some, List.getElem?_toArray, List.getElem?_cons_succ, List.getElem?_cons_zero, Option.bind_some, b_tt, b_tf, b_ft, b_ff, Bool.not_true, Bool.not_false, List.take_succ_cons, List.take_zero, awant_none, astep, evl, put, ap_none, ap_new, ap_wr, List.length_nil, List.length_cons, Nat.add_zero, Nat.zero_add, upd_app, stepBin, abin, stepUn, stepPick, stepExtract, stepCall, if_true, if_false, reduceCtorEq, ↓reduceIte, Nat.reduceEqDiff, Nat.reduceAdd, List.map_cons, List.map_nil, Option.map_some, Option.map_none, Bool.false_eq_true, Int.reduceLE, Int.reduceToNat, ne_eq, not_false_eq_true, and_self, and_true, true_and, decide_true, decide_false, Int.reduceEq, Int.reduceLT, Int.reduceBEq, Int.reduceBNe, not_true_eq_false, undef] <;> rfl) ?_))
    refine s_ret ⟨.inr rfl, by simp, [], fin_none ?_ trivial (fun _ _ h => h)⟩
    simp [resVal, upd_app]
  have ed2 : (decide (less < 1)) = false := decide_eq_false ea2
  by_cases ea3 : less > 9
  · have ed3 : (decide (less > 9)) = true := decide_eq_true ea3
    refine w_assoc (s_run (by simp only [runL, List.drop_succ_cons, List.drop_zero, awant_some, Option.getD_some, List.getElem?_toArray, List.getElem?_cons_succ, List.getElem?_cons_zero, Option.bind_some, b_tt, b_tf, b_ft, b_ff, Bool.not_true, Bool.not_false, List.take_succ_cons, List.take_zero, awant_none, astep, evl, put, ap_none, ap_new, ap_wr, List.length_nil, List.length_cons, Nat.add_zero, Nat.zero_add, upd_app, stepBin, abin, stepUn, stepPick, stepExtract, stepCall, if_true, if_false, reduceCtorEq, ↓reduceIte, Nat.reduceEqDiff, Nat.reduceAdd, List.map_cons, List.map_nil, Option.map_some, Option.map_none, Bool.false_eq_true, Int.reduceLE, Int.reduceToNat, ne_eq, not_false_eq_true, and_self, and_true, true_and, decide_true, decide_false, Int.reduceEq, Int.reduceLT, Int.reduceBEq, Int.reduceBNe, not_true_eq_false, undef, hlen, ed1, ed2, ed3] <;> rfl) ?_)
    refine s_true (by simp [evl, upd_app]) (w_assoc (s_run (by simp only [runL, List.drop_succ_cons, List.drop_zero, awant_some, Option.getD_some, List.getElem?_toArray, List.getElem?_cons_succ, List.getElem?_cons_zero, Option.bind_some, b_tt, b_tf, b_ft, b_ff, Bool.not_true, Bool.not_false, List.take_succ_cons, List.take_zero, awant_none, astep, evl, put, ap_none, ap_new, ap_wr, List.length_nil, List.length_cons, Nat.add_zero, Nat.zero_add, upd_app, stepBin, abin, stepUn, stepPick, stepExtract, stepCall, if_true, if_false, reduceCtorEq, ↓reduceIte, Nat.reduceEqDiff, Nat.reduceAdd, List.map_cons, List.map_nil, Option.map_some, Option.map_none, Bool.false_eq_true, Int.reduceLE, Int.reduceToNat, ne_eq, not_false_eq_true, and_self, and_true, true_and, decide_true, decide_false, Int.reduceEq, Int.reduceLT, Int.reduceBEq, Int.reduceBNe, not_true_eq_false, undef] <;> rfl) ?_))
    refine s_ret ⟨.inr rfl, by simp, [], fin_none ?_ trivial (fun _ _ h => h)⟩
    simp [resVal, upd_app]
  have ed3 : (decide (less > 9)) = false := decide_eq_false ea3
  refine w_assoc (s_run (by simp only [runL, List.drop_succ_cons, List.drop_zero, awant_some, Option.getD_some, List.getElem?_toArray, List.getElem?_cons_succ, List.getElem?_cons_zero, Option.bind_some, b_tt, b_tf, b_ft, b_ff, Bool.not_true, Bool.not_false, List.take_succ_cons, List.take_zero, awant_none, astep, evl, put, ap_none, ap_new, ap_wr, List.length_nil, List.length_cons, Nat.add_zero, Nat.zero_add, upd_app, stepBin, abin, stepUn, stepPick, stepExtract, stepCall, if_true, if_false, reduceCtorEq, ↓reduceIte, Nat.reduceEqDiff, Nat.reduceAdd, List.map_cons, List.map_nil, Option.map_some, Option.map_none, Bool.false_eq_true, Int.reduceLE, Int.reduceToNat, ne_eq, not_false_eq_true, and_self, and_true, true_and, decide_true, decide_false, Int.reduceEq, Int.reduceLT, Int.reduceBEq, Int.reduceBNe, not_true_eq_false, undef, hlen, ed1, ed2, ed3] <;> rfl) ?_)
  refine s_false (by simp [evl, upd_app]) (s_skip ?_)
  refine s_run (by simp only [runL, List.drop_succ_cons, List.drop_zero, awant_some, Option.getD_some, List.getElem?_toArray, List.getElem?_cons_succ, List.getElem?_cons_zero, Option.bind_some, b_tt, b_tf, b_ft, b_ff, Bool.not_true, Bool.not_false, List.take_succ_cons, List.take_zero, awant_none, astep, evl, put, ap_none, ap_new, ap_wr, List.length_nil, List.length_cons, Nat.add_zero, Nat.zero_add, upd_app, stepBin, abin, stepUn, stepPick, stepExtract, stepCall, if_true, if_false, reduceCtorEq, ↓reduceIte, Nat.reduceEqDiff, Nat.reduceAdd, List.map_cons, List.map_nil, Option.map_some, Option.map_none, Bool.false_eq_true, Int.reduceLE, Int.reduceToNat, ne_eq, not_false_eq_true, and_self, and_true, true_and, decide_true, decide_false, Int.reduceEq, Int.reduceLT, Int.reduceBEq, Int.reduceBNe, not_true_eq_false, undef] <;> rfl) ?_
  refine w_assoc (s_run (by simp only [runL, List.drop_succ_cons, List.drop_zero, awant_some, Option.getD_some, List.getElem?_toArray, List.getElem?_cons_succ, List.getElem?_cons_zero, Option.bind_some, b_tt, b_tf, b_ft, b_ff, Bool.not_true, Bool.not_false, List.take_succ_cons, List.take_zero, awant_none, astep, evl, put, ap_none, ap_new, ap_wr, List.length_nil, List.length_cons, Nat.add_zero, Nat.zero_add, upd_app, stepBin, abin, stepUn, stepPick, stepExtract, stepCall, if_true, if_false, reduceCtorEq, ↓reduceIte, Nat.reduceEqDiff, Nat.reduceAdd, List.map_cons, List.map_nil, Option.map_some, Option.map_none, Bool.false_eq_true, Int.reduceLE, Int.reduceToNat, ne_eq, not_false_eq_true, and_self, and_true, true_and, decide_true, decide_false, Int.reduceEq, Int.reduceLT, Int.reduceBEq, Int.reduceBNe, not_true_eq_false, undef] <;> rfl) ?_)
  refine s_for 0 l.length (fun k t g n' => ∃ ns : List Nat, l.take k = ns.map (fun (b : Nat) => (b : Int)) ∧ (∀ x ∈ ns, x ≤ 2 ^ 40) ∧ t 0 = v ∧ t 1 = .int .i64 less ∧ Own 5 g (t 5) (bs (cat ns)) n n' ∧ Kp n g2 g ∧ n ≤ n') (by omega) (by omega) (by simp [upd_app])
    ⟨[], by simp, by simp, by simp [upd_app], by simp [upd_app], by simp [upd_app, cat]; exact Own.nil 5 g2 n n, Kp.refl _ _, Nat.le_refl _⟩ ?_ ?_ ?_
  · rintro k t g n' hk t6 ⟨ns, hns, hle, t0, t1, hO, hkp, hnn⟩
    have dl : decide ((k : Int) < (l.length : Int)) = decide (k < l.length) := by simp
    exact ⟨_, (by simp only [runL, List.drop_succ_cons, List.drop_zero, awant_some, Option.getD_some, List.getElem?_toArray, List.getElem?_cons_succ, List.getElem?_cons_zero, Option.bind_some, b_tt, b_tf, b_ft, b_ff, Bool.not_true, Bool.not_false, List.take_succ_cons, List.take_zero, awant_none, astep, evl, put, ap_none, ap_new, ap_wr, List.length_nil, List.length_cons, Nat.add_zero, Nat.zero_add, upd_app, stepBin, abin, stepUn, stepPick, stepExtract, stepCall, if_true, if_false, reduceCtorEq, ↓reduceIte, Nat.reduceEqDiff, Nat.reduceAdd, List.map_cons, List.map_nil, Option.map_some, Option.map_none, Bool.false_eq_true, Int.reduceLE, Int.reduceToNat, ne_eq, not_false_eq_true, and_self, and_true, true_and, decide_true, decide_false, Int.reduceEq, Int.reduceLT, Int.reduceBEq, Int.reduceBNe, not_true_eq_false, undef, t6, t0, hlen, dl] <;> rfl), by simp [upd_app], by simp [upd_app, t6], ns, hns, hle, by simp [upd_app, t0], by simp [upd_app, t1], by simpa [upd_app] using hO, hkp, hnn⟩
  · rintro k t g n' hk t6 ⟨ns, hns, hle, t0, t1, hO, hkp, hnn⟩
    have hvg := hkp.src hv2 hdom
    obtain ⟨pa, i1, i2, _⟩ := hvg.at1 (P := Try.prog) (i := k) (c := .int .i64 l[k]) (by simp [hk]) Try.underlying36 tsize3 aggT3
    have htk := List.take_succ_eq_append_getElem hk
    generalize l[k] = x at i2 htk
    refine w_assoc ?_
    by_cases c1 : x < 0
    · have e1 : decide (x < 0) = true := decide_eq_true c1
      refine s_run (by simp only [runL, List.drop_succ_cons, List.drop_zero, awant_some, Option.getD_some, List.getElem?_toArray, List.getElem?_cons_succ, List.getElem?_cons_zero, Option.bind_some, b_tt, b_tf, b_ft, b_ff, Bool.not_true, Bool.not_false, List.take_succ_cons, List.take_zero, awant_none, astep, evl, put, ap_none, ap_new, ap_wr, List.length_nil, List.length_cons, Nat.add_zero, Nat.zero_add, upd_app, stepBin, abin, stepUn, stepPick, stepExtract, stepCall, if_true, if_false, reduceCtorEq, ↓reduceIte, Nat.reduceEqDiff, Nat.reduceAdd, List.map_cons, List.map_nil, Option.map_some, Option.map_none, Bool.false_eq_true, Int.reduceLE, Int.reduceToNat, ne_eq, not_false_eq_true, and_self, and_true, true_and, decide_true, decide_false, Int.reduceEq, Int.reduceLT, Int.reduceBEq, Int.reduceBNe, not_true_eq_false, undef, t0, t6, i1, i2, e1] <;> rfl) ?_
      refine s_true (by simp [evl, upd_app]) (w_assoc (s_run (by simp only [runL, List.drop_succ_cons, List.drop_zero, awant_some, Option.getD_some, List.getElem?_toArray, List.getElem?_cons_succ, List.getElem?_cons_zero, Option.bind_some, b_tt, b_tf, b_ft, b_ff, Bool.not_true, Bool.not_false, List.take_succ_cons, List.take_zero, awant_none, astep, evl, put, ap_none, ap_new, ap_wr, List.length_nil, List.length_cons, Nat.add_zero, Nat.zero_add, upd_app, stepBin, abin, stepUn, stepPick, stepExtract, stepCall, if_true, if_false, reduceCtorEq, ↓reduceIte, Nat.reduceEqDiff, Nat.reduceAdd, List.map_cons, List.map_nil, Option.map_some, Option.map_none, Bool.false_eq_true, Int.reduceLE, Int.reduceToNat, ne_eq, not_false_eq_true, and_self, and_true, true_and, decide_true, decide_false, Int.reduceEq, Int.reduceLT, Int.reduceBEq, Int.reduceBNe, not_true_eq_false, undef] <;> rfl) (s_ret ?_)))
      exact ⟨.inr rfl, by simp, [], fin_plain hs hwf hkp (by simp [resVal, upd_app]) trivial⟩
    have e1 : decide (x < 0) = false := decide_eq_false c1
    by_cases c2 : x > 1099511627776
    · have e2 : decide (x > 1099511627776) = true := decide_eq_true c2
      refine s_run (by simp only [runL, List.drop_succ_cons, List.drop_zero, awant_some, Option.getD_some, List.getElem?_toArray, List.getElem?_cons_succ, List.getElem?_cons_zero, Option.bind_some, b_tt, b_tf, b_ft, b_ff, Bool.not_true, Bool.not_false, List.take_succ_cons, List.take_zero, awant_none, astep, evl, put, ap_none, ap_new, ap_wr, List.length_nil, List.length_cons, Nat.add_zero, Nat.zero_add, upd_app, stepBin, abin, stepUn, stepPick, stepExtract, stepCall, if_true, if_false, reduceCtorEq, ↓reduceIte, Nat.reduceEqDiff, Nat.reduceAdd, List.map_cons, List.map_nil, Option.map_some, Option.map_none, Bool.false_eq_true, Int.reduceLE, Int.reduceToNat, ne_eq, not_false_eq_true, and_self, and_true, true_and, decide_true, decide_false, Int.reduceEq, Int.reduceLT, Int.reduceBEq, Int.reduceBNe, not_true_eq_false, undef, t0, t6, i1, i2, e1, e2] <;> rfl) ?_
      refine s_true (by simp [evl, upd_app]) (w_assoc (s_run (by simp only [runL, List.drop_succ_cons, List.drop_zero, awant_some, Option.getD_some, List.getElem?_toArray, List.getElem?_cons_succ, List.getElem?_cons_zero, Option.bind_some, b_tt, b_tf, b_ft, b_ff, Bool.not_true, Bool.not_false, List.take_succ_cons, List.take_zero, awant_none, astep, evl, put, ap_none, ap_new, ap_wr, List.length_nil, List.length_cons, Nat.add_zero, Nat.zero_add, upd_app, stepBin, abin, stepUn, stepPick, stepExtract, stepCall, if_true, if_false, reduceCtorEq, ↓reduceIte, Nat.reduceEqDiff, Nat.reduceAdd, List.map_cons, List.map_nil, Option.map_some, Option.map_none, Bool.false_eq_true, Int.reduceLE, Int.reduceToNat, ne_eq, not_false_eq_true, and_self, and_true, true_and, decide_true, decide_false, Int.reduceEq, Int.reduceLT, Int.reduceBEq, Int.reduceBNe, not_true_eq_false, undef] <;> rfl) (s_ret ?_)))
      exact ⟨.inr rfl, by simp, [], fin_plain hs hwf hkp (by simp [resVal, upd_app]) trivial⟩
    have e2 : decide (x > 1099511627776) = false := decide_eq_false c2
    obtain ⟨u, rfl⟩ : ∃ u : Nat, x = u := ⟨x.toNat, by omega⟩
    have hnl : ns.length ≤ 50 := by
      have := congrArg List.length hns
      simp at this
      omega
    have w1 : IntKind.u64.wrap (u : Int) = (u : Int) := wrapU64_of (by omega) (by omega)
    refine s_run (by simp only [runL, List.drop_succ_cons, List.drop_zero, awant_some, Option.getD_some, List.getElem?_toArray, List.getElem?_cons_succ, List.getElem?_cons_zero, Option.bind_some, b_tt, b_tf, b_ft, b_ff, Bool.not_true, Bool.not_false, List.take_succ_cons, List.take_zero, awant_none, astep, evl, put, ap_none, ap_new, ap_wr, List.length_nil, List.length_cons, Nat.add_zero, Nat.zero_add, upd_app, stepBin, abin, stepUn, stepPick, stepExtract, stepCall, if_true, if_false, reduceCtorEq, ↓reduceIte, Nat.reduceEqDiff, Nat.reduceAdd, List.map_cons, List.map_nil, Option.map_some, Option.map_none, Bool.false_eq_true, Int.reduceLE, Int.reduceToNat, ne_eq, not_false_eq_true, and_self, and_true, true_and, decide_true, decide_false, Int.reduceEq, Int.reduceLT, Int.reduceBEq, Int.reduceBNe, not_true_eq_false, undef, t0, t6, i1, i2, e1, e2] <;> rfl) ?_
    refine s_false (by simp [evl, upd_app]) (s_skip ?_)
    refine w_gen (fun t => t 6 = .int .i64 k ∧ t 0 = v ∧ t 1 = .int .i64 less ∧ Own 5 g (t 5) (bs (cat ns)) n n') (by simp [upd_app, t6, t0, t1, hO]) ?_
    clear t6 t0 t1 hO
    rintro t ⟨t6, t0, t1, hO⟩
    refine region_take (id := 9) 6 (by simp only [runL, List.drop_succ_cons, List.drop_zero, awant_some, Option.getD_some, List.getElem?_toArray, List.getElem?_cons_succ, List.getElem?_cons_zero, Option.bind_some, b_tt, b_tf, b_ft, b_ff, Bool.not_true, Bool.not_false, List.take_succ_cons, List.take_zero, awant_none, astep, evl, put, ap_none, ap_new, ap_wr, List.length_nil, List.length_cons, Nat.add_zero, Nat.zero_add, upd_app, stepBin, abin, stepUn, stepPick, stepExtract, stepCall, if_true, if_false, reduceCtorEq, ↓reduceIte, Nat.reduceEqDiff, Nat.reduceAdd, List.map_cons, List.map_nil, Option.map_some, Option.map_none, Bool.false_eq_true, Int.reduceLE, Int.reduceToNat, ne_eq, not_false_eq_true, and_self, and_true, true_and, decide_true, decide_false, Int.reduceEq, Int.reduceLT, Int.reduceBEq, Int.reduceBNe, not_true_eq_false, undef, t0, t6, i1, i2, conv3_22, w1] <;> rfl) ?_
    refine ops_call 18 _ rfl (rput_spec u (by omega) g n') (by intro _; rfl) (ops_heap fun G1 hG1 => ?_)
    have k1 : Kp n' g G1 := by rw [hG1]; exact kp_ap (Kp.refl _ _) rfl (fun _ => Nat.le_refl _)
    have b1 : G1 n' = some ⟨false, 5, bs (vput u)⟩ := by rw [hG1]; simp [ap_new, upd_app]
    have hp10 := vput_len10 u (by omega)
    have hcl := cat_len ns hle
    obtain ⟨f, hf, hO', hk'⟩ := (hO.keep k1 (Nat.le_succ n')).append (P := Try.prog) (T := 23) (y := .slice (some ⟨n', 0, some (vput u).length⟩) (vput u).length 1) (news := bs (vput u)) (by simpa using src_bs (m := (vput u).length) b1 rfl) Try.underlying23 tinf5 (by simp; omega) (by omega) (by omega)
    have hf2 : stepAppend Try.prog 23 23 (t 5) (.slice (some ⟨n', 0, some (vput u).length⟩) (vput u).length 1) G1 (n' + 1) = some f := hf
    refine ops_run (by simp only [runL, List.drop_succ_cons, List.drop_zero, awant_some, Option.getD_some, List.getElem?_toArray, List.getElem?_cons_succ, List.getElem?_cons_zero, Option.bind_some, b_tt, b_tf, b_ft, b_ff, Bool.not_true, Bool.not_false, List.take_succ_cons, List.take_zero, awant_none, astep, evl, put, ap_none, ap_new, ap_wr, List.length_nil, List.length_cons, Nat.add_zero, Nat.zero_add, upd_app, stepBin, abin, stepUn, stepPick, stepExtract, stepCall, if_true, if_false, reduceCtorEq, ↓reduceIte, Nat.reduceEqDiff, Nat.reduceAdd, List.map_cons, List.map_nil, Option.map_some, Option.map_none, Bool.false_eq_true, Int.reduceLE, Int.reduceToNat, ne_eq, not_false_eq_true, and_self, and_true, true_and, decide_true, decide_false, Int.reduceEq, Int.reduceLT, Int.reduceBEq, Int.reduceBNe, not_true_eq_false, undef, hf2] <;> rfl) ?_
    simp only [rangePost]
    refine ⟨by simp [upd_app, put, t6], fun _ _ _ => ⟨ns ++ [u], by rw [htk, hns]; simp, fun y hy => ?_, by simp [upd_app, put, t0], by simp [upd_app, put, t1], ?_, fun q hq => by rw [hk' q hq, k1 q (by omega), hkp q hq], by omega⟩⟩
    · simp at hy
      rcases hy with hy | rfl
      · exact hle y hy
      · omega
    · have : bs (cat (ns ++ [u])) = bs (cat ns) ++ bs (vput u) := by rw [bs_app]; simp [cat]
      rw [this]
      simpa [upd_app, put] using hO'
  · rintro t g n' ⟨ns, hns, hle, t0, t1, hO, hkp, hnn⟩
    rw [List.take_length] at hns
    have hnl : ns.length = l.length := by rw [hns]; simp
    have hcl := cat_len ns hle
    have hsr := hO.src
    rw [show (bs (cat ns)).length = (cat ns).length by simp] at hsr
    refine s_take 1 (by simp only [runL, List.drop_succ_cons, List.drop_zero, awant_some, Option.getD_some, List.getElem?_toArray, List.getElem?_cons_succ, List.getElem?_cons_zero, Option.bind_some, b_tt, b_tf, b_ft, b_ff, Bool.not_true, Bool.not_false, List.take_succ_cons, List.take_zero, awant_none, astep, evl, put, ap_none, ap_new, ap_wr, List.length_nil, List.length_cons, Nat.add_zero, Nat.zero_add, upd_app, stepBin, abin, stepUn, stepPick, stepExtract, stepCall, if_true, if_false, reduceCtorEq, ↓reduceIte, Nat.reduceEqDiff, Nat.reduceAdd, List.map_cons, List.map_nil, Option.map_some, Option.map_none, Bool.false_eq_true, Int.reduceLE, Int.reduceToNat, ne_eq, not_false_eq_true, and_self, and_true, true_and, decide_true, decide_false, Int.reduceEq, Int.reduceLT, Int.reduceBEq, Int.reduceBNe, not_true_eq_false, undef] <;> rfl) ?_
    obtain ⟨u1, u2, u3, u4, u5, vc, u6, u7⟩ := cnewE_use n' hsr
    have hc : FnSpec Try.prog 30 [t 5] g (cnewE (t 5) (cat ns) n') := cnew_spec _ (cat ns) g n' (by omega) hsr
    refine ops_call 30 _ rfl hc (by intro _; exact u2) (ops_heap fun G2 hG2 => ops_num fun N2 hN2 => ?_)
    rw [← hG2] at u4 u6
    rw [← hN2] at u5
    rw [u1]
    refine ops_run (by simp only [runL, List.drop_succ_cons, List.drop_zero, awant_some, Option.getD_some, List.getElem?_toArray, List.getElem?_cons_succ, List.getElem?_cons_zero, Option.bind_some, b_tt, b_tf, b_ft, b_ff, Bool.not_true, Bool.not_false, List.take_succ_cons, List.take_zero, awant_none, astep, evl, put, ap_none, ap_new, ap_wr, List.length_nil, List.length_cons, Nat.add_zero, Nat.zero_add, upd_app, stepBin, abin, stepUn, stepPick, stepExtract, stepCall, if_true, if_false, reduceCtorEq, ↓reduceIte, Nat.reduceEqDiff, Nat.reduceAdd, List.map_cons, List.map_nil, Option.map_some, Option.map_none, Bool.false_eq_true, Int.reduceLE, Int.reduceToNat, ne_eq, not_false_eq_true, and_self, and_true, true_and, decide_true, decide_false, Int.reduceEq, Int.reduceLT, Int.reduceBEq, Int.reduceBNe, not_true_eq_false, undef] <;> rfl) ?_
    refine w_gen (fun t => t 0 = v ∧ t 1 = .int .i64 less ∧ t 7 = pt1 n') (by simp [upd_app, put, t0, t1]) ?_
    clear t0 t1 hO
    rintro t ⟨t0, t1, t7⟩
    have hk2 : Kp n g2 G2 := hkp.trans u4 hnn
    refine w_assoc (s_run (by simp only [runL, List.drop_succ_cons, List.drop_zero, awant_some, Option.getD_some, List.getElem?_toArray, List.getElem?_cons_succ, List.getElem?_cons_zero, Option.bind_some, b_tt, b_tf, b_ft, b_ff, Bool.not_true, Bool.not_false, List.take_succ_cons, List.take_zero, awant_none, astep, evl, put, ap_none, ap_new, ap_wr, List.length_nil, List.length_cons, Nat.add_zero, Nat.zero_add, upd_app, stepBin, abin, stepUn, stepPick, stepExtract, stepCall, if_true, if_false, reduceCtorEq, ↓reduceIte, Nat.reduceEqDiff, Nat.reduceAdd, List.map_cons, List.map_nil, Option.map_some, Option.map_none, Bool.false_eq_true, Int.reduceLE, Int.reduceToNat, ne_eq, not_false_eq_true, and_self, and_true, true_and, decide_true, decide_false, Int.reduceEq, Int.reduceLT, Int.reduceBEq, Int.reduceBNe, not_true_eq_false, undef] <;> rfl) ?_)
    refine s_for 0 l.length (fun k t g _ => t 0 = v ∧ t 1 = .int .i64 less ∧ t 7 = pt1 n' ∧ Kp n g2 g ∧ ∃ vc, Cu 68 g n' vc (cat (ns.drop k))) (by omega) (by omega) (by simp [upd_app]) ⟨by simp [upd_app, t0], by simp [upd_app, t1], by simp [upd_app, t7], hk2, vc, by simpa using u6⟩ ?_ ?_ ?_
    · clear t0 t1 t7
      rintro k t g m hk t8 ⟨t0, t1, t7, hkp, hC⟩
      have dl : decide ((k : Int) < (l.length : Int)) = decide (k < l.length) := by simp
      exact ⟨_, (by simp only [runL, List.drop_succ_cons, List.drop_zero, awant_some, Option.getD_some, List.getElem?_toArray, List.getElem?_cons_succ, List.getElem?_cons_zero, Option.bind_some, b_tt, b_tf, b_ft, b_ff, Bool.not_true, Bool.not_false, List.take_succ_cons, List.take_zero, awant_none, astep, evl, put, ap_none, ap_new, ap_wr, List.length_nil, List.length_cons, Nat.add_zero, Nat.zero_add, upd_app, stepBin, abin, stepUn, stepPick, stepExtract, stepCall, if_true, if_false, reduceCtorEq, ↓reduceIte, Nat.reduceEqDiff, Nat.reduceAdd, List.map_cons, List.map_nil, Option.map_some, Option.map_none, Bool.false_eq_true, Int.reduceLE, Int.reduceToNat, ne_eq, not_false_eq_true, and_self, and_true, true_and, decide_true, decide_false, Int.reduceEq, Int.reduceLT, Int.reduceBEq, Int.reduceBNe, not_true_eq_false, undef, t8, t0, t7, hlen, dl, Try.underlying43, Option.isNone_some] <;> rfl), by simp [upd_app], by simp [upd_app, t8], by simp [upd_app, t0], by simp [upd_app, t1], by simp [upd_app, t7], hkp, hC⟩
    · clear t0 t1 t7
      rintro k t g m hk t8 ⟨t0, t1, t7, hkp, vc, hC⟩
      have hvg := hkp.src hv2 hdom
      have hkn : k < ns.length := by omega
      obtain ⟨pa, i1, i2, _⟩ := hvg.at1 (P := Try.prog) (i := k) (c := .int .i64 (ns[k] : Nat)) (by rw [hns]; simp only [List.getElem?_map, List.getElem?_eq_getElem hkn, Option.map_some]) Try.underlying36 tsize3 aggT3
      have hdr : cat (ns.drop k) = vput ns[k] ++ cat (ns.drop (k + 1)) := by rw [List.drop_eq_getElem_cons hkn]; simp only [cat, List.flatMap_cons]
      have hx := hle ns[k] (List.getElem_mem hkn)
      generalize ns[k] = x at i2 hdr hx
      rw [hdr] at hC
      have hc256 := cat_256 (ns.drop (k + 1))
      have hc256' : ∀ y ∈ vput x ++ cat (ns.drop (k + 1)), y < 256 := fun y hy => by
        rcases List.mem_append.1 hy with hy | hy
        · exact vput_256 x y hy
        · exact hc256 y hy
      have hlen' : (vput x ++ cat (ns.drop (k + 1))).length ≤ 2 ^ 40 := by
        have h1 := cat_len (ns.drop (k + 1)) fun y hy => hle y (List.mem_of_mem_drop hy)
        have h2 := vput_len10 x (by omega)
        simp only [List.length_append, List.length_drop] at h1 ⊢
        omega
      have w1 : IntKind.i64.wrap ((x : Int) - less) = (x : Int) - less := wrap64_of (by omega) (by omega)
      refine s_take 7 (by simp only [runL, List.drop_succ_cons, List.drop_zero, awant_some, Option.getD_some, List.getElem?_toArray, List.getElem?_cons_succ, List.getElem?_cons_zero, Option.bind_some, b_tt, b_tf, b_ft, b_ff, Bool.not_true, Bool.not_false, List.take_succ_cons, List.take_zero, awant_none, astep, evl, put, ap_none, ap_new, ap_wr, List.length_nil, List.length_cons, Nat.add_zero, Nat.zero_add, upd_app, stepBin, abin, stepUn, stepPick, stepExtract, stepCall, if_true, if_false, reduceCtorEq, ↓reduceIte, Nat.reduceEqDiff, Nat.reduceAdd, List.map_cons, List.map_nil, Option.map_some, Option.map_none, Bool.false_eq_true, Int.reduceLE, Int.reduceToNat, ne_eq, not_false_eq_true, and_self, and_true, true_and, decide_true, decide_false, Int.reduceEq, Int.reduceLT, Int.reduceBEq, Int.reduceBNe, not_true_eq_false, undef, t0, t1, t7, t8, i1, i2, w1] <;> rfl) ?_
      have hn1 := cvar_cat hx (cat (ns.drop (k + 1))) hc256 ((x : Int) - less)
      rw [if_pos (by omega)] at hn1
      have hs1 := cvarint_spec n' vc _ ((x : Int) - less) g m hlen' hc256' (by omega) hC
      rw [cvarE_none hn1] at hs1
      refine ops_call 31 _ rfl hs1 (by intro h; exact (h rfl).elim) ?_
      refine ops_run (by simp only [runL, List.drop_succ_cons, List.drop_zero, awant_some, Option.getD_some, List.getElem?_toArray, List.getElem?_cons_succ, List.getElem?_cons_zero, Option.bind_some, b_tt, b_tf, b_ft, b_ff, Bool.not_true, Bool.not_false, List.take_succ_cons, List.take_zero, awant_none, astep, evl, put, ap_none, ap_new, ap_wr, List.length_nil, List.length_cons, Nat.add_zero, Nat.zero_add, upd_app, stepBin, abin, stepUn, stepPick, stepExtract, stepCall, if_true, if_false, reduceCtorEq, ↓reduceIte, Nat.reduceEqDiff, Nat.reduceAdd, List.map_cons, List.map_nil, Option.map_some, Option.map_none, Bool.false_eq_true, Int.reduceLE, Int.reduceToNat, ne_eq, not_false_eq_true, and_self, and_true, true_and, decide_true, decide_false, Int.reduceEq, Int.reduceLT, Int.reduceBEq, Int.reduceBNe, not_true_eq_false, undef] <;> rfl) ?_
      refine w_gen (fun t => t 0 = v ∧ t 1 = .int .i64 less ∧ t 7 = pt1 n' ∧ t 8 = .int .i64 k ∧ t 10 = .bool false) (by simp [upd_app, put, t0, t1, t7, t8]) ?_
      clear t0 t1 t7 t8
      rintro t ⟨t0, t1, t7, t8, t10⟩
      refine s_take 5 (by simp only [runL, List.drop_succ_cons, List.drop_zero, awant_some, Option.getD_some, List.getElem?_toArray, List.getElem?_cons_succ, List.getElem?_cons_zero, Option.bind_some, b_tt, b_tf, b_ft, b_ff, Bool.not_true, Bool.not_false, List.take_succ_cons, List.take_zero, awant_none, astep, evl, put, ap_none, ap_new, ap_wr, List.length_nil, List.length_cons, Nat.add_zero, Nat.zero_add, upd_app, stepBin, abin, stepUn, stepPick, stepExtract, stepCall, if_true, if_false, reduceCtorEq, ↓reduceIte, Nat.reduceEqDiff, Nat.reduceAdd, List.map_cons, List.map_nil, Option.map_some, Option.map_none, Bool.false_eq_true, Int.reduceLE, Int.reduceToNat, ne_eq, not_false_eq_true, and_self, and_true, true_and, decide_true, decide_false, Int.reduceEq, Int.reduceLT, Int.reduceBEq, Int.reduceBNe, not_true_eq_false, undef, t0, t7, t8, i1, i2] <;> rfl) ?_
      have hn2 := cvar_cat hx (cat (ns.drop (k + 1))) hc256 (x : Int)
      rw [if_neg (by omega)] at hn2
      have hs2 := cvarint_spec n' vc _ (x : Int) g m hlen' hc256' (by omega) hC
      obtain ⟨q1, q2, q3⟩ := cvarE_some (j := m) hC hn2
      refine ops_call 31 _ rfl hs2 (by intro h; exact (h cvarE_a).elim) (ops_heap fun G3 hG3 => ?_)
      rw [← hG3] at q2 q3
      rw [q1]
      have hk3 : Kp n g2 G3 := fun q hq => by rw [q3 q (by omega), hkp q hq]
      obtain ⟨pa2, j1, j2, _⟩ := (hk3.src hv2 hdom).at1 (P := Try.prog) (i := k) (c := l.map (Value.int .i64) |>.getD k undef) (by simp [List.getD, hk]) Try.underlying36 tsize3 aggT3
      have hpa : pa2 = pa := by have := (i1 .i64).symm.trans (j1 .i64); simpa using this.symm
      subst hpa
      have i2' : stepLoad Try.prog 3 (.pointer (some pa2)) G3 = some { v := .int .i64 x, r := [pa2.block] } := by
        have e1 : stepLoad Try.prog 3 (.pointer (some pa2)) G3 = stepLoad Try.prog 3 (.pointer (some pa2)) g := by
          have hb : pa2.block < n := hdom _ (by assumption)
          simp only [stepLoad, rd_congr (show G3 pa2.block = g pa2.block from q3 _ (by omega))]
        rw [e1]; exact i2
      refine ops_run (by simp only [runL, List.drop_succ_cons, List.drop_zero, awant_some, Option.getD_some, List.getElem?_toArray, List.getElem?_cons_succ, List.getElem?_cons_zero, Option.bind_some, b_tt, b_tf, b_ft, b_ff, Bool.not_true, Bool.not_false, List.take_succ_cons, List.take_zero, awant_none, astep, evl, put, ap_none, ap_new, ap_wr, List.length_nil, List.length_cons, Nat.add_zero, Nat.zero_add, upd_app, stepBin, abin, stepUn, stepPick, stepExtract, stepCall, if_true, if_false, reduceCtorEq, ↓reduceIte, Nat.reduceEqDiff, Nat.reduceAdd, List.map_cons, List.map_nil, Option.map_some, Option.map_none, Bool.false_eq_true, Int.reduceLE, Int.reduceToNat, ne_eq, not_false_eq_true, and_self, and_true, true_and, decide_true, decide_false, Int.reduceEq, Int.reduceLT, Int.reduceBEq, Int.reduceBNe, not_true_eq_false, undef] <;> rfl) ?_
      refine w_gen (fun t => t 0 = v ∧ t 1 = .int .i64 less ∧ t 7 = pt1 n' ∧ t 8 = .int .i64 k ∧ t 10 = .bool false ∧ t 11 = .int .i64 x ∧ t 12 = .bool true) (by simp [upd_app, put, t0, t1, t7, t8, t10]) ?_
      clear t0 t1 t7 t8 t10
      rintro t ⟨t0, t1, t7, t8, t10, t11, t12⟩
      refine s_run (by simp only [runL, List.drop_succ_cons, List.drop_zero, awant_some, Option.getD_some, List.getElem?_toArray, List.getElem?_cons_succ, List.getElem?_cons_zero, Option.bind_some, b_tt, b_tf, b_ft, b_ff, Bool.not_true, Bool.not_false, List.take_succ_cons, List.take_zero, awant_none, astep, evl, put, ap_none, ap_new, ap_wr, List.length_nil, List.length_cons, Nat.add_zero, Nat.zero_add, upd_app, stepBin, abin, stepUn, stepPick, stepExtract, stepCall, if_true, if_false, reduceCtorEq, ↓reduceIte, Nat.reduceEqDiff, Nat.reduceAdd, List.map_cons, List.map_nil, Option.map_some, Option.map_none, Bool.false_eq_true, Int.reduceLE, Int.reduceToNat, ne_eq, not_false_eq_true, and_self, and_true, true_and, decide_true, decide_false, Int.reduceEq, Int.reduceLT, Int.reduceBEq, Int.reduceBNe, not_true_eq_false, undef, t0, t8, t10, t11, t12, i1, i2', ine_f (rfl : (x : Int) = (x : Int))] <;> rfl) ?_
      refine w_false (by simp [evl, upd_app]) (w_skip ?_)
      simp only [rangePost]
      rw [List.drop_left] at q2
      exact ⟨by simp [upd_app, t8], fun _ _ _ => ⟨by simp [upd_app, t0], by simp [upd_app, t1], by simp [upd_app, t7], hk3, _, q2⟩⟩
    · clear t0 t1 t7
      rintro t g m ⟨t0, t1, t7, hkp, vc, hC⟩
      rw [← hnl, List.drop_length] at hC
      refine s_take 4 (by simp only [runL, List.drop_succ_cons, List.drop_zero, awant_some, Option.getD_some, List.getElem?_toArray, List.getElem?_cons_succ, List.getElem?_cons_zero, Option.bind_some, b_tt, b_tf, b_ft, b_ff, Bool.not_true, Bool.not_false, List.take_succ_cons, List.take_zero, awant_none, astep, evl, put, ap_none, ap_new, ap_wr, List.length_nil, List.length_cons, Nat.add_zero, Nat.zero_add, upd_app, stepBin, abin, stepUn, stepPick, stepExtract, stepCall, if_true, if_false, reduceCtorEq, ↓reduceIte, Nat.reduceEqDiff, Nat.reduceAdd, List.map_cons, List.map_nil, Option.map_some, Option.map_none, Bool.false_eq_true, Int.reduceLE, Int.reduceToNat, ne_eq, not_false_eq_true, and_self, and_true, true_and, decide_true, decide_false, Int.reduceEq, Int.reduceLT, Int.reduceBEq, Int.reduceBNe, not_true_eq_false, undef, t7, Try.underlying43, Option.isNone_some] <;> rfl) ?_
      refine g_call 32 _ (by simp only [runL, List.drop_succ_cons, List.drop_zero, awant_some, Option.getD_some, List.getElem?_toArray, List.getElem?_cons_succ, List.getElem?_cons_zero, Option.bind_some, b_tt, b_tf, b_ft, b_ff, Bool.not_true, Bool.not_false, List.take_succ_cons, List.take_zero, awant_none, astep, evl, put, ap_none, ap_new, ap_wr, List.length_nil, List.length_cons, Nat.add_zero, Nat.zero_add, upd_app, stepBin, abin, stepUn, stepPick, stepExtract, stepCall, if_true, if_false, reduceCtorEq, ↓reduceIte, Nat.reduceEqDiff, Nat.reduceAdd, List.map_cons, List.map_nil, Option.map_some, Option.map_none, Bool.false_eq_true, Int.reduceLE, Int.reduceToNat, ne_eq, not_false_eq_true, and_self, and_true, true_and, decide_true, decide_false, Int.reduceEq, Int.reduceLT, Int.reduceBEq, Int.reduceBNe, not_true_eq_false, undef] <;> rfl) rfl (cleft_spec n' _ _ g hC) (by simp) ?_
      have d2 : (((cat []).length : Int) == 0) = true := rfl
      refine ops_take 3 (by simp only [runL, List.drop_succ_cons, List.drop_zero, awant_some, Option.getD_some, List.getElem?_toArray, List.getElem?_cons_succ, List.getElem?_cons_zero, Option.bind_some, b_tt, b_tf, b_ft, b_ff, Bool.not_true, Bool.not_false, List.take_succ_cons, List.take_zero, awant_none, astep, evl, put, ap_none, ap_new, ap_wr, List.length_nil, List.length_cons, Nat.add_zero, Nat.zero_add, upd_app, stepBin, abin, stepUn, stepPick, stepExtract, stepCall, if_true, if_false, reduceCtorEq, ↓reduceIte, Nat.reduceEqDiff, Nat.reduceAdd, List.map_cons, List.map_nil, Option.map_some, Option.map_none, Bool.false_eq_true, Int.reduceLE, Int.reduceToNat, ne_eq, not_false_eq_true, and_self, and_true, true_and, decide_true, decide_false, Int.reduceEq, Int.reduceLT, Int.reduceBEq, Int.reduceBNe, not_true_eq_false, undef, d2] <;> rfl) ?_
      refine g_call 33 _ (by simp only [runL, List.drop_succ_cons, List.drop_zero, awant_some, Option.getD_some, List.getElem?_toArray, List.getElem?_cons_succ, List.getElem?_cons_zero, Option.bind_some, b_tt, b_tf, b_ft, b_ff, Bool.not_true, Bool.not_false, List.take_succ_cons, List.take_zero, awant_none, astep, evl, put, ap_none, ap_new, ap_wr, List.length_nil, List.length_cons, Nat.add_zero, Nat.zero_add, upd_app, stepBin, abin, stepUn, stepPick, stepExtract, stepCall, if_true, if_false, reduceCtorEq, ↓reduceIte, Nat.reduceEqDiff, Nat.reduceAdd, List.map_cons, List.map_nil, Option.map_some, Option.map_none, Bool.false_eq_true, Int.reduceLE, Int.reduceToNat, ne_eq, not_false_eq_true, and_self, and_true, true_and, decide_true, decide_false, Int.reduceEq, Int.reduceLT, Int.reduceBEq, Int.reduceBNe, not_true_eq_false, undef] <;> rfl) rfl (ckn_spec _) (by simp) ?_
      refine ops_run (by simp only [runL, List.drop_succ_cons, List.drop_zero, awant_some, Option.getD_some, List.getElem?_toArray, List.getElem?_cons_succ, List.getElem?_cons_zero, Option.bind_some, b_tt, b_tf, b_ft, b_ff, Bool.not_true, Bool.not_false, List.take_succ_cons, List.take_zero, awant_none, astep, evl, put, ap_none, ap_new, ap_wr, List.length_nil, List.length_cons, Nat.add_zero, Nat.zero_add, upd_app, stepBin, abin, stepUn, stepPick, stepExtract, stepCall, if_true, if_false, reduceCtorEq, ↓reduceIte, Nat.reduceEqDiff, Nat.reduceAdd, List.map_cons, List.map_nil, Option.map_some, Option.map_none, Bool.false_eq_true, Int.reduceLE, Int.reduceToNat, ne_eq, not_false_eq_true, and_self, and_true, true_and, decide_true, decide_false, Int.reduceEq, Int.reduceLT, Int.reduceBEq, Int.reduceBNe, not_true_eq_false, undef] <;> rfl) ?_
      exact w_ret ⟨.inr rfl, by simp, [], fin_plain hs hwf hkp (by simp [resVal, upd_app]) trivial⟩
end Go.Proofs.Ytokmmcfnpobldaa

namespace Go.Proofs.Ytokmmcfnpobldaa
open Go Abs
set_option linter.unusedSimpArgs false
set_option linter.unusedVariables false

set_option maxRecDepth 10000 in
theorem lawCWhole_spec (v w : Value) (l : List Nat) (ps : List Int) (g : Heap) (hb : ∀ x ∈ l, x < 256) (hps : ∀ x ∈ ps, -9223372036854775808 ≤ x ∧ x ≤ 9223372036854775807) (hv : Src g v 1 l.length (bs l)) (hw : Src g w 1 ps.length (ps.map (Value.int .i64))) :
    FnSpec Try.prog 14 [v, w] g { v := .bool true, r := srcBlk v ++ srcBlk w } := by
  refine spec_of_body [4] follows Try.func14 rfl (by kernel_rfl) (by simp [Try.f14]) (by kernel_rfl) rfl ?_
  intro g2 s2 n hg hfr hs hn hwf hsv
  have hv2 : Src g2 v 1 l.length (bs l) := hv.congr fun i hi => hg i (by simp [Eff.fp, hi])
  have hw2 : Src g2 w 1 ps.length (ps.map (Value.int .i64)) := hw.congr fun i hi => hg i (by simp [Eff.fp, hi])
  have hlen := hv2.len Try.underlying23
  have hlenw := hw2.len Try.underlying36
  have hdom : ∀ i ∈ srcBlk v, i < n := fun i hi => by
    obtain ⟨b, hb⟩ := Option.isSome_iff_exists.1 (hv2.dom i hi)
    exact hs i (hwf i b hb).1
  have hdomw : ∀ i ∈ srcBlk w, i < n := fun i hi => by
    obtain ⟨b, hb⟩ := Option.isSome_iff_exists.1 (hw2.dom i hi)
    exact hs i (hwf i b hb).1
  refine s_run (by simp only [runL, List.drop_succ_cons, List.drop_zero, awant_some, Option.getD_some, List.getElem?_toArray, List.getElem?_cons_succ, List.getElem?_cons_zero, Option.bind_some, b_tt, b_tf, b_ft, b_ff, Bool.not_true, Bool.not_false, List.take_succ_cons, List.take_zero, awant_none, astep, evl, put, ap_none, ap_new, ap_wr, List.length_nil, List.length_cons, Nat.add_zero, Nat.zero_add, upd_app, stepBin, abin, stepUn, stepPick, stepExtract, stepCall, if_true, if_false, reduceCtorEq, ↓reduceIte, Nat.reduceEqDiff, Nat.reduceAdd, List.map_cons, List.map_nil, Option.map_some, Option.map_none, Bool.false_eq_true, Int.reduceLE, Int.reduceToNat, ne_eq, not_false_eq_true, and_self, and_true, true_and, decide_true, decide_false, Int.reduceEq, Int.reduceLT, Int.reduceBEq, Int.reduceBNe, not_true_eq_false, undef] <;> rfl) ?_
  by_cases ea1 : (l.length : Int) > 200
  · have ed1 : (decide ((l.length : Int) > 200)) = true := decide_eq_true ea1
    refine w_assoc (s_run (by simp only [runL, List.drop_succ_cons, List.drop_zero, awant_some, Option.getD_some, List.getElem?_toArray, List.getElem?_cons_succ, List.getElem?_cons_zero, Option.bind_some, b_tt, b_tf, b_ft, b_ff, Bool.not_true, Bool.not_false, List.take_succ_cons, List.take_zero, awant_none, astep, evl, put, ap_none, ap_new, ap_wr, List.length_nil, List.length_cons, Nat.add_zero, Nat.zero_add, upd_app, stepBin, abin, stepUn, stepPick, stepExtract, stepCall, if_true, if_false, reduceCtorEq, ↓reduceIte, Nat.reduceEqDiff, Nat.reduceAdd, List.map_cons, List.map_nil, Option.map_some, Option.map_none, Bool.false_eq_true, Int.reduceLE, Int.reduceToNat, ne_eq, not_false_eq_true, and_self, and_true, true_and, decide_true, decide_false, Int.reduceEq, Int.reduceLT, Int.reduceBEq, Int.reduceBNe, not_true_eq_false, undef, hlen, hlenw, ed1] <;> rfl) ?_)
    refine s_true (by simp [evl, upd_app]) (w_assoc (s_run (by simp only [runL, List.drop_succ_cons, List.drop_zero, awant_some, Option.getD_some, List.getElem?_toArray, List.getElem?_cons_succ, List.getElem?_cons_zero, Option.bind_some, b_tt, b_tf, b_ft, b_ff, Bool.not_true, Bool.not_false, List.take_succ_cons, List.take_zero, awant_none, astep, evl, put, ap_none, ap_new, ap_wr, List.length_nil, List.length_cons, Nat.add_zero, Nat.zero_add, upd_app, stepBin, abin, stepUn, stepPick, stepExtract, stepCall, if_true, if_false, reduceCtorEq, ↓reduceIte, Nat.reduceEqDiff, Nat.reduceAdd, List.map_cons, List.map_nil, Option.map_some, Option.map_none, Bool.false_eq_true, Int.reduceLE, Int.reduceToNat, ne_eq, not_false_eq_true, and_self, and_true, true_and, decide_true, decide_false, Int.reduceEq, Int.reduceLT, Int.reduceBEq, Int.reduceBNe, not_true_eq_false, undef] <;> rfl) ?_))
    refine s_ret ⟨.inr rfl, by simp, [], fin_none ?_ trivial (fun _ _ h => h)⟩
    simp [resVal, upd_app]
  have ed1 : (decide ((l.length : Int) > 200)) = false := decide_eq_false ea1
  by_cases ea2 : (ps.length : Int) > 50
  · have ed2 : (decide ((ps.length : Int) > 50)) = true := decide_eq_true ea2
    refine w_assoc (s_run (by simp only [runL, List.drop_succ_cons, List.drop_zero, awant_some, Option.getD_some, List.getElem?_toArray, List.getElem?_cons_succ, List.getElem?_cons_zero, Option.bind_some, b_tt, b_tf, b_ft, b_ff, Bool.not_true, Bool.not_false, List.take_succ_cons, List.take_zero, awant_none, astep, evl, put, ap_none, ap_new, ap_wr, List.length_nil, List.length_cons, Nat.add_zero, Nat.zero_add, upd_app, stepBin, abin, stepUn, stepPick, stepExtract, stepCall, if_true, if_false, reduceCtorEq, ↓reduceIte, Nat.reduceEqDiff, Nat.reduceAdd, List.map_cons, List.map_nil, Option.map_some, Option.map_none, Bool.false_eq_true, Int.reduceLE, Int.reduceToNat, ne_eq, not_false_eq_true, and_self, and_true, true_and, decide_true, decide_false, Int.reduceEq, Int.reduceLT, Int.reduceBEq, Int.reduceBNe, not_true_eq_false, undef, hlen, hlenw, ed1, ed2] <;> rfl) ?_)
    refine s_true (by simp [evl, upd_app]) (w_assoc (s_run (by simp only [runL, List.drop_succ_cons, List.drop_zero, awant_some, Option.getD_some, List.getElem?_toArray, List.getElem?_cons_succ, List.getElem?_cons_zero, Option.bind_some, b_tt, b_tf, b_ft, b_ff, Bool.not_true, Bool.not_false, List.take_succ_cons, List.take_zero, awant_none, astep, evl, put, ap_none, ap_new, ap_wr, List.length_nil, List.length_cons, Nat.add_zero, Nat.zero_add, upd_app, stepBin, abin, stepUn, stepPick, stepExtract, stepCall, if_true, if_false, reduceCtorEq, ↓reduceIte, Nat.reduceEqDiff, Nat.reduceAdd, List.map_cons, List.map_nil, Option.map_some, Option.map_none, Bool.false_eq_true, Int.reduceLE, Int.reduceToNat, ne_eq, not_false_eq_true, and_self, and_true, true_and, decide_true, decide_false, Int.reduceEq, Int.reduceLT, Int.reduceBEq, Int.reduceBNe, not_true_eq_false, undef] <;> rfl) ?_))
    refine s_ret ⟨.inr rfl, by simp, [], fin_none ?_ trivial (fun _ _ h => h)⟩
    simp [resVal, upd_app]
  have ed2 : (decide ((ps.length : Int) > 50)) = false := decide_eq_false ea2
  refine w_assoc (s_run (by simp only [runL, List.drop_succ_cons, List.drop_zero, awant_some, Option.getD_some, List.getElem?_toArray, List.getElem?_cons_succ, List.getElem?_cons_zero, Option.bind_some, b_tt, b_tf, b_ft, b_ff, Bool.not_true, Bool.not_false, List.take_succ_cons, List.take_zero, awant_none, astep, evl, put, ap_none, ap_new, ap_wr, List.length_nil, List.length_cons, Nat.add_zero, Nat.zero_add, upd_app, stepBin, abin, stepUn, stepPick, stepExtract, stepCall, if_true, if_false, reduceCtorEq, ↓reduceIte, Nat.reduceEqDiff, Nat.reduceAdd, List.map_cons, List.map_nil, Option.map_some, Option.map_none, Bool.false_eq_true, Int.reduceLE, Int.reduceToNat, ne_eq, not_false_eq_true, and_self, and_true, true_and, decide_true, decide_false, Int.reduceEq, Int.reduceLT, Int.reduceBEq, Int.reduceBNe, not_true_eq_false, undef, hlen, hlenw, ed1, ed2] <;> rfl) ?_)
  refine s_false (by simp [evl, upd_app]) (s_skip ?_)
  refine w_gen (fun t => t 0 = v ∧ t 1 = w) (by simp [upd_app]) ?_
  rintro t ⟨t0, t1⟩
  refine s_take 1 (by simp only [runL, List.drop_succ_cons, List.drop_zero, awant_some, Option.getD_some, List.getElem?_toArray, List.getElem?_cons_succ, List.getElem?_cons_zero, Option.bind_some, b_tt, b_tf, b_ft, b_ff, Bool.not_true, Bool.not_false, List.take_succ_cons, List.take_zero, awant_none, astep, evl, put, ap_none, ap_new, ap_wr, List.length_nil, List.length_cons, Nat.add_zero, Nat.zero_add, upd_app, stepBin, abin, stepUn, stepPick, stepExtract, stepCall, if_true, if_false, reduceCtorEq, ↓reduceIte, Nat.reduceEqDiff, Nat.reduceAdd, List.map_cons, List.map_nil, Option.map_some, Option.map_none, Bool.false_eq_true, Int.reduceLE, Int.reduceToNat, ne_eq, not_false_eq_true, and_self, and_true, true_and, decide_true, decide_false, Int.reduceEq, Int.reduceLT, Int.reduceBEq, Int.reduceBNe, not_true_eq_false, undef, t0] <;> rfl) ?_
  obtain ⟨u1, u2, u3, u4, u5, vc, u6, u7⟩ := cnewE_use n hv2
  have hc : FnSpec Try.prog 30 [v] g2 (cnewE v l n) := cnew_spec v l g2 n (by omega) hv2
  refine ops_call 30 _ rfl hc (by intro _; exact u2) (ops_heap fun G1 hG1 => ops_num fun N1 hN1 => ?_)
  rw [← hG1] at u4 u6
  rw [← hN1] at u5 u7
  rw [u1]
  refine ops_run (by simp only [runL, List.drop_succ_cons, List.drop_zero, awant_some, Option.getD_some, List.getElem?_toArray, List.getElem?_cons_succ, List.getElem?_cons_zero, Option.bind_some, b_tt, b_tf, b_ft, b_ff, Bool.not_true, Bool.not_false, List.take_succ_cons, List.take_zero, awant_none, astep, evl, put, ap_none, ap_new, ap_wr, List.length_nil, List.length_cons, Nat.add_zero, Nat.zero_add, upd_app, stepBin, abin, stepUn, stepPick, stepExtract, stepCall, if_true, if_false, reduceCtorEq, ↓reduceIte, Nat.reduceEqDiff, Nat.reduceAdd, List.map_cons, List.map_nil, Option.map_some, Option.map_none, Bool.false_eq_true, Int.reduceLE, Int.reduceToNat, ne_eq, not_false_eq_true, and_self, and_true, true_and, decide_true, decide_false, Int.reduceEq, Int.reduceLT, Int.reduceBEq, Int.reduceBNe, not_true_eq_false, undef] <;> rfl) ?_
  refine w_assoc (s_run (by simp only [runL, List.drop_succ_cons, List.drop_zero, awant_some, Option.getD_some, List.getElem?_toArray, List.getElem?_cons_succ, List.getElem?_cons_zero, Option.bind_some, b_tt, b_tf, b_ft, b_ff, Bool.not_true, Bool.not_false, List.take_succ_cons, List.take_zero, awant_none, astep, evl, put, ap_none, ap_new, ap_wr, List.length_nil, List.length_cons, Nat.add_zero, Nat.zero_add, upd_app, stepBin, abin, stepUn, stepPick, stepExtract, stepCall, if_true, if_false, reduceCtorEq, ↓reduceIte, Nat.reduceEqDiff, Nat.reduceAdd, List.map_cons, List.map_nil, Option.map_some, Option.map_none, Bool.false_eq_true, Int.reduceLE, Int.reduceToNat, ne_eq, not_false_eq_true, and_self, and_true, true_and, decide_true, decide_false, Int.reduceEq, Int.reduceLT, Int.reduceBEq, Int.reduceBNe, not_true_eq_false, undef, Try.underlying43, Option.isNone_some] <;> rfl) ?_)
  refine s_false (by simp [evl, upd_app]) (s_skip ?_)
  refine w_gen (fun t => t 0 = v ∧ t 1 = w ∧ t 5 = pt1 n) (by simp [upd_app, put, t0, t1]) ?_
  clear t0 t1
  rintro t ⟨t0, t1, t5⟩
  refine s_run (by simp only [runL, List.drop_succ_cons, List.drop_zero, awant_some, Option.getD_some, List.getElem?_toArray, List.getElem?_cons_succ, List.getElem?_cons_zero, Option.bind_some, b_tt, b_tf, b_ft, b_ff, Bool.not_true, Bool.not_false, List.take_succ_cons, List.take_zero, awant_none, astep, evl, put, ap_none, ap_new, ap_wr, List.length_nil, List.length_cons, Nat.add_zero, Nat.zero_add, upd_app, stepBin, abin, stepUn, stepPick, stepExtract, stepCall, if_true, if_false, reduceCtorEq, ↓reduceIte, Nat.reduceEqDiff, Nat.reduceAdd, List.map_cons, List.map_nil, Option.map_some, Option.map_none, Bool.false_eq_true, Int.reduceLE, Int.reduceToNat, ne_eq, not_false_eq_true, and_self, and_true, true_and, decide_true, decide_false, Int.reduceEq, Int.reduceLT, Int.reduceBEq, Int.reduceBNe, not_true_eq_false, undef] <;> rfl) ?_
  refine w_assoc (s_run (by simp only [runL, List.drop_succ_cons, List.drop_zero, awant_some, Option.getD_some, List.getElem?_toArray, List.getElem?_cons_succ, List.getElem?_cons_zero, Option.bind_some, b_tt, b_tf, b_ft, b_ff, Bool.not_true, Bool.not_false, List.take_succ_cons, List.take_zero, awant_none, astep, evl, put, ap_none, ap_new, ap_wr, List.length_nil, List.length_cons, Nat.add_zero, Nat.zero_add, upd_app, stepBin, abin, stepUn, stepPick, stepExtract, stepCall, if_true, if_false, reduceCtorEq, ↓reduceIte, Nat.reduceEqDiff, Nat.reduceAdd, List.map_cons, List.map_nil, Option.map_some, Option.map_none, Bool.false_eq_true, Int.reduceLE, Int.reduceToNat, ne_eq, not_false_eq_true, and_self, and_true, true_and, decide_true, decide_false, Int.reduceEq, Int.reduceLT, Int.reduceBEq, Int.reduceBNe, not_true_eq_false, undef] <;> rfl) ?_)
  clear hN1
  refine s_for 0 ps.length (fun k t g n' => ∃ (all left : List Nat) (cv : Value), all ++ left = l ∧ t 0 = v ∧ t 1 = w ∧ t 5 = pt1 n ∧ Own 5 g (t 6) (bs all) N1 n' ∧ Cu 68 g n cv left ∧ (∀ i ∈ srcBlk cv, i < N1) ∧ Kp n g2 g ∧ N1 ≤ n') (by omega) (by omega) (by simp [upd_app])
    ⟨[], l, vc, rfl, by simp [upd_app, t0], by simp [upd_app, t1], by simp [upd_app, t5], by simp [upd_app]; exact Own.nil 5 G1 N1 N1, u6, fun i hi => (u7 i hi).2, u4, Nat.le_refl _⟩ ?_ ?_ ?_
  · clear t0 t1 t5
    rintro k t g n' hk t7 ⟨all, left, cv, hal, t0, t1, t5, hO, hC, hcv, hkp, hnn⟩
    have dl : decide ((k : Int) < (ps.length : Int)) = decide (k < ps.length) := by simp
    exact ⟨_, (by simp only [runL, List.drop_succ_cons, List.drop_zero, awant_some, Option.getD_some, List.getElem?_toArray, List.getElem?_cons_succ, List.getElem?_cons_zero, Option.bind_some, b_tt, b_tf, b_ft, b_ff, Bool.not_true, Bool.not_false, List.take_succ_cons, List.take_zero, awant_none, astep, evl, put, ap_none, ap_new, ap_wr, List.length_nil, List.length_cons, Nat.add_zero, Nat.zero_add, upd_app, stepBin, abin, stepUn, stepPick, stepExtract, stepCall, if_true, if_false, reduceCtorEq, ↓reduceIte, Nat.reduceEqDiff, Nat.reduceAdd, List.map_cons, List.map_nil, Option.map_some, Option.map_none, Bool.false_eq_true, Int.reduceLE, Int.reduceToNat, ne_eq, not_false_eq_true, and_self, and_true, true_and, decide_true, decide_false, Int.reduceEq, Int.reduceLT, Int.reduceBEq, Int.reduceBNe, not_true_eq_false, undef, t7, t1, hlenw, dl] <;> rfl), by simp [upd_app], by simp [upd_app, t7], all, left, cv, hal, by simp [upd_app, t0], by simp [upd_app, t1], by simp [upd_app, t5], by simpa [upd_app] using hO, hC, hcv, hkp, hnn⟩
  · clear t0 t1 t5
    rintro k t g n' hk t7 ⟨all, left, cv, hal, t0, t1, t5, hO, hC, hcv, hkp, hnn⟩
    have hwg := hkp.src hw2 hdomw
    have hkp0 := hkp
    obtain ⟨pa0, i1', i2', ib⟩ := hwg.at1 (P := Try.prog) (i := k) (c := .int .i64 ps[k]) (by simp [hk]) Try.underlying36 tsize3 aggT3
    have hx := hps _ (List.getElem_mem hk)
    generalize ps[k] = x at i2' hx
    have i1 := i1'
    have i2 := i2'
    have hall : all.length + left.length = l.length := by rw [← hal]; simp
    have hla := hO.src.len (P := Try.prog) Try.underlying23
    rw [show (bs all).length = all.length by simp] at hla
    have w1 : IntKind.i64.wrap ((l.length : Int) - (all.length : Int)) = (left.length : Int) := by rw [wrap64_of (by omega) (by omega)]; omega
    have hll : left.length ≤ 2 ^ 40 := by omega
    refine s_cut (fun t g' n'' => ∃ (got left' : List Nat) (cv' vp : Value), got ++ left' = left ∧ t 0 = v ∧ t 1 = w ∧ t 5 = pt1 n ∧ t 7 = .int .i64 k ∧ t 8 = vp ∧ t 9 = .bool (decide (0 ≤ x ∧ x ≤ (left.length : Int))) ∧ Own 5 g' (t 6) (bs all) N1 n'' ∧ Cu 68 g' n cv' left' ∧ (∀ i ∈ srcBlk cv', i < N1) ∧ Kp n g2 g' ∧ n' ≤ n'' ∧ Src g' vp 1 got.length (bs got)) ?_ ?_
    · refine region_take (id := 10) 5 (by simp only [runL, List.drop_succ_cons, List.drop_zero, awant_some, Option.getD_some, List.getElem?_toArray, List.getElem?_cons_succ, List.getElem?_cons_zero, Option.bind_some, b_tt, b_tf, b_ft, b_ff, Bool.not_true, Bool.not_false, List.take_succ_cons, List.take_zero, awant_none, astep, evl, put, ap_none, ap_new, ap_wr, List.length_nil, List.length_cons, Nat.add_zero, Nat.zero_add, upd_app, stepBin, abin, stepUn, stepPick, stepExtract, stepCall, if_true, if_false, reduceCtorEq, ↓reduceIte, Nat.reduceEqDiff, Nat.reduceAdd, List.map_cons, List.map_nil, Option.map_some, Option.map_none, Bool.false_eq_true, Int.reduceLE, Int.reduceToNat, ne_eq, not_false_eq_true, and_self, and_true, true_and, decide_true, decide_false, Int.reduceEq, Int.reduceLT, Int.reduceBEq, Int.reduceBNe, not_true_eq_false, undef, t1, t5, t7, i1, i2] <;> rfl) ?_
      by_cases c1 : x < 0 ∨ (left.length : Int) < x
      · refine ops_call 34 _ rfl (take_none n cv left x g hll hC c1) (by intro h; exact (h rfl).elim) ?_
        refine ops_run (by simp only [runL, List.drop_succ_cons, List.drop_zero, awant_some, Option.getD_some, List.getElem?_toArray, List.getElem?_cons_succ, List.getElem?_cons_zero, Option.bind_some, b_tt, b_tf, b_ft, b_ff, Bool.not_true, Bool.not_false, List.take_succ_cons, List.take_zero, awant_none, astep, evl, put, ap_none, ap_new, ap_wr, List.length_nil, List.length_cons, Nat.add_zero, Nat.zero_add, upd_app, stepBin, abin, stepUn, stepPick, stepExtract, stepCall, if_true, if_false, reduceCtorEq, ↓reduceIte, Nat.reduceEqDiff, Nat.reduceAdd, List.map_cons, List.map_nil, Option.map_some, Option.map_none, Bool.false_eq_true, Int.reduceLE, Int.reduceToNat, ne_eq, not_false_eq_true, and_self, and_true, true_and, decide_true, decide_false, Int.reduceEq, Int.reduceLT, Int.reduceBEq, Int.reduceBNe, not_true_eq_false, undef] <;> rfl) ?_
        refine ⟨rfl, [], left, cv, .slice none 0 0, rfl, by simp [upd_app, put, t0], by simp [upd_app, put, t1], by simp [upd_app, put, t5], by simp [upd_app, put, t7], by simp [upd_app], ?_, by simpa [upd_app, put] using hO, hC, hcv, hkp, Nat.le_refl _, .inl ⟨rfl, rfl, rfl⟩⟩
        rw [decide_eq_false (by omega)]
        simp [upd_app]
      · obtain ⟨q, rfl⟩ : ∃ q : Nat, x = q := ⟨x.toNat, by omega⟩
        have hq : q ≤ left.length := by omega
        obtain ⟨vp, a1, a2, a3, a4, a5⟩ := takeE_use hC hq (show n < n' by omega) (fun i hi => by have := hcv i hi; omega)
        refine ops_call 34 _ rfl (take_some n cv left q g n' hll hC hq) (by intro _; rw [takeE_j]) (ops_heap fun G2 hG2 => ops_num fun N2 hN2 => ?_)
        rw [← hG2] at a2 a4 a5
        rw [a1]
        refine ops_run (by simp only [runL, List.drop_succ_cons, List.drop_zero, awant_some, Option.getD_some, List.getElem?_toArray, List.getElem?_cons_succ, List.getElem?_cons_zero, Option.bind_some, b_tt, b_tf, b_ft, b_ff, Bool.not_true, Bool.not_false, List.take_succ_cons, List.take_zero, awant_none, astep, evl, put, ap_none, ap_new, ap_wr, List.length_nil, List.length_cons, Nat.add_zero, Nat.zero_add, upd_app, stepBin, abin, stepUn, stepPick, stepExtract, stepCall, if_true, if_false, reduceCtorEq, ↓reduceIte, Nat.reduceEqDiff, Nat.reduceAdd, List.map_cons, List.map_nil, Option.map_some, Option.map_none, Bool.false_eq_true, Int.reduceLE, Int.reduceToNat, ne_eq, not_false_eq_true, and_self, and_true, true_and, decide_true, decide_false, Int.reduceEq, Int.reduceLT, Int.reduceBEq, Int.reduceBNe, not_true_eq_false, undef] <;> rfl) ?_
        refine ⟨rfl, left.take q, left.drop q, _, vp, List.take_append_drop _ _, by simp [upd_app, put, t0], by simp [upd_app, put, t1], by simp [upd_app, put, t5], by simp [upd_app, put, t7], by simp [upd_app], ?_, ?_, a4, ?_, fun i hi => ?_, ?_, a2⟩
        · rw [decide_eq_true (by omega)]
          simp [upd_app]
        · have := hO.keepOn (g' := G2) (n'' := N2) (fun i h1 h2 => a5 i h2 (by omega)) (by omega)
          simpa [upd_app, put] using this
        · intro i hi
          obtain ⟨_, _, b3, _⟩ := src_slV (P := Try.prog) hC.src Try.underlying23 tsize5 (some (.int .i64 (q : Int))) none q left.length rfl rfl hq (Nat.le_refl _)
          exact hcv i (b3 i hi)
        · show G2 i = g2 i
          rw [a5 i (by omega) (by omega), hkp i hi]
        · show n' ≤ N2
          omega
    · clear t0 t1 t5 t7 hO hla
      rintro t g' n'' ⟨got, left', cv', vp, hgl, t0, t1, t5, t7, t8, t9, hO, hC, hcv, hkp, hnn2, hvp⟩
      have hwg := hkp.src hw2 hdomw
      obtain ⟨pa, i1, i2, _⟩ := hwg.at1 (P := Try.prog) (i := k) (c := (ps.map (Value.int .i64)).getD k undef) (by simp [List.getD, hk]) Try.underlying36 tsize3 aggT3
      have hxx : (ps.map (Value.int .i64)).getD k undef = .int .i64 x := by
        have h1 : stepIndex Try.prog 36 w (.int .i64 (k : Int)) = some { v := .pointer (some pa) } := i1 .i64
        have := i1' .i64
        rw [this] at h1
        simp only [Option.some.injEq] at h1
        have h2 := congrArg Eff.v h1
        simp only [Value.pointer.injEq, Option.some.injEq] at h2
        subst h2
        have hpb : pa0.block < n := hdomw _ ib
        have e1 : stepLoad Try.prog 3 (.pointer (some pa0)) g' = stepLoad Try.prog 3 (.pointer (some pa0)) g := by
          simp only [stepLoad, rd_congr (show g' pa0.block = g pa0.block by rw [hkp _ hpb, hkp0 _ hpb])]
        rw [e1, i2'] at i2
        have h3 := congrArg (Option.map Eff.v) i2
        simpa using h3.symm
      rw [hxx] at i2
      have hla := hO.src.len (P := Try.prog) Try.underlying23
      rw [show (bs all).length = all.length by simp] at hla
      have hgll : got.length ≤ l.length := by
        have := congrArg List.length hgl
        simp at this
        omega
      obtain ⟨f, hf, hO', hk'⟩ := hO.append (P := Try.prog) (T := 23) (y := vp) (news := bs got) (by simpa using hvp) Try.underlying23 tinf5 (by simp; omega) (by omega) (by omega)
      rw [bs_app] at hO'
      refine w_assoc ?_
      by_cases c1 : x < 0
      · have e1 : decide (x ≥ 0) = false := decide_eq_false (by omega)
        have e9 : decide (0 ≤ x ∧ x ≤ (left.length : Int)) = false := decide_eq_false (by omega)
        rw [e9] at t9
        refine s_run (by simp only [runL, List.drop_succ_cons, List.drop_zero, awant_some, Option.getD_some, List.getElem?_toArray, List.getElem?_cons_succ, List.getElem?_cons_zero, Option.bind_some, b_tt, b_tf, b_ft, b_ff, Bool.not_true, Bool.not_false, List.take_succ_cons, List.take_zero, awant_none, astep, evl, put, ap_none, ap_new, ap_wr, List.length_nil, List.length_cons, Nat.add_zero, Nat.zero_add, upd_app, stepBin, abin, stepUn, stepPick, stepExtract, stepCall, if_true, if_false, reduceCtorEq, ↓reduceIte, Nat.reduceEqDiff, Nat.reduceAdd, List.map_cons, List.map_nil, Option.map_some, Option.map_none, Bool.false_eq_true, Int.reduceLE, Int.reduceToNat, ne_eq, not_false_eq_true, and_self, and_true, true_and, decide_true, decide_false, Int.reduceEq, Int.reduceLT, Int.reduceBEq, Int.reduceBNe, not_true_eq_false, undef, t0, t1, t7, t9, i1, i2, e1, Try.underlying4] <;> rfl) ?_
        refine s_false (by simp [evl, upd_app]) (s_skip ?_)
        refine w_gen (fun t' => t' 0 = v ∧ t' 1 = w ∧ t' 5 = pt1 n ∧ t' 7 = .int .i64 k ∧ t' 8 = vp ∧ t' 6 = t 6) (by simp [upd_app, t0, t1, t5, t7, t8]) ?_
        rintro t' ⟨q0, q1, q5, q7, q8, q6⟩
        refine region_run (id := 13) (by simp only [runL, List.drop_succ_cons, List.drop_zero, awant_some, Option.getD_some, List.getElem?_toArray, List.getElem?_cons_succ, List.getElem?_cons_zero, Option.bind_some, b_tt, b_tf, b_ft, b_ff, Bool.not_true, Bool.not_false, List.take_succ_cons, List.take_zero, awant_none, astep, evl, put, ap_none, ap_new, ap_wr, List.length_nil, List.length_cons, Nat.add_zero, Nat.zero_add, upd_app, stepBin, abin, stepUn, stepPick, stepExtract, stepCall, if_true, if_false, reduceCtorEq, ↓reduceIte, Nat.reduceEqDiff, Nat.reduceAdd, List.map_cons, List.map_nil, Option.map_some, Option.map_none, Bool.false_eq_true, Int.reduceLE, Int.reduceToNat, ne_eq, not_false_eq_true, and_self, and_true, true_and, decide_true, decide_false, Int.reduceEq, Int.reduceLT, Int.reduceBEq, Int.reduceBNe, not_true_eq_false, undef, q6, q8, hf] <;> rfl) ?_
        simp only [rangePost]
        exact ⟨by simp [upd_app, q7], fun _ _ _ => ⟨all ++ got, left', cv', by rw [List.append_assoc, hgl, hal], by simp [upd_app, q0], by simp [upd_app, q1], by simp [upd_app, q5], by simpa [upd_app] using hO', hC.keep (hk' _ (by omega)) (fun i hi => hk' i (hcv i hi)), hcv, fun q hq => by rw [hk' q (by omega), hkp q hq], by omega⟩⟩
      · have e1 : decide (x ≥ 0) = true := decide_eq_true (by omega)
        have e2 : decide (x ≤ (left.length : Int)) = decide (0 ≤ x ∧ x ≤ (left.length : Int)) := by
          rw [decide_eq_decide]; omega
        have e3 : (decide (0 ≤ x ∧ x ≤ (left.length : Int)) == decide (0 ≤ x ∧ x ≤ (left.length : Int))) = true := beq_self_eq_true _
        refine s_run (by simp only [runL, List.drop_succ_cons, List.drop_zero, awant_some, Option.getD_some, List.getElem?_toArray, List.getElem?_cons_succ, List.getElem?_cons_zero, Option.bind_some, b_tt, b_tf, b_ft, b_ff, Bool.not_true, Bool.not_false, List.take_succ_cons, List.take_zero, awant_none, astep, evl, put, ap_none, ap_new, ap_wr, List.length_nil, List.length_cons, Nat.add_zero, Nat.zero_add, upd_app, stepBin, abin, stepUn, stepPick, stepExtract, stepCall, if_true, if_false, reduceCtorEq, ↓reduceIte, Nat.reduceEqDiff, Nat.reduceAdd, List.map_cons, List.map_nil, Option.map_some, Option.map_none, Bool.false_eq_true, Int.reduceLE, Int.reduceToNat, ne_eq, not_false_eq_true, and_self, and_true, true_and, decide_true, decide_false, Int.reduceEq, Int.reduceLT, Int.reduceBEq, Int.reduceBNe, not_true_eq_false, undef, t0, t1, t7, t9, i1, i2, e1, e2, e3, hlen, hla, w1, Try.underlying4] <;> rfl) ?_
        refine s_false (by simp [evl, upd_app]) (s_skip ?_)
        refine w_gen (fun t' => t' 0 = v ∧ t' 1 = w ∧ t' 5 = pt1 n ∧ t' 7 = .int .i64 k ∧ t' 8 = vp ∧ t' 6 = t 6) (by simp [upd_app, t0, t1, t5, t7, t8]) ?_
        rintro t' ⟨q0, q1, q5, q7, q8, q6⟩
        refine region_run (id := 13) (by simp only [runL, List.drop_succ_cons, List.drop_zero, awant_some, Option.getD_some, List.getElem?_toArray, List.getElem?_cons_succ, List.getElem?_cons_zero, Option.bind_some, b_tt, b_tf, b_ft, b_ff, Bool.not_true, Bool.not_false, List.take_succ_cons, List.take_zero, awant_none, astep, evl, put, ap_none, ap_new, ap_wr, List.length_nil, List.length_cons, Nat.add_zero, Nat.zero_add, upd_app, stepBin, abin, stepUn, stepPick, stepExtract, stepCall, if_true, if_false, reduceCtorEq, ↓reduceIte, Nat.reduceEqDiff, Nat.reduceAdd, List.map_cons, List.map_nil, Option.map_some, Option.map_none, Bool.false_eq_true, Int.reduceLE, Int.reduceToNat, ne_eq, not_false_eq_true, and_self, and_true, true_and, decide_true, decide_false, Int.reduceEq, Int.reduceLT, Int.reduceBEq, Int.reduceBNe, not_true_eq_false, undef, q6, q8, hf] <;> rfl) ?_
        simp only [rangePost]
        exact ⟨by simp [upd_app, q7], fun _ _ _ => ⟨all ++ got, left', cv', by rw [List.append_assoc, hgl, hal], by simp [upd_app, q0], by simp [upd_app, q1], by simp [upd_app, q5], by simpa [upd_app] using hO', hC.keep (hk' _ (by omega)) (fun i hi => hk' i (hcv i hi)), hcv, fun q hq => by rw [hk' q (by omega), hkp q hq], by omega⟩⟩
  · clear t0 t1 t5
    rintro t g n' ⟨all, left, cv, hal, t0, t1, t5, hO, hC, hcv, hkp, hnn⟩
    have hall : all.length + left.length = l.length := by rw [← hal]; simp
    refine s_take 2 (by simp only [runL, List.drop_succ_cons, List.drop_zero, awant_some, Option.getD_some, List.getElem?_toArray, List.getElem?_cons_succ, List.getElem?_cons_zero, Option.bind_some, b_tt, b_tf, b_ft, b_ff, Bool.not_true, Bool.not_false, List.take_succ_cons, List.take_zero, awant_none, astep, evl, put, ap_none, ap_new, ap_wr, List.length_nil, List.length_cons, Nat.add_zero, Nat.zero_add, upd_app, stepBin, abin, stepUn, stepPick, stepExtract, stepCall, if_true, if_false, reduceCtorEq, ↓reduceIte, Nat.reduceEqDiff, Nat.reduceAdd, List.map_cons, List.map_nil, Option.map_some, Option.map_none, Bool.false_eq_true, Int.reduceLE, Int.reduceToNat, ne_eq, not_false_eq_true, and_self, and_true, true_and, decide_true, decide_false, Int.reduceEq, Int.reduceLT, Int.reduceBEq, Int.reduceBNe, not_true_eq_false, undef, t5] <;> rfl) ?_
    refine ops_call 32 _ rfl (cleft_spec n cv left g hC) (by intro h; exact (h rfl).elim) ?_
    simp only [ap_none, List.length_nil, Nat.add_zero]
    obtain ⟨vp, a1, a2, a3, a4, a5⟩ := takeE_use hC (Nat.le_refl left.length) (show n < n' by omega) (fun i hi => by have := hcv i hi; omega)
    refine ops_call 34 _ rfl (take_some n cv left left.length g n' (by omega) hC (Nat.le_refl _)) (by intro _; rw [takeE_j]) (ops_heap fun G2 hG2 => ops_num fun N2 hN2 => ?_)
    rw [← hG2] at a2 a5
    rw [← hN2] at a3
    rw [a1]
    refine ops_run (by simp only [runL, List.drop_succ_cons, List.drop_zero, awant_some, Option.getD_some, List.getElem?_toArray, List.getElem?_cons_succ, List.getElem?_cons_zero, Option.bind_some, b_tt, b_tf, b_ft, b_ff, Bool.not_true, Bool.not_false, List.take_succ_cons, List.take_zero, awant_none, astep, evl, put, ap_none, ap_new, ap_wr, List.length_nil, List.length_cons, Nat.add_zero, Nat.zero_add, upd_app, stepBin, abin, stepUn, stepPick, stepExtract, stepCall, if_true, if_false, reduceCtorEq, ↓reduceIte, Nat.reduceEqDiff, Nat.reduceAdd, List.map_cons, List.map_nil, Option.map_some, Option.map_none, Bool.false_eq_true, Int.reduceLE, Int.reduceToNat, ne_eq, not_false_eq_true, and_self, and_true, true_and, decide_true, decide_false, Int.reduceEq, Int.reduceLT, Int.reduceBEq, Int.reduceBNe, not_true_eq_false, undef] <;> rfl) ?_
    have hN2' : n' ≤ N2 := by omega
    clear hN2
    have hkp2 : Kp n g2 G2 := fun i hi => by rw [a5 i (by omega) (by omega), hkp i hi]
    have hO2 := hO.keepOn (g' := G2) (n'' := N2) (fun i h1 h2 => a5 i h2 (by omega)) hN2'
    refine w_gen (fun t => t 0 = v ∧ t 10 = vp ∧ t 11 = .bool true ∧ Own 5 G2 (t 6) (bs all) N1 N2) (by simp only [upd_app, put]; simp [t0, hO2]) ?_
    clear t0 t1 t5 hO hO2
    rintro t ⟨t0, t10, t11, hO⟩
    rw [List.take_length] at a2
    obtain ⟨f, hf, hO', hk'⟩ := hO.append (P := Try.prog) (T := 23) (y := vp) (news := bs left) (by simpa using a2) Try.underlying23 tinf5 (by simp; omega) (by omega) (by omega)
    obtain ⟨fr, fw⟩ := hO.append_fp hf (by omega) (Nat.le_refl _)
    rw [bs_app, hal] at hO'
    refine s_drawn #[0, 1, 3, 3, 15, 31, 3, 67, 255, 511, 1023, 2047, 4095, 8191] (by decide +kernel) ?_
    refine d_pure 4 (by simp only [runP, List.drop_succ_cons, List.drop_zero, awant_some, Option.getD_some, List.getElem?_toArray, List.getElem?_cons_succ, List.getElem?_cons_zero, Option.bind_some, b_tt, b_tf, b_ft, b_ff, Bool.not_true, Bool.not_false, List.take_succ_cons, List.take_zero, awant_none, astep, evl, put, ap_none, ap_new, ap_wr, List.length_nil, List.length_cons, Nat.add_zero, Nat.zero_add, upd_app, stepBin, abin, stepUn, stepPick, stepExtract, stepCall, if_true, if_false, reduceCtorEq, ↓reduceIte, Nat.reduceEqDiff, Nat.reduceAdd, List.map_cons, List.map_nil, Option.map_some, Option.map_none, Bool.false_eq_true, Int.reduceLE, Int.reduceToNat, ne_eq, not_false_eq_true, and_self, and_true, true_and, decide_true, decide_false, Int.reduceEq, Int.reduceLT, Int.reduceBEq, Int.reduceBNe, not_true_eq_false, undef, List.isEmpty_nil, Bool.and_self, Bool.and_true, t10, t11] <;> rfl) ?_
    dsimp only
    refine d_full (lo := N1) (hi := N2) f (by simp only [astep, evl, upd_app, put, stepCall, ↓reduceIte, Nat.reduceEqDiff]; exact hf) (by simp [awant, upd_app, put]) (AccB.nil _ _ _) rfl (fun x hx => by
      rcases fr x hx with h | h
      · omega
      · have := a3 x h; omega) fw (Nat.le_refl _) fun acc h1 => d_heap fun G3 hG3 => d_num fun N3 hN3 => ?_
    rw [← hG3, ← hN3] at hO'
    rw [← hG3] at hk'
    rw [← hN3] at h1
    have hkp3 : Kp n g2 G3 := fun i hi => by rw [hk' i (by omega), hkp2 i hi]
    obtain ⟨r1, x1, x2⟩ := src_str (by simpa using hO'.src)
    obtain ⟨r2, y1, y2⟩ := src_str (hkp3.src hv2 hdom)
    refine d_full (lo := N1) (hi := N3) { v := .string (nstr l), r := r1 } (by simp only [astep, evl, upd_app, put, stepCall, ↓reduceIte, Nat.reduceEqDiff]; exact x1) (by simp [awant, upd_app, put]) (h1.le (Nat.le_refl _) (Nat.le_refl _) (by simp)) rfl (fun x hx => by have := hO'.blk x (x2 x hx); simp; omega) (by simp [Eff.wr]) (Nat.le_refl _) fun acc h2 => ?_
    simp only [List.length_nil, Nat.add_zero] at h2 ⊢
    refine d_pure 1 (by simp only [runP, List.drop_succ_cons, List.drop_zero, awant_some, Option.getD_some, List.getElem?_toArray, List.getElem?_cons_succ, List.getElem?_cons_zero, Option.bind_some, b_tt, b_tf, b_ft, b_ff, Bool.not_true, Bool.not_false, List.take_succ_cons, List.take_zero, awant_none, astep, evl, put, ap_none, ap_new, ap_wr, List.length_nil, List.length_cons, Nat.add_zero, Nat.zero_add, upd_app, stepBin, abin, stepUn, stepPick, stepExtract, stepCall, if_true, if_false, reduceCtorEq, ↓reduceIte, Nat.reduceEqDiff, Nat.reduceAdd, List.map_cons, List.map_nil, Option.map_some, Option.map_none, Bool.false_eq_true, Int.reduceLE, Int.reduceToNat, ne_eq, not_false_eq_true, and_self, and_true, true_and, decide_true, decide_false, Int.reduceEq, Int.reduceLT, Int.reduceBEq, Int.reduceBNe, not_true_eq_false, undef, List.isEmpty_nil, Bool.and_self, Bool.and_true, t0] <;> rfl) ?_
    dsimp only
    refine d_low (lo := N1) (hi := N3) { v := .string (nstr l), r := r2 } (by simp only [astep, evl, upd_app, put, stepCall, ↓reduceIte, Nat.reduceEqDiff]; exact y1) (by simp [awant, upd_app, put]) (h2.le (Nat.le_refl _) (Nat.le_refl _) (by simp)) (fun x hx => by have := hdom x (y2 x hx); simp at this ⊢; omega) rfl rfl (by omega) fun acc h3 => ?_
    refine d_pure 3 (by simp only [runP, List.drop_succ_cons, List.drop_zero, awant_some, Option.getD_some, List.getElem?_toArray, List.getElem?_cons_succ, List.getElem?_cons_zero, Option.bind_some, b_tt, b_tf, b_ft, b_ff, Bool.not_true, Bool.not_false, List.take_succ_cons, List.take_zero, awant_none, astep, evl, put, ap_none, ap_new, ap_wr, List.length_nil, List.length_cons, Nat.add_zero, Nat.zero_add, upd_app, stepBin, abin, stepUn, stepPick, stepExtract, stepCall, if_true, if_false, reduceCtorEq, ↓reduceIte, Nat.reduceEqDiff, Nat.reduceAdd, List.map_cons, List.map_nil, Option.map_some, Option.map_none, Bool.false_eq_true, Int.reduceLE, Int.reduceToNat, ne_eq, not_false_eq_true, and_self, and_true, true_and, decide_true, decide_false, Int.reduceEq, Int.reduceLT, Int.reduceBEq, Int.reduceBNe, not_true_eq_false, undef, List.isEmpty_nil, Bool.and_self, Bool.and_true, beq_self_eq_true] <;> rfl) ?_
    dsimp only
    refine d_call 33 _ rfl rfl rfl (by simp [awant, upd_app, put]) (ckn_spec _) (by simp) (fun p hp => .inr ⟨fun x _ => by simp [Eff.wr], fun x _ => by simp [Eff.wr]⟩) ?_
    refine d_pure 2 (by simp only [runP, List.drop_succ_cons, List.drop_zero, awant_some, Option.getD_some, List.getElem?_toArray, List.getElem?_cons_succ, List.getElem?_cons_zero, Option.bind_some, b_tt, b_tf, b_ft, b_ff, Bool.not_true, Bool.not_false, List.take_succ_cons, List.take_zero, awant_none, astep, evl, put, ap_none, ap_new, ap_wr, List.length_nil, List.length_cons, Nat.add_zero, Nat.zero_add, upd_app, stepBin, abin, stepUn, stepPick, stepExtract, stepCall, if_true, if_false, reduceCtorEq, ↓reduceIte, Nat.reduceEqDiff, Nat.reduceAdd, List.map_cons, List.map_nil, Option.map_some, Option.map_none, Bool.false_eq_true, Int.reduceLE, Int.reduceToNat, ne_eq, not_false_eq_true, and_self, and_true, true_and, decide_true, decide_false, Int.reduceEq, Int.reduceLT, Int.reduceBEq, Int.reduceBNe, not_true_eq_false, undef, List.isEmpty_nil, Bool.and_self, Bool.and_true] <;> rfl) ?_
    exact w_ret ⟨.inr rfl, by simp, [], fin_plain hs hwf hkp3 (by simp [resVal, upd_app, put]) trivial⟩
end Go.Proofs.Ytokmmcfnpobldaa

namespace Go.Proofs.Ytokmmcfnpobldaa
open Go Abs
set_option linter.unusedSimpArgs false
set_option linter.unusedVariables false

theorem tsize57 : tsize Try.prog 57 = some 2 := by kernel_rfl
theorem foff57_0 : foff Try.prog 57 0 = some 0 := by kernel_rfl
theorem foff57_1 : foff Try.prog 57 1 = some 1 := by kernel_rfl
theorem lit0' (j : Nat) : stepBuildSlice Try.prog 23 0 [] j = some { v := .slice (some ⟨j, 0, some 0⟩) 0 1, j := j, a := [⟨false, 5, []⟩] } := build_nil Try.underlying23 tinf5 j
theorem build55 {v : Value} (h : ∃ a m e, v = .slice a m e) : stepBuild Try.prog 55 [(0, v)] = some { v := .agg #[v] } := by
  obtain ⟨a, m, e, rfl⟩ := h
  simp [stepBuild, binf55, fillL, Value.cells, isTup, putAll]
theorem box1 (T : TypeId) (v : Value) (j : Nat) : stepBox T (.agg #[v]) j = some { v := pt1 j, j := j, a := [⟨false, T, [v]⟩] } := by simp [stepBox, isTup, Value.cells]

/-- Both cursors, and what is left of both. -/
structure CH (n pc px : Nat) (g2 g : Heap) (left : List Nat) (vc vx : Value) (n' : Nat) : Prop where
  c : Cu 68 g pc vc left
  x : Cu 55 g px vx left
  b : ∀ y ∈ left, y < 256
  l : left.length ≤ 2 ^ 40
  bc : ∀ i ∈ srcBlk vc, pc < i ∧ i < px
  bx : ∀ i ∈ srcBlk vx, i < n
  k : Kp n g2 g
  o1 : n ≤ pc
  o2 : pc < px
  o3 : px < n'

theorem slV_blk {v : Value} {g : Heap} {l : List Nat} {k : Nat} (h : Src g v 1 l.length (bs l)) (hk : k ≤ l.length) : ∀ i ∈ srcBlk (slV v k l.length), i ∈ srcBlk v :=
  (src_slV (P := Try.prog) h Try.underlying23 tsize5 (some (.int .i64 (k : Int))) none k l.length rfl rfl hk (Nat.le_refl _)).2.2.1

/-- What stands behind the program's taking, for the reference's. -/
theorem CH.mid {n pc px : Nat} {g2 g G1 : Heap} {left : List Nat} {vc vx : Value} {n' : Nat} (h : CH n pc px g2 g left vc vx n') (h1 : ∀ i, i < n' → i ≠ pc → G1 i = g i) : Cu 55 G1 px vx left :=
  h.x.keep (h1 px h.o3 (by have := h.o2; omega)) fun i hi => h1 i (by have := h.bx i hi; have := h.o1; have := h.o2; have := h.o3; omega) (by have := h.bx i hi; have := h.o1; omega)

theorem CH.step {n pc px : Nat} {g2 g G1 G2 : Heap} {left : List Nat} {vc vx : Value} {n' n'' k : Nat} (h : CH n pc px g2 g left vc vx n') (hk : k ≤ left.length) (hn : n' ≤ n'') (h0 : Cu 68 G1 pc (slV vc k left.length) (left.drop k)) (h1 : ∀ i, i < n' → i ≠ pc → G1 i = g i)
    (h2 : Cu 55 G2 px (slV vx k left.length) (left.drop k)) (h3 : ∀ i, i < n' → i ≠ px → G2 i = G1 i) : CH n pc px g2 G2 (left.drop k) (slV vc k left.length) (slV vx k left.length) n'' := by
  have hb := slV_blk h.c.src hk
  have hx := slV_blk h.x.src hk
  have o1 := h.o1
  have o2 := h.o2
  have o3 := h.o3
  refine ⟨h0.keep (h3 pc (by omega) (by omega)) (fun i hi => h3 i (by have := h.bc i (hb i hi); omega) (by have := h.bc i (hb i hi); omega)), h2, fun y hy => h.b y (List.mem_of_mem_drop hy), by rw [List.length_drop]; have := h.l; omega, fun i hi => h.bc i (hb i hi), fun i hi => h.bx i (hx i hi), fun i hi => ?_, o1, o2, by omega⟩
  rw [h3 i (by omega) (by omega), h1 i (by omega) (by omega), h.k i hi]

theorem wr1_ap {v : Value} {r : List Nat} {p j : Nat} {b : Blk} (G : Heap) : (({ v := v, r := r, w := [(p, b)], j := j } : Eff).ap G) p = some b ∧ ∀ i, i ≠ p → (({ v := v, r := r, w := [(p, b)], j := j } : Eff).ap G) i = G i := by
  refine ⟨by simp [ap_wr], fun i hi => by simp [ap_wr, upd_app, hi]⟩

def cl : Code → Code
  | .seq a _ => a
  | c => c
def cr : Code → Code
  | .seq _ b => b
  | c => c
def cb : Code → Code
  | .block _ c => c
  | .loop c => c
  | c => c
def ct : Code → Code
  | .cond _ x _ => x
  | c => c
def ce : Code → Code
  | .cond _ _ y => y
  | c => c

/-- What the switch must come to. -/
def PK (n pc N k : Nat) (v w : Value) (g2 : Heap) : AQ := fun e t g' n'' => e = .normal ∧ t 8 = .bool true ∧ t 7 = .int .i64 k ∧ ∃ (left : List Nat) (vc vx : Value), t 0 = v ∧ t 1 = w ∧ t 5 = pt1 pc ∧ t 6 = pt1 N ∧ CH n pc N g2 g' left vc vx n''

/-- The act that is read. -/
def Hat (n k : Nat) (w : Value) (g2 : Heap) (kd x : Int) : Prop := ∀ (G : Heap), Kp n g2 G → ∃ p q0 q1, (∀ kk, stepIndex Try.prog 52 w (.int kk (k : Int)) = some { v := .pointer (some p) }) ∧ stepField Try.prog 57 (.pointer (some p)) 0 = some { v := .pointer (some q0) } ∧ stepField Try.prog 57 (.pointer (some p)) 1 = some { v := .pointer (some q1) } ∧
        stepLoad Try.prog 3 (.pointer (some q0)) G = some { v := .int .i64 kd, r := [q0.block] } ∧ stepLoad Try.prog 3 (.pointer (some q1)) G = some { v := .int .i64 x, r := [q1.block] }

set_option maxRecDepth 10000 in
theorem sw1_spec {n pc N k : Nat} {v w : Value} {g2 g : Heap} {left : List Nat} {vc vx : Value} {n' : Nat} {kd x : Int} {t : Nat → Value} (hat : Hat n k w g2 kd x) (hx : -9223372036854775808 ≤ x ∧ x ≤ 9223372036854775807) (hC : CH n pc N g2 g left vc vx n')
    (t7 : t 7 = .int .i64 k) (t0 : t 0 = v) (t1 : t 1 = w) (t5 : t 5 = pt1 pc) (t6 : t 6 = pt1 N) : awp Try.prog (Try.f15.body.getD .skip |> cr |> cr |> cr |> cl |> cr |> cb |> cb |> cr |> cl |> cb |> cr |> cl |> cr |> cb |> cr |> ct) (PK n pc N k v w g2) t g n' := by
  obtain ⟨p, q0, q1, a1, a2, a2', a3, a3'⟩ := hat g hC.k
  have o1 := hC.o1
  have o2 := hC.o2
  have o3 := hC.o3
  show awp Try.prog (.seq _ _) _ t g n'
  refine s_take 1 (by simp only [runL, List.drop_succ_cons, List.drop_zero, awant_some, Option.getD_some, List.getElem?_toArray, List.getElem?_cons_succ, List.getElem?_cons_zero, Option.bind_some, b_tt, b_tf, b_ft, b_ff, Bool.not_true, Bool.not_false, List.take_succ_cons, List.take_zero, awant_none, astep, evl, put, ap_none, ap_new, ap_wr, List.length_nil, List.length_cons, Nat.add_zero, Nat.zero_add, upd_app, stepBin, abin, stepUn, stepPick, stepExtract, stepCall, if_true, if_false, reduceCtorEq, ↓reduceIte, Nat.reduceEqDiff, Nat.reduceAdd, List.map_cons, List.map_nil, Option.map_some, Option.map_none, Bool.false_eq_true, Int.reduceLE, Int.reduceToNat, ne_eq, not_false_eq_true, and_self, and_true, true_and, decide_true, decide_false, Int.reduceEq, Int.reduceLT, Int.reduceBEq, Int.reduceBNe, not_true_eq_false, undef, t5] <;> rfl) ?_
  by_cases hl : left = []
  · subst hl
    refine ops_call 35 _ rfl (cbyte_none pc vc g hC.c) (by intro h; exact (h rfl).elim) ?_
    refine ops_run (by simp only [runL, List.drop_succ_cons, List.drop_zero, awant_some, Option.getD_some, List.getElem?_toArray, List.getElem?_cons_succ, List.getElem?_cons_zero, Option.bind_some, b_tt, b_tf, b_ft, b_ff, Bool.not_true, Bool.not_false, List.take_succ_cons, List.take_zero, awant_none, astep, evl, put, ap_none, ap_new, ap_wr, List.length_nil, List.length_cons, Nat.add_zero, Nat.zero_add, upd_app, stepBin, abin, stepUn, stepPick, stepExtract, stepCall, if_true, if_false, reduceCtorEq, ↓reduceIte, Nat.reduceEqDiff, Nat.reduceAdd, List.map_cons, List.map_nil, Option.map_some, Option.map_none, Bool.false_eq_true, Int.reduceLE, Int.reduceToNat, ne_eq, not_false_eq_true, and_self, and_true, true_and, decide_true, decide_false, Int.reduceEq, Int.reduceLT, Int.reduceBEq, Int.reduceBNe, not_true_eq_false, undef] <;> rfl) ?_
    refine s_take 1 (by simp only [runL, List.drop_succ_cons, List.drop_zero, awant_some, Option.getD_some, List.getElem?_toArray, List.getElem?_cons_succ, List.getElem?_cons_zero, Option.bind_some, b_tt, b_tf, b_ft, b_ff, Bool.not_true, Bool.not_false, List.take_succ_cons, List.take_zero, awant_none, astep, evl, put, ap_none, ap_new, ap_wr, List.length_nil, List.length_cons, Nat.add_zero, Nat.zero_add, upd_app, stepBin, abin, stepUn, stepPick, stepExtract, stepCall, if_true, if_false, reduceCtorEq, ↓reduceIte, Nat.reduceEqDiff, Nat.reduceAdd, List.map_cons, List.map_nil, Option.map_some, Option.map_none, Bool.false_eq_true, Int.reduceLE, Int.reduceToNat, ne_eq, not_false_eq_true, and_self, and_true, true_and, decide_true, decide_false, Int.reduceEq, Int.reduceLT, Int.reduceBEq, Int.reduceBNe, not_true_eq_false, undef, t6] <;> rfl) ?_
    refine ops_call 36 _ rfl (rbyte_none N vx g hC.x) (by intro h; exact (h rfl).elim) ?_
    refine ops_run (by simp only [runL, List.drop_succ_cons, List.drop_zero, awant_some, Option.getD_some, List.getElem?_toArray, List.getElem?_cons_succ, List.getElem?_cons_zero, Option.bind_some, b_tt, b_tf, b_ft, b_ff, Bool.not_true, Bool.not_false, List.take_succ_cons, List.take_zero, awant_none, astep, evl, put, ap_none, ap_new, ap_wr, List.length_nil, List.length_cons, Nat.add_zero, Nat.zero_add, upd_app, stepBin, abin, stepUn, stepPick, stepExtract, stepCall, if_true, if_false, reduceCtorEq, ↓reduceIte, Nat.reduceEqDiff, Nat.reduceAdd, List.map_cons, List.map_nil, Option.map_some, Option.map_none, Bool.false_eq_true, Int.reduceLE, Int.reduceToNat, ne_eq, not_false_eq_true, and_self, and_true, true_and, decide_true, decide_false, Int.reduceEq, Int.reduceLT, Int.reduceBEq, Int.reduceBNe, not_true_eq_false, undef] <;> rfl) ?_
    refine region_run (id := 15) (by simp only [runL, List.drop_succ_cons, List.drop_zero, awant_some, Option.getD_some, List.getElem?_toArray, List.getElem?_cons_succ, List.getElem?_cons_zero, Option.bind_some, b_tt, b_tf, b_ft, b_ff, Bool.not_true, Bool.not_false, List.take_succ_cons, List.take_zero, awant_none, astep, evl, put, ap_none, ap_new, ap_wr, List.length_nil, List.length_cons, Nat.add_zero, Nat.zero_add, upd_app, stepBin, abin, stepUn, stepPick, stepExtract, stepCall, if_true, if_false, reduceCtorEq, ↓reduceIte, Nat.reduceEqDiff, Nat.reduceAdd, List.map_cons, List.map_nil, Option.map_some, Option.map_none, Bool.false_eq_true, Int.reduceLE, Int.reduceToNat, ne_eq, not_false_eq_true, and_self, and_true, true_and, decide_true, decide_false, Int.reduceEq, Int.reduceLT, Int.reduceBEq, Int.reduceBNe, not_true_eq_false, undef, beq_self_eq_true, Try.underlying4] <;> rfl) ?_
    exact ⟨rfl, by simp [upd_app], by simp [upd_app, t7], [], vc, vx, by simp [upd_app, t0], by simp [upd_app, t1], by simp [upd_app, t5], by simp [upd_app, t6], hC⟩
  · have h1 : 1 ≤ left.length := List.length_pos_iff.2 hl
    have hs1 := cbyte_some pc vc left g hC.l hC.c h1 n'
    refine ops_call 35 _ rfl hs1 (by intro h; exact (h rfl).elim) (ops_heap fun G1 hG1 => ?_)
    obtain ⟨w1, w2⟩ := wr1_ap (v := .tuple #[.int .u8 (byt left 0), .bool true]) (r := pc :: srcBlk vc) (p := pc) (j := n') (b := ⟨false, 68, [slV vc 1 left.length]⟩) g
    rw [← hG1] at w1 w2
    have c1 := hC.c.taken h1 w1 (fun i hi => w2 i fun e => hC.c.ne (e ▸ hi))
    refine ops_run (by simp only [runL, List.drop_succ_cons, List.drop_zero, awant_some, Option.getD_some, List.getElem?_toArray, List.getElem?_cons_succ, List.getElem?_cons_zero, Option.bind_some, b_tt, b_tf, b_ft, b_ff, Bool.not_true, Bool.not_false, List.take_succ_cons, List.take_zero, awant_none, astep, evl, put, ap_none, ap_new, ap_wr, List.length_nil, List.length_cons, Nat.add_zero, Nat.zero_add, upd_app, stepBin, abin, stepUn, stepPick, stepExtract, stepCall, if_true, if_false, reduceCtorEq, ↓reduceIte, Nat.reduceEqDiff, Nat.reduceAdd, List.map_cons, List.map_nil, Option.map_some, Option.map_none, Bool.false_eq_true, Int.reduceLE, Int.reduceToNat, ne_eq, not_false_eq_true, and_self, and_true, true_and, decide_true, decide_false, Int.reduceEq, Int.reduceLT, Int.reduceBEq, Int.reduceBNe, not_true_eq_false, undef] <;> rfl) ?_
    refine s_take 1 (by simp only [runL, List.drop_succ_cons, List.drop_zero, awant_some, Option.getD_some, List.getElem?_toArray, List.getElem?_cons_succ, List.getElem?_cons_zero, Option.bind_some, b_tt, b_tf, b_ft, b_ff, Bool.not_true, Bool.not_false, List.take_succ_cons, List.take_zero, awant_none, astep, evl, put, ap_none, ap_new, ap_wr, List.length_nil, List.length_cons, Nat.add_zero, Nat.zero_add, upd_app, stepBin, abin, stepUn, stepPick, stepExtract, stepCall, if_true, if_false, reduceCtorEq, ↓reduceIte, Nat.reduceEqDiff, Nat.reduceAdd, List.map_cons, List.map_nil, Option.map_some, Option.map_none, Bool.false_eq_true, Int.reduceLE, Int.reduceToNat, ne_eq, not_false_eq_true, and_self, and_true, true_and, decide_true, decide_false, Int.reduceEq, Int.reduceLT, Int.reduceBEq, Int.reduceBNe, not_true_eq_false, undef, t6] <;> rfl) ?_
    have hx1 := hC.mid (G1 := G1) (fun i _ hi => w2 i hi)
    have hs2 := rbyte_some N vx left G1 hC.l hx1 h1 n'
    refine ops_call 36 _ rfl hs2 (by intro h; exact (h rfl).elim) (ops_heap fun G2 hG2 => ?_)
    obtain ⟨y1, y2⟩ := wr1_ap (v := .tuple #[.int .u8 (byt left 0), .bool true]) (r := N :: srcBlk vx) (p := N) (j := n') (b := ⟨false, 55, [slV vx 1 left.length]⟩) G1
    rw [← hG2] at y1 y2
    have x1 := hx1.taken h1 y1 (fun i hi => y2 i fun e => hx1.ne (e ▸ hi))
    refine ops_run (by simp only [runL, List.drop_succ_cons, List.drop_zero, awant_some, Option.getD_some, List.getElem?_toArray, List.getElem?_cons_succ, List.getElem?_cons_zero, Option.bind_some, b_tt, b_tf, b_ft, b_ff, Bool.not_true, Bool.not_false, List.take_succ_cons, List.take_zero, awant_none, astep, evl, put, ap_none, ap_new, ap_wr, List.length_nil, List.length_cons, Nat.add_zero, Nat.zero_add, upd_app, stepBin, abin, stepUn, stepPick, stepExtract, stepCall, if_true, if_false, reduceCtorEq, ↓reduceIte, Nat.reduceEqDiff, Nat.reduceAdd, List.map_cons, List.map_nil, Option.map_some, Option.map_none, Bool.false_eq_true, Int.reduceLE, Int.reduceToNat, ne_eq, not_false_eq_true, and_self, and_true, true_and, decide_true, decide_false, Int.reduceEq, Int.reduceLT, Int.reduceBEq, Int.reduceBNe, not_true_eq_false, undef] <;> rfl) ?_
    refine region_run (id := 15) (by simp only [runL, List.drop_succ_cons, List.drop_zero, awant_some, Option.getD_some, List.getElem?_toArray, List.getElem?_cons_succ, List.getElem?_cons_zero, Option.bind_some, b_tt, b_tf, b_ft, b_ff, Bool.not_true, Bool.not_false, List.take_succ_cons, List.take_zero, awant_none, astep, evl, put, ap_none, ap_new, ap_wr, List.length_nil, List.length_cons, Nat.add_zero, Nat.zero_add, upd_app, stepBin, abin, stepUn, stepPick, stepExtract, stepCall, if_true, if_false, reduceCtorEq, ↓reduceIte, Nat.reduceEqDiff, Nat.reduceAdd, List.map_cons, List.map_nil, Option.map_some, Option.map_none, Bool.false_eq_true, Int.reduceLE, Int.reduceToNat, ne_eq, not_false_eq_true, and_self, and_true, true_and, decide_true, decide_false, Int.reduceEq, Int.reduceLT, Int.reduceBEq, Int.reduceBNe, not_true_eq_false, undef, beq_self_eq_true, Try.underlying4] <;> rfl) ?_
    exact ⟨rfl, by simp [upd_app], by simp [upd_app, put, t7], _, _, _, by simp [upd_app, put, t0], by simp [upd_app, put, t1], by simp [upd_app, put, t5], by simp [upd_app, put, t6], hC.step h1 (Nat.le_refl _) c1 (fun i _ hi => w2 i hi) x1 (fun i _ hi => y2 i hi)⟩

set_option maxRecDepth 10000 in
theorem sw2_spec {n pc N k : Nat} {v w : Value} {g2 g : Heap} {left : List Nat} {vc vx : Value} {n' : Nat} {kd x : Int} {t : Nat → Value} (hat : Hat n k w g2 kd x) (hx : -9223372036854775808 ≤ x ∧ x ≤ 9223372036854775807) (hC : CH n pc N g2 g left vc vx n')
    (t7 : t 7 = .int .i64 k) (t0 : t 0 = v) (t1 : t 1 = w) (t5 : t 5 = pt1 pc) (t6 : t 6 = pt1 N) : awp Try.prog (Try.f15.body.getD .skip |> cr |> cr |> cr |> cl |> cr |> cb |> cb |> cr |> cl |> cb |> cr |> cl |> cr |> cb |> cr |> ce |> cr |> ct) (PK n pc N k v w g2) t g n' := by
  obtain ⟨p, q0, q1, a1, a2, a2', a3, a3'⟩ := hat g hC.k
  have o1 := hC.o1
  have o2 := hC.o2
  have o3 := hC.o3
  show awp Try.prog (.seq _ _) _ t g n'
  refine s_take 6 (by simp only [runL, List.drop_succ_cons, List.drop_zero, awant_some, Option.getD_some, List.getElem?_toArray, List.getElem?_cons_succ, List.getElem?_cons_zero, Option.bind_some, b_tt, b_tf, b_ft, b_ff, Bool.not_true, Bool.not_false, List.take_succ_cons, List.take_zero, awant_none, astep, evl, put, ap_none, ap_new, ap_wr, List.length_nil, List.length_cons, Nat.add_zero, Nat.zero_add, upd_app, stepBin, abin, stepUn, stepPick, stepExtract, stepCall, if_true, if_false, reduceCtorEq, ↓reduceIte, Nat.reduceEqDiff, Nat.reduceAdd, List.map_cons, List.map_nil, Option.map_some, Option.map_none, Bool.false_eq_true, Int.reduceLE, Int.reduceToNat, ne_eq, not_false_eq_true, and_self, and_true, true_and, decide_true, decide_false, Int.reduceEq, Int.reduceLT, Int.reduceBEq, Int.reduceBNe, not_true_eq_false, undef, t5, t1, t7, a1, a2', a3'] <;> rfl) ?_
  by_cases cn : x < 0 ∨ (left.length : Int) < x
  · refine ops_call 34 _ rfl (take_none pc vc left x g hC.l hC.c cn) (by intro h; exact (h rfl).elim) ?_
    refine ops_run (by simp only [runL, List.drop_succ_cons, List.drop_zero, awant_some, Option.getD_some, List.getElem?_toArray, List.getElem?_cons_succ, List.getElem?_cons_zero, Option.bind_some, b_tt, b_tf, b_ft, b_ff, Bool.not_true, Bool.not_false, List.take_succ_cons, List.take_zero, awant_none, astep, evl, put, ap_none, ap_new, ap_wr, List.length_nil, List.length_cons, Nat.add_zero, Nat.zero_add, upd_app, stepBin, abin, stepUn, stepPick, stepExtract, stepCall, if_true, if_false, reduceCtorEq, ↓reduceIte, Nat.reduceEqDiff, Nat.reduceAdd, List.map_cons, List.map_nil, Option.map_some, Option.map_none, Bool.false_eq_true, Int.reduceLE, Int.reduceToNat, ne_eq, not_false_eq_true, and_self, and_true, true_and, decide_true, decide_false, Int.reduceEq, Int.reduceLT, Int.reduceBEq, Int.reduceBNe, not_true_eq_false, undef] <;> rfl) ?_
    refine s_take 6 (by simp only [runL, List.drop_succ_cons, List.drop_zero, awant_some, Option.getD_some, List.getElem?_toArray, List.getElem?_cons_succ, List.getElem?_cons_zero, Option.bind_some, b_tt, b_tf, b_ft, b_ff, Bool.not_true, Bool.not_false, List.take_succ_cons, List.take_zero, awant_none, astep, evl, put, ap_none, ap_new, ap_wr, List.length_nil, List.length_cons, Nat.add_zero, Nat.zero_add, upd_app, stepBin, abin, stepUn, stepPick, stepExtract, stepCall, if_true, if_false, reduceCtorEq, ↓reduceIte, Nat.reduceEqDiff, Nat.reduceAdd, List.map_cons, List.map_nil, Option.map_some, Option.map_none, Bool.false_eq_true, Int.reduceLE, Int.reduceToNat, ne_eq, not_false_eq_true, and_self, and_true, true_and, decide_true, decide_false, Int.reduceEq, Int.reduceLT, Int.reduceBEq, Int.reduceBNe, not_true_eq_false, undef, t6, t1, t7, a1, a2', a3'] <;> rfl) ?_
    refine ops_call 37 _ rfl (rtake_none N vx left x g hC.x cn) (by intro h; exact (h rfl).elim) ?_
    refine ops_run (by simp only [runL, List.drop_succ_cons, List.drop_zero, awant_some, Option.getD_some, List.getElem?_toArray, List.getElem?_cons_succ, List.getElem?_cons_zero, Option.bind_some, b_tt, b_tf, b_ft, b_ff, Bool.not_true, Bool.not_false, List.take_succ_cons, List.take_zero, awant_none, astep, evl, put, ap_none, ap_new, ap_wr, List.length_nil, List.length_cons, Nat.add_zero, Nat.zero_add, upd_app, stepBin, abin, stepUn, stepPick, stepExtract, stepCall, if_true, if_false, reduceCtorEq, ↓reduceIte, Nat.reduceEqDiff, Nat.reduceAdd, List.map_cons, List.map_nil, Option.map_some, Option.map_none, Bool.false_eq_true, Int.reduceLE, Int.reduceToNat, ne_eq, not_false_eq_true, and_self, and_true, true_and, decide_true, decide_false, Int.reduceEq, Int.reduceLT, Int.reduceBEq, Int.reduceBNe, not_true_eq_false, undef] <;> rfl) ?_
    have hst : stepConv Try.prog 23 9 (.slice none 0 0) g = some { v := .string .empty } := by simp [stepConv, Try.underlying23, Try.underlying5, Try.underlying9]
    refine region_run (id := 19) (by simp only [runL, List.drop_succ_cons, List.drop_zero, awant_some, Option.getD_some, List.getElem?_toArray, List.getElem?_cons_succ, List.getElem?_cons_zero, Option.bind_some, b_tt, b_tf, b_ft, b_ff, Bool.not_true, Bool.not_false, List.take_succ_cons, List.take_zero, awant_none, astep, evl, put, ap_none, ap_new, ap_wr, List.length_nil, List.length_cons, Nat.add_zero, Nat.zero_add, upd_app, stepBin, abin, stepUn, stepPick, stepExtract, stepCall, if_true, if_false, reduceCtorEq, ↓reduceIte, Nat.reduceEqDiff, Nat.reduceAdd, List.map_cons, List.map_nil, Option.map_some, Option.map_none, Bool.false_eq_true, Int.reduceLE, Int.reduceToNat, ne_eq, not_false_eq_true, and_self, and_true, true_and, decide_true, decide_false, Int.reduceEq, Int.reduceLT, Int.reduceBEq, Int.reduceBNe, not_true_eq_false, undef, hst, beq_self_eq_true, Try.underlying4] <;> rfl) ?_
    exact ⟨rfl, by simp [upd_app], by simp [upd_app, t7], left, vc, vx, by simp [upd_app, t0], by simp [upd_app, t1], by simp [upd_app, t5], by simp [upd_app, t6], hC⟩
  · obtain ⟨q, rfl⟩ : ∃ q : Nat, x = q := ⟨x.toNat, by omega⟩
    have hq : q ≤ left.length := by omega
    obtain ⟨vp, d1, d2, d3, d4, d5⟩ := takeE_use hC.c hq (show pc < n' by omega) (fun i hi => by have := hC.bc i hi; omega)
    refine ops_call 34 _ rfl (take_some pc vc left q g n' hC.l hC.c hq) (by intro _; rw [takeE_j]) (ops_heap fun G1 hG1 => ops_num fun N1 hN1 => ?_)
    rw [← hG1] at d2 d4 d5
    rw [← hN1] at d3
    rw [d1]
    have hNN : n' ≤ N1 := by omega
    clear hN1
    refine ops_run (by simp only [runL, List.drop_succ_cons, List.drop_zero, awant_some, Option.getD_some, List.getElem?_toArray, List.getElem?_cons_succ, List.getElem?_cons_zero, Option.bind_some, b_tt, b_tf, b_ft, b_ff, Bool.not_true, Bool.not_false, List.take_succ_cons, List.take_zero, awant_none, astep, evl, put, ap_none, ap_new, ap_wr, List.length_nil, List.length_cons, Nat.add_zero, Nat.zero_add, upd_app, stepBin, abin, stepUn, stepPick, stepExtract, stepCall, if_true, if_false, reduceCtorEq, ↓reduceIte, Nat.reduceEqDiff, Nat.reduceAdd, List.map_cons, List.map_nil, Option.map_some, Option.map_none, Bool.false_eq_true, Int.reduceLE, Int.reduceToNat, ne_eq, not_false_eq_true, and_self, and_true, true_and, decide_true, decide_false, Int.reduceEq, Int.reduceLT, Int.reduceBEq, Int.reduceBNe, not_true_eq_false, undef] <;> rfl) ?_
    refine w_gen (fun t => t 13 = vp ∧ t 14 = .bool true ∧ t 7 = .int .i64 k ∧ t 0 = v ∧ t 1 = w ∧ t 5 = pt1 pc ∧ t 6 = pt1 N) (by simp [upd_app, put, t7, t0, t1, t5, t6]) ?_
    clear t7 t0 t1 t5 t6
    rintro t ⟨t13, t14, t7, t0, t1, t5, t6⟩
    have hkG : Kp n g2 G1 := fun i hi => by rw [d5 i (by omega) (by omega), hC.k i hi]
    obtain ⟨p', q0', q1', f1, f2, f2', f3, f3'⟩ := hat G1 hkG
    refine s_take 6 (by simp only [runL, List.drop_succ_cons, List.drop_zero, awant_some, Option.getD_some, List.getElem?_toArray, List.getElem?_cons_succ, List.getElem?_cons_zero, Option.bind_some, b_tt, b_tf, b_ft, b_ff, Bool.not_true, Bool.not_false, List.take_succ_cons, List.take_zero, awant_none, astep, evl, put, ap_none, ap_new, ap_wr, List.length_nil, List.length_cons, Nat.add_zero, Nat.zero_add, upd_app, stepBin, abin, stepUn, stepPick, stepExtract, stepCall, if_true, if_false, reduceCtorEq, ↓reduceIte, Nat.reduceEqDiff, Nat.reduceAdd, List.map_cons, List.map_nil, Option.map_some, Option.map_none, Bool.false_eq_true, Int.reduceLE, Int.reduceToNat, ne_eq, not_false_eq_true, and_self, and_true, true_and, decide_true, decide_false, Int.reduceEq, Int.reduceLT, Int.reduceBEq, Int.reduceBNe, not_true_eq_false, undef, t6, t1, t7, f1, f2', f3'] <;> rfl) ?_
    have hx1 := hC.mid (G1 := G1) d5
    refine ops_call 37 _ rfl (rtake_some N vx left q G1 N1 hx1 hq hC.l) (by intro h; exact (h rfl).elim) (ops_heap fun G2 hG2 => ?_)
    obtain ⟨z1, z2, z3, z4⟩ := rtake_use (j := N1) hx1 hq
    rw [← hG2] at z1 z2 z3
    refine ops_run (by simp only [runL, List.drop_succ_cons, List.drop_zero, awant_some, Option.getD_some, List.getElem?_toArray, List.getElem?_cons_succ, List.getElem?_cons_zero, Option.bind_some, b_tt, b_tf, b_ft, b_ff, Bool.not_true, Bool.not_false, List.take_succ_cons, List.take_zero, awant_none, astep, evl, put, ap_none, ap_new, ap_wr, List.length_nil, List.length_cons, Nat.add_zero, Nat.zero_add, upd_app, stepBin, abin, stepUn, stepPick, stepExtract, stepCall, if_true, if_false, reduceCtorEq, ↓reduceIte, Nat.reduceEqDiff, Nat.reduceAdd, List.map_cons, List.map_nil, Option.map_some, Option.map_none, Bool.false_eq_true, Int.reduceLE, Int.reduceToNat, ne_eq, not_false_eq_true, and_self, and_true, true_and, decide_true, decide_false, Int.reduceEq, Int.reduceLT, Int.reduceBEq, Int.reduceBNe, not_true_eq_false, undef] <;> rfl) ?_
    refine w_gen (fun t => t 13 = vp ∧ t 14 = .bool true ∧ t 15 = slV vx 0 q ∧ t 16 = .bool true ∧ t 7 = .int .i64 k ∧ t 0 = v ∧ t 1 = w ∧ t 5 = pt1 pc ∧ t 6 = pt1 N) (by simp [upd_app, put, t13, t14, t7, t0, t1, t5, t6]) ?_
    clear t13 t14 t7 t0 t1 t5 t6
    rintro t ⟨t13, t14, t15, t16, t7, t0, t1, t5, t6⟩
    have d2' : Src G2 vp 1 (left.take q).length (bs (left.take q)) := d2.congr fun i hi => z3 i (by have := d3 i hi; omega)
    obtain ⟨r1, x1, _⟩ := src_str d2'
    obtain ⟨r2, x2, _⟩ := src_str z1
    refine region_run (id := 19) (by simp only [runL, List.drop_succ_cons, List.drop_zero, awant_some, Option.getD_some, List.getElem?_toArray, List.getElem?_cons_succ, List.getElem?_cons_zero, Option.bind_some, b_tt, b_tf, b_ft, b_ff, Bool.not_true, Bool.not_false, List.take_succ_cons, List.take_zero, awant_none, astep, evl, put, ap_none, ap_new, ap_wr, List.length_nil, List.length_cons, Nat.add_zero, Nat.zero_add, upd_app, stepBin, abin, stepUn, stepPick, stepExtract, stepCall, if_true, if_false, reduceCtorEq, ↓reduceIte, Nat.reduceEqDiff, Nat.reduceAdd, List.map_cons, List.map_nil, Option.map_some, Option.map_none, Bool.false_eq_true, Int.reduceLE, Int.reduceToNat, ne_eq, not_false_eq_true, and_self, and_true, true_and, decide_true, decide_false, Int.reduceEq, Int.reduceLT, Int.reduceBEq, Int.reduceBNe, not_true_eq_false, undef, t13, t14, t15, t16, x1, x2, beq_self_eq_true, Try.underlying4] <;> rfl) ?_
    exact ⟨rfl, by simp [upd_app], by simp [upd_app, t7], _, _, _, by simp [upd_app, t0], by simp [upd_app, t1], by simp [upd_app, t5], by simp [upd_app, t6], hC.step hq hNN d4 d5 z2 (fun i _ hi => z3 i hi)⟩

set_option maxRecDepth 10000 in
theorem sw3_spec {n pc N k : Nat} {v w : Value} {g2 g : Heap} {left : List Nat} {vc vx : Value} {n' : Nat} {kd x : Int} {t : Nat → Value} (hat : Hat n k w g2 kd x) (hx : -9223372036854775808 ≤ x ∧ x ≤ 9223372036854775807) (hC : CH n pc N g2 g left vc vx n')
    (t7 : t 7 = .int .i64 k) (t0 : t 0 = v) (t1 : t 1 = w) (t5 : t 5 = pt1 pc) (t6 : t 6 = pt1 N) : awp Try.prog (Try.f15.body.getD .skip |> cr |> cr |> cr |> cl |> cr |> cb |> cb |> cr |> cl |> cb |> cr |> cl |> cr |> cb |> cr |> ce |> cr |> ce |> cr |> ct) (PK n pc N k v w g2) t g n' := by
  obtain ⟨p, q0, q1, a1, a2, a2', a3, a3'⟩ := hat g hC.k
  have o1 := hC.o1
  have o2 := hC.o2
  have o3 := hC.o3
  show awp Try.prog (.seq _ _) _ t g n'
  refine s_take 6 (by simp only [runL, List.drop_succ_cons, List.drop_zero, awant_some, Option.getD_some, List.getElem?_toArray, List.getElem?_cons_succ, List.getElem?_cons_zero, Option.bind_some, b_tt, b_tf, b_ft, b_ff, Bool.not_true, Bool.not_false, List.take_succ_cons, List.take_zero, awant_none, astep, evl, put, ap_none, ap_new, ap_wr, List.length_nil, List.length_cons, Nat.add_zero, Nat.zero_add, upd_app, stepBin, abin, stepUn, stepPick, stepExtract, stepCall, if_true, if_false, reduceCtorEq, ↓reduceIte, Nat.reduceEqDiff, Nat.reduceAdd, List.map_cons, List.map_nil, Option.map_some, Option.map_none, Bool.false_eq_true, Int.reduceLE, Int.reduceToNat, ne_eq, not_false_eq_true, and_self, and_true, true_and, decide_true, decide_false, Int.reduceEq, Int.reduceLT, Int.reduceBEq, Int.reduceBNe, not_true_eq_false, undef, t5, t1, t7, a1, a2', a3'] <;> rfl) ?_
  have hs1 := cvarint_spec pc vc left x g n' hC.l hC.b hx.2 hC.c
  cases hcv : cvar left x with
  | none =>
    rw [cvarE_none hcv] at hs1
    refine ops_call 31 _ rfl hs1 (by intro h; exact (h rfl).elim) ?_
    refine ops_run (by simp only [runL, List.drop_succ_cons, List.drop_zero, awant_some, Option.getD_some, List.getElem?_toArray, List.getElem?_cons_succ, List.getElem?_cons_zero, Option.bind_some, b_tt, b_tf, b_ft, b_ff, Bool.not_true, Bool.not_false, List.take_succ_cons, List.take_zero, awant_none, astep, evl, put, ap_none, ap_new, ap_wr, List.length_nil, List.length_cons, Nat.add_zero, Nat.zero_add, upd_app, stepBin, abin, stepUn, stepPick, stepExtract, stepCall, if_true, if_false, reduceCtorEq, ↓reduceIte, Nat.reduceEqDiff, Nat.reduceAdd, List.map_cons, List.map_nil, Option.map_some, Option.map_none, Bool.false_eq_true, Int.reduceLE, Int.reduceToNat, ne_eq, not_false_eq_true, and_self, and_true, true_and, decide_true, decide_false, Int.reduceEq, Int.reduceLT, Int.reduceBEq, Int.reduceBNe, not_true_eq_false, undef] <;> rfl) ?_
    refine s_take 6 (by simp only [runL, List.drop_succ_cons, List.drop_zero, awant_some, Option.getD_some, List.getElem?_toArray, List.getElem?_cons_succ, List.getElem?_cons_zero, Option.bind_some, b_tt, b_tf, b_ft, b_ff, Bool.not_true, Bool.not_false, List.take_succ_cons, List.take_zero, awant_none, astep, evl, put, ap_none, ap_new, ap_wr, List.length_nil, List.length_cons, Nat.add_zero, Nat.zero_add, upd_app, stepBin, abin, stepUn, stepPick, stepExtract, stepCall, if_true, if_false, reduceCtorEq, ↓reduceIte, Nat.reduceEqDiff, Nat.reduceAdd, List.map_cons, List.map_nil, Option.map_some, Option.map_none, Bool.false_eq_true, Int.reduceLE, Int.reduceToNat, ne_eq, not_false_eq_true, and_self, and_true, true_and, decide_true, decide_false, Int.reduceEq, Int.reduceLT, Int.reduceBEq, Int.reduceBNe, not_true_eq_false, undef, t6, t1, t7, a1, a2', a3'] <;> rfl) ?_
    have hs2 := rvarint_spec N vx left x g n' hC.l hC.b hx.2 hC.x
    rw [cvarE_none hcv] at hs2
    refine ops_call 38 _ rfl hs2 (by intro h; exact (h rfl).elim) ?_
    refine ops_run (by simp only [runL, List.drop_succ_cons, List.drop_zero, awant_some, Option.getD_some, List.getElem?_toArray, List.getElem?_cons_succ, List.getElem?_cons_zero, Option.bind_some, b_tt, b_tf, b_ft, b_ff, Bool.not_true, Bool.not_false, List.take_succ_cons, List.take_zero, awant_none, astep, evl, put, ap_none, ap_new, ap_wr, List.length_nil, List.length_cons, Nat.add_zero, Nat.zero_add, upd_app, stepBin, abin, stepUn, stepPick, stepExtract, stepCall, if_true, if_false, reduceCtorEq, ↓reduceIte, Nat.reduceEqDiff, Nat.reduceAdd, List.map_cons, List.map_nil, Option.map_some, Option.map_none, Bool.false_eq_true, Int.reduceLE, Int.reduceToNat, ne_eq, not_false_eq_true, and_self, and_true, true_and, decide_true, decide_false, Int.reduceEq, Int.reduceLT, Int.reduceBEq, Int.reduceBNe, not_true_eq_false, undef] <;> rfl) ?_
    refine region_run (id := 23) (by simp only [runL, List.drop_succ_cons, List.drop_zero, awant_some, Option.getD_some, List.getElem?_toArray, List.getElem?_cons_succ, List.getElem?_cons_zero, Option.bind_some, b_tt, b_tf, b_ft, b_ff, Bool.not_true, Bool.not_false, List.take_succ_cons, List.take_zero, awant_none, astep, evl, put, ap_none, ap_new, ap_wr, List.length_nil, List.length_cons, Nat.add_zero, Nat.zero_add, upd_app, stepBin, abin, stepUn, stepPick, stepExtract, stepCall, if_true, if_false, reduceCtorEq, ↓reduceIte, Nat.reduceEqDiff, Nat.reduceAdd, List.map_cons, List.map_nil, Option.map_some, Option.map_none, Bool.false_eq_true, Int.reduceLE, Int.reduceToNat, ne_eq, not_false_eq_true, and_self, and_true, true_and, decide_true, decide_false, Int.reduceEq, Int.reduceLT, Int.reduceBEq, Int.reduceBNe, not_true_eq_false, undef, beq_self_eq_true, Try.underlying4] <;> rfl) ?_
    exact ⟨rfl, by simp [upd_app], by simp [upd_app, t7], left, vc, vx, by simp [upd_app, t0], by simp [upd_app, t1], by simp [upd_app, t5], by simp [upd_app, t6], hC⟩
  | some yc =>
    obtain ⟨y, c⟩ := yc
    obtain ⟨d1, d2, d3⟩ := cvarE_some (j := n') hC.c hcv
    have hcl := (cvar_le hcv).1
    refine ops_call 31 _ rfl hs1 (by intro h; exact (h cvarE_a).elim) (ops_heap fun G1 hG1 => ?_)
    rw [← hG1] at d2 d3
    rw [d1]
    simp only [cvarE_a, List.length_nil, Nat.add_zero]
    refine ops_run (by simp only [runL, List.drop_succ_cons, List.drop_zero, awant_some, Option.getD_some, List.getElem?_toArray, List.getElem?_cons_succ, List.getElem?_cons_zero, Option.bind_some, b_tt, b_tf, b_ft, b_ff, Bool.not_true, Bool.not_false, List.take_succ_cons, List.take_zero, awant_none, astep, evl, put, ap_none, ap_new, ap_wr, List.length_nil, List.length_cons, Nat.add_zero, Nat.zero_add, upd_app, stepBin, abin, stepUn, stepPick, stepExtract, stepCall, if_true, if_false, reduceCtorEq, ↓reduceIte, Nat.reduceEqDiff, Nat.reduceAdd, List.map_cons, List.map_nil, Option.map_some, Option.map_none, Bool.false_eq_true, Int.reduceLE, Int.reduceToNat, ne_eq, not_false_eq_true, and_self, and_true, true_and, decide_true, decide_false, Int.reduceEq, Int.reduceLT, Int.reduceBEq, Int.reduceBNe, not_true_eq_false, undef] <;> rfl) ?_
    refine w_gen (fun t => t 17 = .int .i64 y ∧ t 18 = .bool true ∧ t 7 = .int .i64 k ∧ t 0 = v ∧ t 1 = w ∧ t 5 = pt1 pc ∧ t 6 = pt1 N) (by simp [upd_app, put, t7, t0, t1, t5, t6]) ?_
    clear t7 t0 t1 t5 t6
    rintro t ⟨t17, t18, t7, t0, t1, t5, t6⟩
    have hkG : Kp n g2 G1 := fun i hi => by rw [d3 i (by omega), hC.k i hi]
    obtain ⟨p', q0', q1', f1, f2, f2', f3, f3'⟩ := hat G1 hkG
    refine s_take 6 (by simp only [runL, List.drop_succ_cons, List.drop_zero, awant_some, Option.getD_some, List.getElem?_toArray, List.getElem?_cons_succ, List.getElem?_cons_zero, Option.bind_some, b_tt, b_tf, b_ft, b_ff, Bool.not_true, Bool.not_false, List.take_succ_cons, List.take_zero, awant_none, astep, evl, put, ap_none, ap_new, ap_wr, List.length_nil, List.length_cons, Nat.add_zero, Nat.zero_add, upd_app, stepBin, abin, stepUn, stepPick, stepExtract, stepCall, if_true, if_false, reduceCtorEq, ↓reduceIte, Nat.reduceEqDiff, Nat.reduceAdd, List.map_cons, List.map_nil, Option.map_some, Option.map_none, Bool.false_eq_true, Int.reduceLE, Int.reduceToNat, ne_eq, not_false_eq_true, and_self, and_true, true_and, decide_true, decide_false, Int.reduceEq, Int.reduceLT, Int.reduceBEq, Int.reduceBNe, not_true_eq_false, undef, t6, t1, t7, f1, f2', f3'] <;> rfl) ?_
    have hx1 := hC.mid (G1 := G1) (fun i _ hi => d3 i hi)
    have hs2 := rvarint_spec N vx left x G1 n' hC.l hC.b hx.2 hx1
    obtain ⟨z1, z2, z3⟩ := cvarE_some (j := n') hx1 hcv
    refine ops_call 38 _ rfl hs2 (by intro h; exact (h cvarE_a).elim) (ops_heap fun G2 hG2 => ?_)
    rw [← hG2] at z2 z3
    rw [z1]
    simp only [cvarE_a, List.length_nil, Nat.add_zero]
    refine ops_run (by simp only [runL, List.drop_succ_cons, List.drop_zero, awant_some, Option.getD_some, List.getElem?_toArray, List.getElem?_cons_succ, List.getElem?_cons_zero, Option.bind_some, b_tt, b_tf, b_ft, b_ff, Bool.not_true, Bool.not_false, List.take_succ_cons, List.take_zero, awant_none, astep, evl, put, ap_none, ap_new, ap_wr, List.length_nil, List.length_cons, Nat.add_zero, Nat.zero_add, upd_app, stepBin, abin, stepUn, stepPick, stepExtract, stepCall, if_true, if_false, reduceCtorEq, ↓reduceIte, Nat.reduceEqDiff, Nat.reduceAdd, List.map_cons, List.map_nil, Option.map_some, Option.map_none, Bool.false_eq_true, Int.reduceLE, Int.reduceToNat, ne_eq, not_false_eq_true, and_self, and_true, true_and, decide_true, decide_false, Int.reduceEq, Int.reduceLT, Int.reduceBEq, Int.reduceBNe, not_true_eq_false, undef] <;> rfl) ?_
    refine region_run (id := 23) (by simp only [runL, List.drop_succ_cons, List.drop_zero, awant_some, Option.getD_some, List.getElem?_toArray, List.getElem?_cons_succ, List.getElem?_cons_zero, Option.bind_some, b_tt, b_tf, b_ft, b_ff, Bool.not_true, Bool.not_false, List.take_succ_cons, List.take_zero, awant_none, astep, evl, put, ap_none, ap_new, ap_wr, List.length_nil, List.length_cons, Nat.add_zero, Nat.zero_add, upd_app, stepBin, abin, stepUn, stepPick, stepExtract, stepCall, if_true, if_false, reduceCtorEq, ↓reduceIte, Nat.reduceEqDiff, Nat.reduceAdd, List.map_cons, List.map_nil, Option.map_some, Option.map_none, Bool.false_eq_true, Int.reduceLE, Int.reduceToNat, ne_eq, not_false_eq_true, and_self, and_true, true_and, decide_true, decide_false, Int.reduceEq, Int.reduceLT, Int.reduceBEq, Int.reduceBNe, not_true_eq_false, undef, t17, t18, beq_self_eq_true, Try.underlying4] <;> rfl) ?_
    exact ⟨rfl, by simp [upd_app], by simp [upd_app, put, t7], _, _, _, by simp [upd_app, put, t0], by simp [upd_app, put, t1], by simp [upd_app, put, t5], by simp [upd_app, put, t6], hC.step hcl (Nat.le_refl _) d2 (fun i _ hi => d3 i hi) z2 (fun i _ hi => z3 i hi)⟩

set_option maxRecDepth 10000 in
theorem sw4_spec {n pc N k : Nat} {v w : Value} {g2 g : Heap} {left : List Nat} {vc vx : Value} {n' : Nat} {kd x : Int} {t : Nat → Value} (hat : Hat n k w g2 kd x) (hx : -9223372036854775808 ≤ x ∧ x ≤ 9223372036854775807) (hC : CH n pc N g2 g left vc vx n')
    (t7 : t 7 = .int .i64 k) (t0 : t 0 = v) (t1 : t 1 = w) (t5 : t 5 = pt1 pc) (t6 : t 6 = pt1 N) : awp Try.prog (Try.f15.body.getD .skip |> cr |> cr |> cr |> cl |> cr |> cb |> cb |> cr |> cl |> cb |> cr |> cl |> cr |> cb |> cr |> ce |> cr |> ce |> cr |> ce) (PK n pc N k v w g2) t g n' := by
  obtain ⟨p, q0, q1, a1, a2, a2', a3, a3'⟩ := hat g hC.k
  have o1 := hC.o1
  have o2 := hC.o2
  have o3 := hC.o3
  show awp Try.prog (.seq _ _) _ t g n'
  refine s_take 1 (by simp only [runL, List.drop_succ_cons, List.drop_zero, awant_some, Option.getD_some, List.getElem?_toArray, List.getElem?_cons_succ, List.getElem?_cons_zero, Option.bind_some, b_tt, b_tf, b_ft, b_ff, Bool.not_true, Bool.not_false, List.take_succ_cons, List.take_zero, awant_none, astep, evl, put, ap_none, ap_new, ap_wr, List.length_nil, List.length_cons, Nat.add_zero, Nat.zero_add, upd_app, stepBin, abin, stepUn, stepPick, stepExtract, stepCall, if_true, if_false, reduceCtorEq, ↓reduceIte, Nat.reduceEqDiff, Nat.reduceAdd, List.map_cons, List.map_nil, Option.map_some, Option.map_none, Bool.false_eq_true, Int.reduceLE, Int.reduceToNat, ne_eq, not_false_eq_true, and_self, and_true, true_and, decide_true, decide_false, Int.reduceEq, Int.reduceLT, Int.reduceBEq, Int.reduceBNe, not_true_eq_false, undef, t5] <;> rfl) ?_
  by_cases h4 : left.length < 4
  · refine ops_call 39 _ rfl (cfour_none pc vc left g hC.c h4) (by intro h; exact (h rfl).elim) ?_
    refine ops_run (by simp only [runL, List.drop_succ_cons, List.drop_zero, awant_some, Option.getD_some, List.getElem?_toArray, List.getElem?_cons_succ, List.getElem?_cons_zero, Option.bind_some, b_tt, b_tf, b_ft, b_ff, Bool.not_true, Bool.not_false, List.take_succ_cons, List.take_zero, awant_none, astep, evl, put, ap_none, ap_new, ap_wr, List.length_nil, List.length_cons, Nat.add_zero, Nat.zero_add, upd_app, stepBin, abin, stepUn, stepPick, stepExtract, stepCall, if_true, if_false, reduceCtorEq, ↓reduceIte, Nat.reduceEqDiff, Nat.reduceAdd, List.map_cons, List.map_nil, Option.map_some, Option.map_none, Bool.false_eq_true, Int.reduceLE, Int.reduceToNat, ne_eq, not_false_eq_true, and_self, and_true, true_and, decide_true, decide_false, Int.reduceEq, Int.reduceLT, Int.reduceBEq, Int.reduceBNe, not_true_eq_false, undef] <;> rfl) ?_
    refine s_take 1 (by simp only [runL, List.drop_succ_cons, List.drop_zero, awant_some, Option.getD_some, List.getElem?_toArray, List.getElem?_cons_succ, List.getElem?_cons_zero, Option.bind_some, b_tt, b_tf, b_ft, b_ff, Bool.not_true, Bool.not_false, List.take_succ_cons, List.take_zero, awant_none, astep, evl, put, ap_none, ap_new, ap_wr, List.length_nil, List.length_cons, Nat.add_zero, Nat.zero_add, upd_app, stepBin, abin, stepUn, stepPick, stepExtract, stepCall, if_true, if_false, reduceCtorEq, ↓reduceIte, Nat.reduceEqDiff, Nat.reduceAdd, List.map_cons, List.map_nil, Option.map_some, Option.map_none, Bool.false_eq_true, Int.reduceLE, Int.reduceToNat, ne_eq, not_false_eq_true, and_self, and_true, true_and, decide_true, decide_false, Int.reduceEq, Int.reduceLT, Int.reduceBEq, Int.reduceBNe, not_true_eq_false, undef, t6] <;> rfl) ?_
    refine ops_call 40 _ rfl (rfour_none N vx left g hC.x h4) (by intro h; exact (h rfl).elim) ?_
    refine ops_run (by simp only [runL, List.drop_succ_cons, List.drop_zero, awant_some, Option.getD_some, List.getElem?_toArray, List.getElem?_cons_succ, List.getElem?_cons_zero, Option.bind_some, b_tt, b_tf, b_ft, b_ff, Bool.not_true, Bool.not_false, List.take_succ_cons, List.take_zero, awant_none, astep, evl, put, ap_none, ap_new, ap_wr, List.length_nil, List.length_cons, Nat.add_zero, Nat.zero_add, upd_app, stepBin, abin, stepUn, stepPick, stepExtract, stepCall, if_true, if_false, reduceCtorEq, ↓reduceIte, Nat.reduceEqDiff, Nat.reduceAdd, List.map_cons, List.map_nil, Option.map_some, Option.map_none, Bool.false_eq_true, Int.reduceLE, Int.reduceToNat, ne_eq, not_false_eq_true, and_self, and_true, true_and, decide_true, decide_false, Int.reduceEq, Int.reduceLT, Int.reduceBEq, Int.reduceBNe, not_true_eq_false, undef] <;> rfl) ?_
    refine region_run (id := 11) (by simp only [runL, List.drop_succ_cons, List.drop_zero, awant_some, Option.getD_some, List.getElem?_toArray, List.getElem?_cons_succ, List.getElem?_cons_zero, Option.bind_some, b_tt, b_tf, b_ft, b_ff, Bool.not_true, Bool.not_false, List.take_succ_cons, List.take_zero, awant_none, astep, evl, put, ap_none, ap_new, ap_wr, List.length_nil, List.length_cons, Nat.add_zero, Nat.zero_add, upd_app, stepBin, abin, stepUn, stepPick, stepExtract, stepCall, if_true, if_false, reduceCtorEq, ↓reduceIte, Nat.reduceEqDiff, Nat.reduceAdd, List.map_cons, List.map_nil, Option.map_some, Option.map_none, Bool.false_eq_true, Int.reduceLE, Int.reduceToNat, ne_eq, not_false_eq_true, and_self, and_true, true_and, decide_true, decide_false, Int.reduceEq, Int.reduceLT, Int.reduceBEq, Int.reduceBNe, not_true_eq_false, undef, beq_self_eq_true, Try.underlying4] <;> rfl) ?_
    exact ⟨rfl, by simp [upd_app], by simp [upd_app, t7], left, vc, vx, by simp [upd_app, t0], by simp [upd_app, t1], by simp [upd_app, t5], by simp [upd_app, t6], hC⟩
  · have h4' : 4 ≤ left.length := by omega
    obtain ⟨F, hF⟩ : ∃ F : Nat, F = fourv left := ⟨_, rfl⟩
    have hs1 := cfour_some pc vc left g hC.l hC.b hC.c h4' n'
    rw [← hF] at hs1
    refine ops_call 39 _ rfl hs1 (by intro h; exact (h rfl).elim) (ops_heap fun G1 hG1 => ?_)
    obtain ⟨w1, w2⟩ := wr1_ap (v := .tuple #[.int .u32 F, .bool true]) (r := pc :: srcBlk vc) (p := pc) (j := n') (b := ⟨false, 68, [slV vc 4 left.length]⟩) g
    rw [← hG1] at w1 w2
    have c1 := hC.c.taken h4' w1 (fun i hi => w2 i fun e => hC.c.ne (e ▸ hi))
    refine ops_run (by simp only [runL, List.drop_succ_cons, List.drop_zero, awant_some, Option.getD_some, List.getElem?_toArray, List.getElem?_cons_succ, List.getElem?_cons_zero, Option.bind_some, b_tt, b_tf, b_ft, b_ff, Bool.not_true, Bool.not_false, List.take_succ_cons, List.take_zero, awant_none, astep, evl, put, ap_none, ap_new, ap_wr, List.length_nil, List.length_cons, Nat.add_zero, Nat.zero_add, upd_app, stepBin, abin, stepUn, stepPick, stepExtract, stepCall, if_true, if_false, reduceCtorEq, ↓reduceIte, Nat.reduceEqDiff, Nat.reduceAdd, List.map_cons, List.map_nil, Option.map_some, Option.map_none, Bool.false_eq_true, Int.reduceLE, Int.reduceToNat, ne_eq, not_false_eq_true, and_self, and_true, true_and, decide_true, decide_false, Int.reduceEq, Int.reduceLT, Int.reduceBEq, Int.reduceBNe, not_true_eq_false, undef] <;> rfl) ?_
    refine s_take 1 (by simp only [runL, List.drop_succ_cons, List.drop_zero, awant_some, Option.getD_some, List.getElem?_toArray, List.getElem?_cons_succ, List.getElem?_cons_zero, Option.bind_some, b_tt, b_tf, b_ft, b_ff, Bool.not_true, Bool.not_false, List.take_succ_cons, List.take_zero, awant_none, astep, evl, put, ap_none, ap_new, ap_wr, List.length_nil, List.length_cons, Nat.add_zero, Nat.zero_add, upd_app, stepBin, abin, stepUn, stepPick, stepExtract, stepCall, if_true, if_false, reduceCtorEq, ↓reduceIte, Nat.reduceEqDiff, Nat.reduceAdd, List.map_cons, List.map_nil, Option.map_some, Option.map_none, Bool.false_eq_true, Int.reduceLE, Int.reduceToNat, ne_eq, not_false_eq_true, and_self, and_true, true_and, decide_true, decide_false, Int.reduceEq, Int.reduceLT, Int.reduceBEq, Int.reduceBNe, not_true_eq_false, undef, t6] <;> rfl) ?_
    have hx1 := hC.mid (G1 := G1) (fun i _ hi => w2 i hi)
    have hs2 := rfour_some N vx left G1 hC.l hC.b hx1 h4' n'
    rw [← hF] at hs2
    refine ops_call 40 _ rfl hs2 (by intro h; exact (h rfl).elim) (ops_heap fun G2 hG2 => ?_)
    obtain ⟨y1, y2⟩ := wr1_ap (v := .tuple #[.int .u32 F, .bool true]) (r := N :: srcBlk vx) (p := N) (j := n') (b := ⟨false, 55, [slV vx 4 left.length]⟩) G1
    rw [← hG2] at y1 y2
    have x1 := hx1.taken h4' y1 (fun i hi => y2 i fun e => hx1.ne (e ▸ hi))
    refine ops_run (by simp only [runL, List.drop_succ_cons, List.drop_zero, awant_some, Option.getD_some, List.getElem?_toArray, List.getElem?_cons_succ, List.getElem?_cons_zero, Option.bind_some, b_tt, b_tf, b_ft, b_ff, Bool.not_true, Bool.not_false, List.take_succ_cons, List.take_zero, awant_none, astep, evl, put, ap_none, ap_new, ap_wr, List.length_nil, List.length_cons, Nat.add_zero, Nat.zero_add, upd_app, stepBin, abin, stepUn, stepPick, stepExtract, stepCall, if_true, if_false, reduceCtorEq, ↓reduceIte, Nat.reduceEqDiff, Nat.reduceAdd, List.map_cons, List.map_nil, Option.map_some, Option.map_none, Bool.false_eq_true, Int.reduceLE, Int.reduceToNat, ne_eq, not_false_eq_true, and_self, and_true, true_and, decide_true, decide_false, Int.reduceEq, Int.reduceLT, Int.reduceBEq, Int.reduceBNe, not_true_eq_false, undef] <;> rfl) ?_
    refine region_run (id := 11) (by simp only [runL, List.drop_succ_cons, List.drop_zero, awant_some, Option.getD_some, List.getElem?_toArray, List.getElem?_cons_succ, List.getElem?_cons_zero, Option.bind_some, b_tt, b_tf, b_ft, b_ff, Bool.not_true, Bool.not_false, List.take_succ_cons, List.take_zero, awant_none, astep, evl, put, ap_none, ap_new, ap_wr, List.length_nil, List.length_cons, Nat.add_zero, Nat.zero_add, upd_app, stepBin, abin, stepUn, stepPick, stepExtract, stepCall, if_true, if_false, reduceCtorEq, ↓reduceIte, Nat.reduceEqDiff, Nat.reduceAdd, List.map_cons, List.map_nil, Option.map_some, Option.map_none, Bool.false_eq_true, Int.reduceLE, Int.reduceToNat, ne_eq, not_false_eq_true, and_self, and_true, true_and, decide_true, decide_false, Int.reduceEq, Int.reduceLT, Int.reduceBEq, Int.reduceBNe, not_true_eq_false, undef, beq_self_eq_true, Try.underlying4] <;> rfl) ?_
    exact ⟨rfl, by simp [upd_app], by simp [upd_app, put, t7], _, _, _, by simp [upd_app, put, t0], by simp [upd_app, put, t1], by simp [upd_app, put, t5], by simp [upd_app, put, t6], hC.step h4' (Nat.le_refl _) c1 (fun i _ hi => w2 i hi) x1 (fun i _ hi => y2 i hi)⟩

end Go.Proofs.Ytokmmcfnpobldaa

namespace Go.Proofs.Ytokmmcfnpobldaa
open Go Abs
set_option linter.unusedSimpArgs false
set_option linter.unusedVariables false

set_option maxRecDepth 10000 in
theorem lawCPlays_spec (v w : Value) (l : List Nat) (zs : List Int) (len : Nat) (g : Heap) (hb : ∀ x ∈ l, x < 256) (hz : ∀ x ∈ zs, -9223372036854775808 ≤ x ∧ x ≤ 9223372036854775807) (hzl : zs.length = len * 2) (hv : Src g v 1 l.length (bs l)) (hw : Src g w 2 len (zs.map (Value.int .i64))) :
    FnSpec Try.prog 15 [v, w] g { v := .bool true, r := srcBlk v ++ srcBlk w } := by
  refine spec_of_body [4] follows Try.func15 rfl (by kernel_rfl) (by simp [Try.f15]) (by kernel_rfl) rfl ?_
  intro g2 s2 n hg hfr hs hn hwf hsv
  have hv2 : Src g2 v 1 l.length (bs l) := hv.congr fun i hi => hg i (by simp [Eff.fp, hi])
  have hw2 : Src g2 w 2 len (zs.map (Value.int .i64)) := hw.congr fun i hi => hg i (by simp [Eff.fp, hi])
  have hlen := hv2.len Try.underlying23
  have hlenw := hw2.len Try.underlying52
  have hdom : ∀ i ∈ srcBlk v, i < n := fun i hi => by
    obtain ⟨b, hb⟩ := Option.isSome_iff_exists.1 (hv2.dom i hi)
    exact hs i (hwf i b hb).1
  have hdomw : ∀ i ∈ srcBlk w, i < n := fun i hi => by
    obtain ⟨b, hb⟩ := Option.isSome_iff_exists.1 (hw2.dom i hi)
    exact hs i (hwf i b hb).1
  refine s_run (by simp only [runL, List.drop_succ_cons, List.drop_zero, awant_some, Option.getD_some, List.getElem?_toArray, List.getElem?_cons_succ, List.getElem?_cons_zero, Option.bind_some, b_tt, b_tf, b_ft, b_ff, Bool.not_true, Bool.not_false, List.take_succ_cons, List.take_zero, awant_none, astep, evl, put, ap_none, ap_new, ap_wr, List.length_nil, List.length_cons, Nat.add_zero, Nat.zero_add, upd_app, stepBin, abin, stepUn, stepPick, stepExtract, stepCall, if_true, if_false, reduceCtorEq, ↓reduceIte, Nat.reduceEqDiff, Nat.reduceAdd, List.map_cons, List.map_nil, Option.map_some, Option.map_none, Bool.false_eq_true, Int.reduceLE, Int.reduceToNat, ne_eq, not_false_eq_true, and_self, and_true, true_and, decide_true, decide_false, Int.reduceEq, Int.reduceLT, Int.reduceBEq, Int.reduceBNe, not_true_eq_false, undef] <;> rfl) ?_
  by_cases ea1 : (l.length : Int) > 300
  · have ed1 : (decide ((l.length : Int) > 300)) = true := decide_eq_true ea1
    refine w_assoc (s_run (by simp only [runL, List.drop_succ_cons, List.drop_zero, awant_some, Option.getD_some, List.getElem?_toArray, List.getElem?_cons_succ, List.getElem?_cons_zero, Option.bind_some, b_tt, b_tf, b_ft, b_ff, Bool.not_true, Bool.not_false, List.take_succ_cons, List.take_zero, awant_none, astep, evl, put, ap_none, ap_new, ap_wr, List.length_nil, List.length_cons, Nat.add_zero, Nat.zero_add, upd_app, stepBin, abin, stepUn, stepPick, stepExtract, stepCall, if_true, if_false, reduceCtorEq, ↓reduceIte, Nat.reduceEqDiff, Nat.reduceAdd, List.map_cons, List.map_nil, Option.map_some, Option.map_none, Bool.false_eq_true, Int.reduceLE, Int.reduceToNat, ne_eq, not_false_eq_true, and_self, and_true, true_and, decide_true, decide_false, Int.reduceEq, Int.reduceLT, Int.reduceBEq, Int.reduceBNe, not_true_eq_false, undef, hlen, hlenw, ed1] <;> rfl) ?_)
    refine s_true (by simp [evl, upd_app]) (w_assoc (s_run (by simp only [runL, List.drop_succ_cons, List.drop_zero, awant_some, Option.getD_some, List.getElem?_toArray, List.getElem?_cons_succ, List.getElem?_cons_zero, Option.bind_some, b_tt, b_tf, b_ft, b_ff, Bool.not_true, Bool.not_false, List.take_succ_cons, List.take_zero, awant_none, astep, evl, put, ap_none, ap_new, ap_wr, List.length_nil, List.length_cons, Nat.add_zero, Nat.zero_add, upd_app, stepBin, abin, stepUn, stepPick, stepExtract, stepCall, if_true, if_false, reduceCtorEq, ↓reduceIte, Nat.reduceEqDiff, Nat.reduceAdd, List.map_cons, List.map_nil, Option.map_some, Option.map_none, Bool.false_eq_true, Int.reduceLE, Int.reduceToNat, ne_eq, not_false_eq_true, and_self, and_true, true_and, decide_true, decide_false, Int.reduceEq, Int.reduceLT, Int.reduceBEq, Int.reduceBNe, not_true_eq_false, undef] <;> rfl) ?_))
    refine s_ret ⟨.inr rfl, by simp, [], fin_none ?_ trivial (fun _ _ h => h)⟩
    simp [resVal, upd_app]
  have ed1 : (decide ((l.length : Int) > 300)) = false := decide_eq_false ea1
  by_cases ea2 : (len : Int) > 100
  · have ed2 : (decide ((len : Int) > 100)) = true := decide_eq_true ea2
    refine w_assoc (s_run (by simp only [runL, List.drop_succ_cons, List.drop_zero, awant_some, Option.getD_some, List.getElem?_toArray, List.getElem?_cons_succ, List.getElem?_cons_zero, Option.bind_some, b_tt, b_tf, b_ft, b_ff, Bool.not_true, Bool.not_false, List.take_succ_cons, List.take_zero, awant_none, astep, evl, put, ap_none, ap_new, ap_wr, List.length_nil, List.length_cons, Nat.add_zero, Nat.zero_add, upd_app, stepBin, abin, stepUn, stepPick, stepExtract, stepCall, if_true, if_false, reduceCtorEq, ↓reduceIte, Nat.reduceEqDiff, Nat.reduceAdd, List.map_cons, List.map_nil, Option.map_some, Option.map_none, Bool.false_eq_true, Int.reduceLE, Int.reduceToNat, ne_eq, not_false_eq_true, and_self, and_true, true_and, decide_true, decide_false, Int.reduceEq, Int.reduceLT, Int.reduceBEq, Int.reduceBNe, not_true_eq_false, undef, hlen, hlenw, ed1, ed2] <;> rfl) ?_)
    refine s_true (by simp [evl, upd_app]) (w_assoc (s_run (by simp only [runL, List.drop_succ_cons, List.drop_zero, awant_some, Option.getD_some, List.getElem?_toArray, List.getElem?_cons_succ, List.getElem?_cons_zero, Option.bind_some, b_tt, b_tf, b_ft, b_ff, Bool.not_true, Bool.not_false, List.take_succ_cons, List.take_zero, awant_none, astep, evl, put, ap_none, ap_new, ap_wr, List.length_nil, List.length_cons, Nat.add_zero, Nat.zero_add, upd_app, stepBin, abin, stepUn, stepPick, stepExtract, stepCall, if_true, if_false, reduceCtorEq, ↓reduceIte, Nat.reduceEqDiff, Nat.reduceAdd, List.map_cons, List.map_nil, Option.map_some, Option.map_none, Bool.false_eq_true, Int.reduceLE, Int.reduceToNat, ne_eq, not_false_eq_true, and_self, and_true, true_and, decide_true, decide_false, Int.reduceEq, Int.reduceLT, Int.reduceBEq, Int.reduceBNe, not_true_eq_false, undef] <;> rfl) ?_))
    refine s_ret ⟨.inr rfl, by simp, [], fin_none ?_ trivial (fun _ _ h => h)⟩
    simp [resVal, upd_app]
  have ed2 : (decide ((len : Int) > 100)) = false := decide_eq_false ea2
  refine w_assoc (s_run (by simp only [runL, List.drop_succ_cons, List.drop_zero, awant_some, Option.getD_some, List.getElem?_toArray, List.getElem?_cons_succ, List.getElem?_cons_zero, Option.bind_some, b_tt, b_tf, b_ft, b_ff, Bool.not_true, Bool.not_false, List.take_succ_cons, List.take_zero, awant_none, astep, evl, put, ap_none, ap_new, ap_wr, List.length_nil, List.length_cons, Nat.add_zero, Nat.zero_add, upd_app, stepBin, abin, stepUn, stepPick, stepExtract, stepCall, if_true, if_false, reduceCtorEq, ↓reduceIte, Nat.reduceEqDiff, Nat.reduceAdd, List.map_cons, List.map_nil, Option.map_some, Option.map_none, Bool.false_eq_true, Int.reduceLE, Int.reduceToNat, ne_eq, not_false_eq_true, and_self, and_true, true_and, decide_true, decide_false, Int.reduceEq, Int.reduceLT, Int.reduceBEq, Int.reduceBNe, not_true_eq_false, undef, hlen, hlenw, ed1, ed2] <;> rfl) ?_)
  refine s_false (by simp [evl, upd_app]) (s_skip ?_)
  refine w_gen (fun t => t 0 = v ∧ t 1 = w) (by simp [upd_app]) ?_
  rintro t ⟨t0, t1⟩
  have kz : Kp n g2 (upd g2 n (some ⟨false, 5, []⟩)) := kp_upd (Kp.refl _ _) (Nat.le_refl _)
  have hz0 : OwnB 5 (upd g2 n (some ⟨false, 5, []⟩)) (.slice (some ⟨n, 0, some 0⟩) 0 1) [] n := ⟨rfl, by simp⟩
  obtain ⟨f, hf, hfa, hO, hk⟩ := hz0.append (P := Try.prog) (T := 23) (j := n + 1) (y := v) (news := bs l) (by simpa using kz.src hv2 hdom) Try.underlying23 tinf5 (by simp; omega) (by omega)
  rw [List.nil_append] at hO
  refine s_take 3 (by simp only [runL, List.drop_succ_cons, List.drop_zero, awant_some, Option.getD_some, List.getElem?_toArray, List.getElem?_cons_succ, List.getElem?_cons_zero, Option.bind_some, b_tt, b_tf, b_ft, b_ff, Bool.not_true, Bool.not_false, List.take_succ_cons, List.take_zero, awant_none, astep, evl, put, ap_none, ap_new, ap_wr, List.length_nil, List.length_cons, Nat.add_zero, Nat.zero_add, upd_app, stepBin, abin, stepUn, stepPick, stepExtract, stepCall, if_true, if_false, reduceCtorEq, ↓reduceIte, Nat.reduceEqDiff, Nat.reduceAdd, List.map_cons, List.map_nil, Option.map_some, Option.map_none, Bool.false_eq_true, Int.reduceLE, Int.reduceToNat, ne_eq, not_false_eq_true, and_self, and_true, true_and, decide_true, decide_false, Int.reduceEq, Int.reduceLT, Int.reduceBEq, Int.reduceBNe, not_true_eq_false, undef, t0, lit0', hf] <;> rfl) (ops_heap fun G1 hG1 => ?_)
  rw [← hG1] at hO
  have k1 : Kp n g2 G1 := fun i hi => by rw [hG1, hk i (by omega), upd_ne _ _ (by omega)]
  simp only [hfa, List.length_nil, Nat.add_zero]
  have hOs : Src G1 f.v 1 l.length (bs l) := by simpa using hO.src
  obtain ⟨u1, u2, u3, u4, u5, vc, u6, u7⟩ := cnewE_use (n + 1) hOs
  have hc : FnSpec Try.prog 30 [f.v] G1 (cnewE f.v l (n + 1)) := cnew_spec f.v l G1 (n + 1) (by omega) hOs
  refine ops_call 30 _ rfl hc (by intro _; exact u2) (ops_heap fun G2 hG2 => ops_num fun N hN => ?_)
  rw [← hG2] at u4 u6
  rw [← hN] at u5 u7
  rw [u1]
  clear hN
  have hvs : ∃ a m e, v = .slice a m e := by obtain ⟨a, e, h⟩ := hv2.shape; exact ⟨a, _, e, h⟩
  refine ops_run (by simp only [runL, List.drop_succ_cons, List.drop_zero, awant_some, Option.getD_some, List.getElem?_toArray, List.getElem?_cons_succ, List.getElem?_cons_zero, Option.bind_some, b_tt, b_tf, b_ft, b_ff, Bool.not_true, Bool.not_false, List.take_succ_cons, List.take_zero, awant_none, astep, evl, put, ap_none, ap_new, ap_wr, List.length_nil, List.length_cons, Nat.add_zero, Nat.zero_add, upd_app, stepBin, abin, stepUn, stepPick, stepExtract, stepCall, if_true, if_false, reduceCtorEq, ↓reduceIte, Nat.reduceEqDiff, Nat.reduceAdd, List.map_cons, List.map_nil, Option.map_some, Option.map_none, Bool.false_eq_true, Int.reduceLE, Int.reduceToNat, ne_eq, not_false_eq_true, and_self, and_true, true_and, decide_true, decide_false, Int.reduceEq, Int.reduceLT, Int.reduceBEq, Int.reduceBNe, not_true_eq_false, undef, t0, build55 hvs, box1] <;> rfl) (w_heap fun G3 hG3 => ?_)
  have k3 : ∀ i, i < N → G3 i = G2 i := fun i hi => by rw [hG3]; simp [upd_app]; omega
  have hCH : CH n (n + 1) N g2 G3 l vc v (N + 1) := by
    refine ⟨u6.keep (k3 _ u5) (fun i hi => k3 i (u7 i hi).2), ⟨by rw [hG3]; simp [upd_app], ?_, fun h => by have := hdom N h; omega⟩, hb, by omega, u7, hdom, fun i hi => by rw [k3 i (by omega), u4 i (by omega), k1 i hi], by omega, u5, by omega⟩
    exact hv2.congr fun i hi => by have := hdom i hi; rw [k3 i (by omega), u4 i (by omega), k1 i this]
  refine w_gen (fun t => t 0 = v ∧ t 1 = w ∧ t 5 = pt1 (n + 1) ∧ t 6 = pt1 N) (by simp [upd_app, put, t0, t1]) ?_
  clear t0 t1
  rintro t ⟨t0, t1, t5, t6⟩
  generalize n + 1 = pc at hCH t5
  refine w_assoc (s_run (by simp only [runL, List.drop_succ_cons, List.drop_zero, awant_some, Option.getD_some, List.getElem?_toArray, List.getElem?_cons_succ, List.getElem?_cons_zero, Option.bind_some, b_tt, b_tf, b_ft, b_ff, Bool.not_true, Bool.not_false, List.take_succ_cons, List.take_zero, awant_none, astep, evl, put, ap_none, ap_new, ap_wr, List.length_nil, List.length_cons, Nat.add_zero, Nat.zero_add, upd_app, stepBin, abin, stepUn, stepPick, stepExtract, stepCall, if_true, if_false, reduceCtorEq, ↓reduceIte, Nat.reduceEqDiff, Nat.reduceAdd, List.map_cons, List.map_nil, Option.map_some, Option.map_none, Bool.false_eq_true, Int.reduceLE, Int.reduceToNat, ne_eq, not_false_eq_true, and_self, and_true, true_and, decide_true, decide_false, Int.reduceEq, Int.reduceLT, Int.reduceBEq, Int.reduceBNe, not_true_eq_false, undef] <;> rfl) ?_)
  refine s_for 0 len (fun k t g n' => ∃ (left : List Nat) (vc vx : Value), t 0 = v ∧ t 1 = w ∧ t 5 = pt1 pc ∧ t 6 = pt1 N ∧ CH n pc N g2 g left vc vx n') (by omega) (by omega) (by simp [upd_app])
    ⟨l, vc, v, by simp [upd_app, t0], by simp [upd_app, t1], by simp [upd_app, t5], by simp [upd_app, t6], hCH⟩ ?_ ?_ ?_
  · clear t0 t1 t5 t6
    rintro k t g n' hk t7 ⟨left, vc, vx, t0, t1, t5, t6, hC⟩
    have dl : decide ((k : Int) < (len : Int)) = decide (k < len) := by simp
    exact ⟨_, (by simp only [runL, List.drop_succ_cons, List.drop_zero, awant_some, Option.getD_some, List.getElem?_toArray, List.getElem?_cons_succ, List.getElem?_cons_zero, Option.bind_some, b_tt, b_tf, b_ft, b_ff, Bool.not_true, Bool.not_false, List.take_succ_cons, List.take_zero, awant_none, astep, evl, put, ap_none, ap_new, ap_wr, List.length_nil, List.length_cons, Nat.add_zero, Nat.zero_add, upd_app, stepBin, abin, stepUn, stepPick, stepExtract, stepCall, if_true, if_false, reduceCtorEq, ↓reduceIte, Nat.reduceEqDiff, Nat.reduceAdd, List.map_cons, List.map_nil, Option.map_some, Option.map_none, Bool.false_eq_true, Int.reduceLE, Int.reduceToNat, ne_eq, not_false_eq_true, and_self, and_true, true_and, decide_true, decide_false, Int.reduceEq, Int.reduceLT, Int.reduceBEq, Int.reduceBNe, not_true_eq_false, undef, t7, t1, t5, hlenw, dl, Try.underlying43, Option.isNone_some] <;> rfl), by simp [upd_app], by simp [upd_app, t7], left, vc, vx, by simp [upd_app, t0], by simp [upd_app, t1], by simp [upd_app, t5], by simp [upd_app, t6], hC⟩
  · clear t0 t1 t5 t6 hCH
    rintro k t g n' hk t7 ⟨left, vc, vx, t0, t1, t5, t6, hC⟩
    have hk2 : k * 2 + 1 < zs.length := by omega
    have hat : ∀ (G : Heap), Kp n g2 G → ∃ p q0 q1, (∀ kk, stepIndex Try.prog 52 w (.int kk (k : Int)) = some { v := .pointer (some p) }) ∧ stepField Try.prog 57 (.pointer (some p)) 0 = some { v := .pointer (some q0) } ∧ stepField Try.prog 57 (.pointer (some p)) 1 = some { v := .pointer (some q1) } ∧
        stepLoad Try.prog 3 (.pointer (some q0)) G = some { v := .int .i64 zs[k * 2], r := [q0.block] } ∧ stepLoad Try.prog 3 (.pointer (some q1)) G = some { v := .int .i64 zs[k * 2 + 1], r := [q1.block] } := by
      intro G hG
      have hwG := hG.src hw2 hdomw
      obtain ⟨p, q0, a1, a2, a3, _⟩ := hwG.atS (P := Try.prog) (I := 3) hk (f := 0) (by omega) (c := .int .i64 zs[k * 2]) (by simp) Try.underlying52 tsize57 foff57_0 aggT3
      obtain ⟨p', q1, b1, b2, b3, _⟩ := hwG.atS (P := Try.prog) (I := 3) hk (f := 1) (by omega) (c := .int .i64 zs[k * 2 + 1]) (by simp) Try.underlying52 tsize57 foff57_1 aggT3
      have hp : p = p' := by have := (a1 .i64).symm.trans (b1 .i64); simpa using this
      subst hp
      exact ⟨p, q0, q1, a1, a2, b2, a3, b3⟩
    have hx := hz _ (List.getElem_mem hk2)
    generalize zs[k * 2] = kd at hat
    generalize zs[k * 2 + 1] = x at hat hx
    refine s_run (by simp only [runL, List.drop_succ_cons, List.drop_zero, awant_some, Option.getD_some, List.getElem?_toArray, List.getElem?_cons_succ, List.getElem?_cons_zero, Option.bind_some, b_tt, b_tf, b_ft, b_ff, Bool.not_true, Bool.not_false, List.take_succ_cons, List.take_zero, awant_none, astep, evl, put, ap_none, ap_new, ap_wr, List.length_nil, List.length_cons, Nat.add_zero, Nat.zero_add, upd_app, stepBin, abin, stepUn, stepPick, stepExtract, stepCall, if_true, if_false, reduceCtorEq, ↓reduceIte, Nat.reduceEqDiff, Nat.reduceAdd, List.map_cons, List.map_nil, Option.map_some, Option.map_none, Bool.false_eq_true, Int.reduceLE, Int.reduceToNat, ne_eq, not_false_eq_true, and_self, and_true, true_and, decide_true, decide_false, Int.reduceEq, Int.reduceLT, Int.reduceBEq, Int.reduceBNe, not_true_eq_false, undef] <;> rfl) ?_
    refine s_cut (fun t g' n'' => t 8 = .bool true ∧ t 7 = .int .i64 k ∧ ∃ (left : List Nat) (vc vx : Value), t 0 = v ∧ t 1 = w ∧ t 5 = pt1 pc ∧ t 6 = pt1 N ∧ CH n pc N g2 g' left vc vx n'') ?_ ?_
    · obtain ⟨p, q0, q1, a1, a2, a2', a3, a3'⟩ := hat g hC.k
      refine s_run (by simp only [runL, List.drop_succ_cons, List.drop_zero, awant_some, Option.getD_some, List.getElem?_toArray, List.getElem?_cons_succ, List.getElem?_cons_zero, Option.bind_some, b_tt, b_tf, b_ft, b_ff, Bool.not_true, Bool.not_false, List.take_succ_cons, List.take_zero, awant_none, astep, evl, put, ap_none, ap_new, ap_wr, List.length_nil, List.length_cons, Nat.add_zero, Nat.zero_add, upd_app, stepBin, abin, stepUn, stepPick, stepExtract, stepCall, if_true, if_false, reduceCtorEq, ↓reduceIte, Nat.reduceEqDiff, Nat.reduceAdd, List.map_cons, List.map_nil, Option.map_some, Option.map_none, Bool.false_eq_true, Int.reduceLE, Int.reduceToNat, ne_eq, not_false_eq_true, and_self, and_true, true_and, decide_true, decide_false, Int.reduceEq, Int.reduceLT, Int.reduceBEq, Int.reduceBNe, not_true_eq_false, undef, t1, t7, a1, a2, a3] <;> rfl) ?_
      refine w_gen (fun t => t 54 = .int .i64 kd ∧ t 7 = .int .i64 k ∧ t 0 = v ∧ t 1 = w ∧ t 5 = pt1 pc ∧ t 6 = pt1 N) (by simp [upd_app, t7, t0, t1, t5, t6]) ?_
      clear t7 t0 t1 t5 t6
      rintro t ⟨t54, t7, t0, t1, t5, t6⟩
      refine w_block ?_
      have o1 := hC.o1
      have o2 := hC.o2
      have o3 := hC.o3
      by_cases c1 : kd = 1
      · have e1 : (kd == 1) = true := ieq_t c1
        refine s_run (by simp only [runL, List.drop_succ_cons, List.drop_zero, awant_some, Option.getD_some, List.getElem?_toArray, List.getElem?_cons_succ, List.getElem?_cons_zero, Option.bind_some, b_tt, b_tf, b_ft, b_ff, Bool.not_true, Bool.not_false, List.take_succ_cons, List.take_zero, awant_none, astep, evl, put, ap_none, ap_new, ap_wr, List.length_nil, List.length_cons, Nat.add_zero, Nat.zero_add, upd_app, stepBin, abin, stepUn, stepPick, stepExtract, stepCall, if_true, if_false, reduceCtorEq, ↓reduceIte, Nat.reduceEqDiff, Nat.reduceAdd, List.map_cons, List.map_nil, Option.map_some, Option.map_none, Bool.false_eq_true, Int.reduceLE, Int.reduceToNat, ne_eq, not_false_eq_true, and_self, and_true, true_and, decide_true, decide_false, Int.reduceEq, Int.reduceLT, Int.reduceBEq, Int.reduceBNe, not_true_eq_false, undef, t54, e1] <;> rfl) (w_true (by simp [evl, upd_app]) ?_)
        exact awp_mono (fun e t g n h => by obtain ⟨rfl, h⟩ := h; exact ⟨rfl, h⟩) (sw1_spec hat hx hC t7 t0 t1 t5 t6)
      have e1 : (kd == 1) = false := ieq_f c1
      refine s_run (by simp only [runL, List.drop_succ_cons, List.drop_zero, awant_some, Option.getD_some, List.getElem?_toArray, List.getElem?_cons_succ, List.getElem?_cons_zero, Option.bind_some, b_tt, b_tf, b_ft, b_ff, Bool.not_true, Bool.not_false, List.take_succ_cons, List.take_zero, awant_none, astep, evl, put, ap_none, ap_new, ap_wr, List.length_nil, List.length_cons, Nat.add_zero, Nat.zero_add, upd_app, stepBin, abin, stepUn, stepPick, stepExtract, stepCall, if_true, if_false, reduceCtorEq, ↓reduceIte, Nat.reduceEqDiff, Nat.reduceAdd, List.map_cons, List.map_nil, Option.map_some, Option.map_none, Bool.false_eq_true, Int.reduceLE, Int.reduceToNat, ne_eq, not_false_eq_true, and_self, and_true, true_and, decide_true, decide_false, Int.reduceEq, Int.reduceLT, Int.reduceBEq, Int.reduceBNe, not_true_eq_false, undef, t54, e1] <;> rfl) (w_false (by simp [evl, upd_app]) ?_)
      by_cases c2 : kd = 2
      · have e2 : (kd == 2) = true := ieq_t c2
        refine s_run (by simp only [runL, List.drop_succ_cons, List.drop_zero, awant_some, Option.getD_some, List.getElem?_toArray, List.getElem?_cons_succ, List.getElem?_cons_zero, Option.bind_some, b_tt, b_tf, b_ft, b_ff, Bool.not_true, Bool.not_false, List.take_succ_cons, List.take_zero, awant_none, astep, evl, put, ap_none, ap_new, ap_wr, List.length_nil, List.length_cons, Nat.add_zero, Nat.zero_add, upd_app, stepBin, abin, stepUn, stepPick, stepExtract, stepCall, if_true, if_false, reduceCtorEq, ↓reduceIte, Nat.reduceEqDiff, Nat.reduceAdd, List.map_cons, List.map_nil, Option.map_some, Option.map_none, Bool.false_eq_true, Int.reduceLE, Int.reduceToNat, ne_eq, not_false_eq_true, and_self, and_true, true_and, decide_true, decide_false, Int.reduceEq, Int.reduceLT, Int.reduceBEq, Int.reduceBNe, not_true_eq_false, undef, t54, e2] <;> rfl) (w_true (by simp [evl, upd_app]) ?_)
        exact awp_mono (fun e t g n h => by obtain ⟨rfl, h⟩ := h; exact ⟨rfl, h⟩) (sw2_spec hat hx hC t7 t0 t1 t5 t6)
      have e2 : (kd == 2) = false := ieq_f c2
      refine s_run (by simp only [runL, List.drop_succ_cons, List.drop_zero, awant_some, Option.getD_some, List.getElem?_toArray, List.getElem?_cons_succ, List.getElem?_cons_zero, Option.bind_some, b_tt, b_tf, b_ft, b_ff, Bool.not_true, Bool.not_false, List.take_succ_cons, List.take_zero, awant_none, astep, evl, put, ap_none, ap_new, ap_wr, List.length_nil, List.length_cons, Nat.add_zero, Nat.zero_add, upd_app, stepBin, abin, stepUn, stepPick, stepExtract, stepCall, if_true, if_false, reduceCtorEq, ↓reduceIte, Nat.reduceEqDiff, Nat.reduceAdd, List.map_cons, List.map_nil, Option.map_some, Option.map_none, Bool.false_eq_true, Int.reduceLE, Int.reduceToNat, ne_eq, not_false_eq_true, and_self, and_true, true_and, decide_true, decide_false, Int.reduceEq, Int.reduceLT, Int.reduceBEq, Int.reduceBNe, not_true_eq_false, undef, t54, e2] <;> rfl) (w_false (by simp [evl, upd_app]) ?_)
      by_cases c3 : kd = 3
      · have e3 : (kd == 3) = true := ieq_t c3
        refine s_run (by simp only [runL, List.drop_succ_cons, List.drop_zero, awant_some, Option.getD_some, List.getElem?_toArray, List.getElem?_cons_succ, List.getElem?_cons_zero, Option.bind_some, b_tt, b_tf, b_ft, b_ff, Bool.not_true, Bool.not_false, List.take_succ_cons, List.take_zero, awant_none, astep, evl, put, ap_none, ap_new, ap_wr, List.length_nil, List.length_cons, Nat.add_zero, Nat.zero_add, upd_app, stepBin, abin, stepUn, stepPick, stepExtract, stepCall, if_true, if_false, reduceCtorEq, ↓reduceIte, Nat.reduceEqDiff, Nat.reduceAdd, List.map_cons, List.map_nil, Option.map_some, Option.map_none, Bool.false_eq_true, Int.reduceLE, Int.reduceToNat, ne_eq, not_false_eq_true, and_self, and_true, true_and, decide_true, decide_false, Int.reduceEq, Int.reduceLT, Int.reduceBEq, Int.reduceBNe, not_true_eq_false, undef, t54, e3] <;> rfl) (w_true (by simp [evl, upd_app]) ?_)
        exact awp_mono (fun e t g n h => by obtain ⟨rfl, h⟩ := h; exact ⟨rfl, h⟩) (sw3_spec hat hx hC t7 t0 t1 t5 t6)
      have e3 : (kd == 3) = false := ieq_f c3
      refine s_run (by simp only [runL, List.drop_succ_cons, List.drop_zero, awant_some, Option.getD_some, List.getElem?_toArray, List.getElem?_cons_succ, List.getElem?_cons_zero, Option.bind_some, b_tt, b_tf, b_ft, b_ff, Bool.not_true, Bool.not_false, List.take_succ_cons, List.take_zero, awant_none, astep, evl, put, ap_none, ap_new, ap_wr, List.length_nil, List.length_cons, Nat.add_zero, Nat.zero_add, upd_app, stepBin, abin, stepUn, stepPick, stepExtract, stepCall, if_true, if_false, reduceCtorEq, ↓reduceIte, Nat.reduceEqDiff, Nat.reduceAdd, List.map_cons, List.map_nil, Option.map_some, Option.map_none, Bool.false_eq_true, Int.reduceLE, Int.reduceToNat, ne_eq, not_false_eq_true, and_self, and_true, true_and, decide_true, decide_false, Int.reduceEq, Int.reduceLT, Int.reduceBEq, Int.reduceBNe, not_true_eq_false, undef, t54, e3] <;> rfl) (w_false (by simp [evl, upd_app]) ?_)
      exact awp_mono (fun e t g n h => by obtain ⟨rfl, h⟩ := h; exact ⟨rfl, h⟩) (sw4_spec hat hx hC t7 t0 t1 t5 t6)
    · clear t0 t1 t5 t6 t7 hC
      rintro t g' n'' ⟨t8, t7, left, vc, vx, t0, t1, t5, t6, hC⟩
      have hld := ld23 hC.x.obj
      have hlx := hC.x.src.len (P := Try.prog) Try.underlying23
      have dn : ((left.length : Int) != (left.length : Int)) = false := ine_f rfl
      refine s_drawn #[0, 1, 3, 7, 15, 7, 39, 103, 231, 487, 1023, 2047] (by decide +kernel) ?_
      refine d_reads 4 (by simp) (by simp only [runR, List.drop_succ_cons, List.drop_zero, awant_some, Option.getD_some, List.getElem?_toArray, List.getElem?_cons_succ, List.getElem?_cons_zero, Option.bind_some, b_tt, b_tf, b_ft, b_ff, Bool.not_true, Bool.not_false, List.take_succ_cons, List.take_zero, awant_none, astep, evl, put, ap_none, ap_new, ap_wr, List.length_nil, List.length_cons, Nat.add_zero, Nat.zero_add, upd_app, stepBin, abin, stepUn, stepPick, stepExtract, stepCall, if_true, if_false, reduceCtorEq, ↓reduceIte, Nat.reduceEqDiff, Nat.reduceAdd, List.map_cons, List.map_nil, Option.map_some, Option.map_none, Bool.false_eq_true, Int.reduceLE, Int.reduceToNat, ne_eq, not_false_eq_true, and_self, and_true, true_and, decide_true, decide_false, Int.reduceEq, Int.reduceLT, Int.reduceBEq, Int.reduceBNe, not_true_eq_false, undef, List.isEmpty_nil, Bool.and_self, Bool.and_true, t8, t5] <;> rfl) fun a1 ha1 => ?_
      refine d_call 32 _ rfl rfl rfl (by simp [awant, upd_app, put]) (cleft_spec pc vc left g' hC.c) (by simp) (d_free ha1 rfl) ?_
      refine d_reads 7 (by
        intro p hp
        rcases List.mem_cons.1 hp with rfl | hp
        · rfl
        · exact ha1 p hp) (by simp only [runR, List.drop_succ_cons, List.drop_zero, awant_some, Option.getD_some, List.getElem?_toArray, List.getElem?_cons_succ, List.getElem?_cons_zero, Option.bind_some, b_tt, b_tf, b_ft, b_ff, Bool.not_true, Bool.not_false, List.take_succ_cons, List.take_zero, awant_none, astep, evl, put, ap_none, ap_new, ap_wr, List.length_nil, List.length_cons, Nat.add_zero, Nat.zero_add, upd_app, stepBin, abin, stepUn, stepPick, stepExtract, stepCall, if_true, if_false, reduceCtorEq, ↓reduceIte, Nat.reduceEqDiff, Nat.reduceAdd, List.map_cons, List.map_nil, Option.map_some, Option.map_none, Bool.false_eq_true, Int.reduceLE, Int.reduceToNat, ne_eq, not_false_eq_true, and_self, and_true, true_and, decide_true, decide_false, Int.reduceEq, Int.reduceLT, Int.reduceBEq, Int.reduceBNe, not_true_eq_false, undef, List.isEmpty_nil, Bool.and_self, Bool.and_true, t6, nc1, fld55, hld, hlx, dn] <;> rfl) fun a2 ha2 => ?_
      refine w_false (by simp [evl, upd_app, put]) (w_skip ?_)
      simp only [rangePost]
      exact ⟨by simp [upd_app, put, t7], fun _ _ _ => ⟨left, vc, vx, by simp [upd_app, put, t0], by simp [upd_app, put, t1], by simp [upd_app, put, t5], by simp [upd_app, put, t6], by simpa [ap_none] using hC⟩⟩
  · clear t0 t1 t5 t6 hCH
    rintro t g n' ⟨left, vc, vx, t0, t1, t5, t6, hC⟩
    refine s_take 3 (by simp only [runL, List.drop_succ_cons, List.drop_zero, awant_some, Option.getD_some, List.getElem?_toArray, List.getElem?_cons_succ, List.getElem?_cons_zero, Option.bind_some, b_tt, b_tf, b_ft, b_ff, Bool.not_true, Bool.not_false, List.take_succ_cons, List.take_zero, awant_none, astep, evl, put, ap_none, ap_new, ap_wr, List.length_nil, List.length_cons, Nat.add_zero, Nat.zero_add, upd_app, stepBin, abin, stepUn, stepPick, stepExtract, stepCall, if_true, if_false, reduceCtorEq, ↓reduceIte, Nat.reduceEqDiff, Nat.reduceAdd, List.map_cons, List.map_nil, Option.map_some, Option.map_none, Bool.false_eq_true, Int.reduceLE, Int.reduceToNat, ne_eq, not_false_eq_true, and_self, and_true, true_and, decide_true, decide_false, Int.reduceEq, Int.reduceLT, Int.reduceBEq, Int.reduceBNe, not_true_eq_false, undef, t5, Try.underlying43, Option.isNone_some] <;> rfl) ?_
    refine g_call 33 _ (by simp only [runL, List.drop_succ_cons, List.drop_zero, awant_some, Option.getD_some, List.getElem?_toArray, List.getElem?_cons_succ, List.getElem?_cons_zero, Option.bind_some, b_tt, b_tf, b_ft, b_ff, Bool.not_true, Bool.not_false, List.take_succ_cons, List.take_zero, awant_none, astep, evl, put, ap_none, ap_new, ap_wr, List.length_nil, List.length_cons, Nat.add_zero, Nat.zero_add, upd_app, stepBin, abin, stepUn, stepPick, stepExtract, stepCall, if_true, if_false, reduceCtorEq, ↓reduceIte, Nat.reduceEqDiff, Nat.reduceAdd, List.map_cons, List.map_nil, Option.map_some, Option.map_none, Bool.false_eq_true, Int.reduceLE, Int.reduceToNat, ne_eq, not_false_eq_true, and_self, and_true, true_and, decide_true, decide_false, Int.reduceEq, Int.reduceLT, Int.reduceBEq, Int.reduceBNe, not_true_eq_false, undef] <;> rfl) rfl (ckn_spec _) (by simp) ?_
    refine ops_run (by simp only [runL, List.drop_succ_cons, List.drop_zero, awant_some, Option.getD_some, List.getElem?_toArray, List.getElem?_cons_succ, List.getElem?_cons_zero, Option.bind_some, b_tt, b_tf, b_ft, b_ff, Bool.not_true, Bool.not_false, List.take_succ_cons, List.take_zero, awant_none, astep, evl, put, ap_none, ap_new, ap_wr, List.length_nil, List.length_cons, Nat.add_zero, Nat.zero_add, upd_app, stepBin, abin, stepUn, stepPick, stepExtract, stepCall, if_true, if_false, reduceCtorEq, ↓reduceIte, Nat.reduceEqDiff, Nat.reduceAdd, List.map_cons, List.map_nil, Option.map_some, Option.map_none, Bool.false_eq_true, Int.reduceLE, Int.reduceToNat, ne_eq, not_false_eq_true, and_self, and_true, true_and, decide_true, decide_false, Int.reduceEq, Int.reduceLT, Int.reduceBEq, Int.reduceBNe, not_true_eq_false, undef] <;> rfl) ?_
    exact w_ret ⟨.inr rfl, by simp, [], fin_plain hs hwf hC.k (by simp [resVal, upd_app]) trivial⟩
end Go.Proofs.Ytokmmcfnpobldaa
