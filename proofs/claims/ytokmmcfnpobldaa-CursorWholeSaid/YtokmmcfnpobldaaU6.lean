import Derived.Test.YtokmmcfnpobldaaU5
namespace Go.Proofs.Ytokmmcfnpobldaa
open Go Abs
set_option linter.unusedSimpArgs false
set_option linter.unusedVariables false

theorem aggT23 : aggT Try.prog 23 = some false := by kernel_rfl
theorem tsize23 : tsize Try.prog 23 = some 1 := by kernel_rfl
theorem foff68 : foff Try.prog 68 0 = some 0 := by kernel_rfl
theorem foff55 : foff Try.prog 55 0 = some 0 := by kernel_rfl
theorem binf68 : binf Try.prog 68 = some ([(0, 1)], [.slice none 0 0]) := by kernel_rfl
theorem binf55 : binf Try.prog 55 = some ([(0, 1)], [.slice none 0 0]) := by kernel_rfl

/-- The pointer to a struct of one cell. -/
abbrev pt1 (p : Nat) : Value := .pointer (some ⟨p, 0, some 1⟩)

theorem fld68 (p : Nat) : stepField Try.prog 68 (pt1 p) 0 = some { v := pt1 p } := by simp [stepField, foff68]
theorem fld55 (p : Nat) : stepField Try.prog 55 (pt1 p) 0 = some { v := pt1 p } := by simp [stepField, foff55]
theorem nc1 (p : Nat) : stepNilCheck (pt1 p) = some { v := pt1 p } := rfl
theorem pnil43 (p : Nat) : stepBin Try.prog .eql 43 (pt1 p) (.pointer none) = some { v := .bool false } := by simp [stepBin, abin, Try.underlying43]
theorem ld23 {g : Heap} {p e : Nat} {v : Value} {ro : Bool} (h : g p = some ⟨ro, e, [v]⟩) : stepLoad Try.prog 23 (pt1 p) g = some { v := v, r := [p] } := by simp [stepLoad, rd, h, aggT23]
theorem st23 {g : Heap} {p e : Nat} {v y : Value} (h : g p = some ⟨false, e, [v]⟩) (hy : ∃ a m k, y = .slice a m k) : stepStore Try.prog 23 (pt1 p) y g = some { v := undef, r := [p], w := [(p, ⟨false, e, [y]⟩)] } := by
  obtain ⟨a, m, k, rfl⟩ := hy
  simp [stepStore, rd, h, isTup, tsize23, Value.cells, putAll]

theorem slV_shape {v : Value} {l k : Nat} (h : ∃ a m e, v = .slice a m e) : ∃ a m e, slV v l k = .slice a m e := by
  obtain ⟨a, m, e, rfl⟩ := h
  cases a with
  | none => exact ⟨_, _, _, rfl⟩
  | some a => simp only [slV]; split <;> exact ⟨_, _, _, rfl⟩

theorem slV_nil {v : Value} {l k : Nat} (h : ∃ a m e, v = .slice a m e) : isNil (slV v l k) = isNil v := by
  obtain ⟨a, m, e, rfl⟩ := h
  cases a with
  | none => rfl
  | some a => simp only [slV]; split <;> rfl

/-- The bytes that are left stand behind the pointer. -/
structure Cu (e : Nat) (g : Heap) (p : Nat) (v : Value) (l : List Nat) : Prop where
  obj : g p = some ⟨false, e, [v]⟩
  src : Src g v 1 l.length (bs l)
  ne : p ∉ srcBlk v

theorem Cu.shape {e : Nat} {g : Heap} {p : Nat} {v : Value} {l : List Nat} (h : Cu e g p v l) : ∃ a m e, v = .slice a m e := by
  obtain ⟨a, k, hv⟩ := h.src.shape
  exact ⟨a, _, k, hv⟩

theorem Cu.keep {e : Nat} {g g' : Heap} {p : Nat} {v : Value} {l : List Nat} (h : Cu e g p v l) (h1 : g' p = g p) (h2 : ∀ i ∈ srcBlk v, g' i = g i) : Cu e g' p v l := ⟨by rw [h1]; exact h.obj, h.src.congr h2, h.ne⟩

/-- So many are taken. -/
theorem Cu.taken {e : Nat} {g g' : Heap} {p : Nat} {v : Value} {l : List Nat} {k : Nat} (h : Cu e g p v l) (hk : k ≤ l.length) (h1 : g' p = some ⟨false, e, [slV v k l.length]⟩) (h2 : ∀ i ∈ srcBlk v, g' i = g i) : Cu e g' p (slV v k l.length) (l.drop k) := by
  obtain ⟨_, e2, e3, _⟩ := src_slV (P := Try.prog) h.src Try.underlying23 tsize5 (some (.int .i64 (k : Int))) none k l.length rfl rfl hk (Nat.le_refl _)
  refine ⟨h1, ?_, fun hp => h.ne (e3 p hp)⟩
  have : ((bs l).drop k).take (l.length - k) = bs (l.drop k) := by rw [List.take_of_length_le (by simp)]; exact List.map_drop.symm
  rw [this] at e2
  rw [List.length_drop]
  exact e2.congr fun i hi => h2 i (e3 i hi)

/-- What Take answers, if there are as many. -/
def takeE (e : TypeId) (p : Nat) (v : Value) (l : List Nat) (k j : Nat) : Eff :=
  if isNil v then { v := .tuple #[.slice none 0 0, .bool true], r := p :: srcBlk v, w := [(p, ⟨false, e, [slV v k l.length]⟩)], j := j }
  else { v := .tuple #[.slice (some ⟨j, 0, some k⟩) k 1, .bool true], r := p :: srcBlk v, w := [(p, ⟨false, e, [slV v k l.length]⟩)], j := j, a := [⟨false, 5, bs (l.take k)⟩] }

theorem takeE_r (e : TypeId) (p : Nat) (v : Value) (l : List Nat) (k j : Nat) : (takeE e p v l k j).r = p :: srcBlk v := by unfold takeE; split <;> rfl
theorem takeE_w (e : TypeId) (p : Nat) (v : Value) (l : List Nat) (k j : Nat) : (takeE e p v l k j).w = [(p, ⟨false, e, [slV v k l.length]⟩)] := by unfold takeE; split <;> rfl
theorem takeE_j (e : TypeId) (p : Nat) (v : Value) (l : List Nat) (k j : Nat) : (takeE e p v l k j).j = j := by unfold takeE; split <;> rfl
theorem takeE_fp (e : TypeId) (p : Nat) (v : Value) (l : List Nat) (k j : Nat) : ∀ i, i ∈ (takeE e p v l k j).fp ↔ (i = p ∨ i ∈ srcBlk v) := by
  intro i
  simp only [Eff.fp, takeE_r, takeE_w, List.map_cons, List.map_nil, List.mem_append, List.mem_cons, List.not_mem_nil, or_false]
  constructor
  · rintro ((h | h) | h) <;> simp [h]
  · rintro (h | h) <;> simp [h]

section
variable {s2 : Nat → Prop} {g2 : Heap} {n : Nat}
theorem sv_pair {v : Value} {b : Bool} {s : Nat → Prop} (h : SV1 s v) (hv : ∃ a m e, v = .slice a m e) : SVT s (.tuple #[v, .bool b]) := by
  intro c hc
  simp at hc
  rcases hc with rfl | rfl
  · obtain ⟨a, m, e, rfl⟩ := hv; exact h
  · trivial
end

set_option maxRecDepth 10000 in
theorem cnew_spec (v : Value) (l : List Nat) (g : Heap) (j : Nat) (hl : l.length ≤ 2 ^ 40) (hv : Src g v 1 l.length (bs l)) : FnSpec Try.prog 30 [v] g
    (if isNil v then { v := pt1 j, r := srcBlk v, j := j, a := [⟨false, 68, [.slice none 0 0]⟩] } else { v := pt1 j, r := srcBlk v, j := j, a := [⟨false, 68, [.slice (some ⟨j + 1, 0, some l.length⟩) l.length 1]⟩, ⟨false, 5, bs l⟩] }) := by
  by_cases h0 : isNil v = true
  · rw [if_pos h0]
    refine spec_of_body [2] follows Try.func30 rfl (by kernel_rfl) (by simp [Try.f30]) (by kernel_rfl) rfl ?_
    intro g2 s2 n hg hfr hs hn hwf hsv
    have hv2 : Src g2 v 1 l.length (bs l) := hv.congr fun i hi => hg i (by simp [Eff.fp, hi])
    have hc := clone_spec v l g2 n hl hv2
    rw [cloneE, if_pos h0] at hc
    refine s_run (by simp only [runL, List.drop_succ_cons, List.drop_zero, awant_some, Option.getD_some, List.getElem?_toArray, List.getElem?_cons_succ, List.getElem?_cons_zero, Option.bind_some, b_tt, b_tf, b_ft, b_ff, Bool.not_true, Bool.not_false, List.take_succ_cons, List.take_zero, awant_none, astep, evl, put, ap_none, ap_new, ap_wr, List.length_nil, List.length_cons, Nat.add_zero, Nat.zero_add, upd_app, stepBin, abin, stepUn, stepPick, stepExtract, stepCall, if_true, if_false, reduceCtorEq, ↓reduceIte, Nat.reduceEqDiff, Nat.reduceAdd, List.map_cons, List.map_nil, Option.map_some, Option.map_none, Bool.false_eq_true, Int.reduceLE, Int.reduceToNat, ne_eq, not_false_eq_true, and_self, and_true, true_and, decide_true, decide_false, Int.reduceEq, Int.reduceLT, Int.reduceBEq, Int.reduceBNe, not_true_eq_false, undef] <;> rfl) ?_
    refine s_take 1 (by simp only [runL, List.drop_succ_cons, List.drop_zero, awant_some, Option.getD_some, List.getElem?_toArray, List.getElem?_cons_succ, List.getElem?_cons_zero, Option.bind_some, b_tt, b_tf, b_ft, b_ff, Bool.not_true, Bool.not_false, List.take_succ_cons, List.take_zero, awant_none, astep, evl, put, ap_none, ap_new, ap_wr, List.length_nil, List.length_cons, Nat.add_zero, Nat.zero_add, upd_app, stepBin, abin, stepUn, stepPick, stepExtract, stepCall, if_true, if_false, reduceCtorEq, ↓reduceIte, Nat.reduceEqDiff, Nat.reduceAdd, List.map_cons, List.map_nil, Option.map_some, Option.map_none, Bool.false_eq_true, Int.reduceLE, Int.reduceToNat, ne_eq, not_false_eq_true, and_self, and_true, true_and, decide_true, decide_false, Int.reduceEq, Int.reduceLT, Int.reduceBEq, Int.reduceBNe, not_true_eq_false, undef] <;> rfl) ?_
    refine ops_call 44 _ rfl hc (by intro h; exact (h rfl).elim) ?_
    have hb : stepBuild Try.prog 68 [(0, .slice none 0 0)] = some { v := .agg #[.slice none 0 0] } := by simp [stepBuild, binf68, fillL, Value.cells, isTup, putAll]
    have hx : stepBox 68 (.agg #[.slice none 0 0]) n = some { v := pt1 n, j := n, a := [⟨false, 68, [.slice none 0 0]⟩] } := by simp [stepBox, isTup, Value.cells]
    refine ops_run (by simp only [runL, List.drop_succ_cons, List.drop_zero, awant_some, Option.getD_some, List.getElem?_toArray, List.getElem?_cons_succ, List.getElem?_cons_zero, Option.bind_some, b_tt, b_tf, b_ft, b_ff, Bool.not_true, Bool.not_false, List.take_succ_cons, List.take_zero, awant_none, astep, evl, put, ap_none, ap_new, ap_wr, List.length_nil, List.length_cons, Nat.add_zero, Nat.zero_add, upd_app, stepBin, abin, stepUn, stepPick, stepExtract, stepCall, if_true, if_false, reduceCtorEq, ↓reduceIte, Nat.reduceEqDiff, Nat.reduceAdd, List.map_cons, List.map_nil, Option.map_some, Option.map_none, Bool.false_eq_true, Int.reduceLE, Int.reduceToNat, ne_eq, not_false_eq_true, and_self, and_true, true_and, decide_true, decide_false, Int.reduceEq, Int.reduceLT, Int.reduceBEq, Int.reduceBNe, not_true_eq_false, undef, hb, hx] <;> rfl) ?_
    refine w_ret ⟨.inr rfl, by simp, [n], fin_one ?_ (.inr rfl) (Nat.le_refl _) (by simp [upd_app]) (by simp [plain]) (fun i b hb => ?_)⟩
    · simp [resVal, upd_app, renT, renA, ren1]
    · have := hs i (hwf i b hb).1
      simp [upd_app, show i ≠ n by omega, hb]
  · rw [if_neg h0]
    refine spec_of_body [2] follows Try.func30 rfl (by kernel_rfl) (by simp [Try.f30]) (by kernel_rfl) rfl ?_
    intro g2 s2 n hg hfr hs hn hwf hsv
    have hv2 : Src g2 v 1 l.length (bs l) := hv.congr fun i hi => hg i (by simp [Eff.fp, hi])
    have hc := clone_spec v l g2 n hl hv2
    rw [cloneE, if_neg h0] at hc
    refine s_run (by simp only [runL, List.drop_succ_cons, List.drop_zero, awant_some, Option.getD_some, List.getElem?_toArray, List.getElem?_cons_succ, List.getElem?_cons_zero, Option.bind_some, b_tt, b_tf, b_ft, b_ff, Bool.not_true, Bool.not_false, List.take_succ_cons, List.take_zero, awant_none, astep, evl, put, ap_none, ap_new, ap_wr, List.length_nil, List.length_cons, Nat.add_zero, Nat.zero_add, upd_app, stepBin, abin, stepUn, stepPick, stepExtract, stepCall, if_true, if_false, reduceCtorEq, ↓reduceIte, Nat.reduceEqDiff, Nat.reduceAdd, List.map_cons, List.map_nil, Option.map_some, Option.map_none, Bool.false_eq_true, Int.reduceLE, Int.reduceToNat, ne_eq, not_false_eq_true, and_self, and_true, true_and, decide_true, decide_false, Int.reduceEq, Int.reduceLT, Int.reduceBEq, Int.reduceBNe, not_true_eq_false, undef] <;> rfl) ?_
    refine s_take 1 (by simp only [runL, List.drop_succ_cons, List.drop_zero, awant_some, Option.getD_some, List.getElem?_toArray, List.getElem?_cons_succ, List.getElem?_cons_zero, Option.bind_some, b_tt, b_tf, b_ft, b_ff, Bool.not_true, Bool.not_false, List.take_succ_cons, List.take_zero, awant_none, astep, evl, put, ap_none, ap_new, ap_wr, List.length_nil, List.length_cons, Nat.add_zero, Nat.zero_add, upd_app, stepBin, abin, stepUn, stepPick, stepExtract, stepCall, if_true, if_false, reduceCtorEq, ↓reduceIte, Nat.reduceEqDiff, Nat.reduceAdd, List.map_cons, List.map_nil, Option.map_some, Option.map_none, Bool.false_eq_true, Int.reduceLE, Int.reduceToNat, ne_eq, not_false_eq_true, and_self, and_true, true_and, decide_true, decide_false, Int.reduceEq, Int.reduceLT, Int.reduceBEq, Int.reduceBNe, not_true_eq_false, undef] <;> rfl) ?_
    refine ops_call 44 _ rfl hc (by intro _; rfl) ?_
    have hb : stepBuild Try.prog 68 [(0, .slice (some ⟨n, 0, some l.length⟩) l.length 1)] = some { v := .agg #[.slice (some ⟨n, 0, some l.length⟩) l.length 1] } := by simp [stepBuild, binf68, fillL, Value.cells, isTup, putAll]
    have hx : stepBox 68 (.agg #[.slice (some ⟨n, 0, some l.length⟩) l.length 1]) (n + 1) = some { v := pt1 (n + 1), j := n + 1, a := [⟨false, 68, [.slice (some ⟨n, 0, some l.length⟩) l.length 1]⟩] } := by simp [stepBox, isTup, Value.cells]
    refine ops_run (by simp only [runL, List.drop_succ_cons, List.drop_zero, awant_some, Option.getD_some, List.getElem?_toArray, List.getElem?_cons_succ, List.getElem?_cons_zero, Option.bind_some, b_tt, b_tf, b_ft, b_ff, Bool.not_true, Bool.not_false, List.take_succ_cons, List.take_zero, awant_none, astep, evl, put, ap_none, ap_new, ap_wr, List.length_nil, List.length_cons, Nat.add_zero, Nat.zero_add, upd_app, stepBin, abin, stepUn, stepPick, stepExtract, stepCall, if_true, if_false, reduceCtorEq, ↓reduceIte, Nat.reduceEqDiff, Nat.reduceAdd, List.map_cons, List.map_nil, Option.map_some, Option.map_none, Bool.false_eq_true, Int.reduceLE, Int.reduceToNat, ne_eq, not_false_eq_true, and_self, and_true, true_and, decide_true, decide_false, Int.reduceEq, Int.reduceLT, Int.reduceBEq, Int.reduceBNe, not_true_eq_false, undef, hb, hx] <;> rfl) ?_
    have hsig : ∀ f : Eff, f.j = j → sig f [n + 1, n] j = n + 1 ∧ sig f [n + 1, n] (j + 1) = n := by
      intro f hj
      unfold sig
      rw [hj]
      simp
    obtain ⟨q1, q2⟩ := hsig { v := pt1 j, r := srcBlk v, j := j, a := [⟨false, 68, [.slice (some ⟨j + 1, 0, some l.length⟩) l.length 1]⟩, ⟨false, 5, bs l⟩] } rfl
    refine w_ret ⟨.inr rfl, by simp, [n + 1, n], ⟨rfl, by simp, by simp, ?_, fun i b hi => ?_, by simp, by simp, fun i b _ hb => ?_, .inr ⟨Nat.le_refl _, by simp⟩, fun b hb c hc => ?_, by simp⟩⟩
    · simp [resVal, upd_app, renT, renA, ren1, q1]
    · rcases i with _ | _ | i
      · simp at hi
        subst hi
        refine ⟨n + 1, rfl, ?_⟩
        simp [upd_app, renB, ren1, q2]
      · simp at hi
        subst hi
        refine ⟨n, rfl, ?_⟩
        rw [renB_plain plain_ints]
        simp [ap_new, upd_app]
      · simp at hi
    · have := hs i (hwf i b hb).1
      simp [upd_app, ap_new, show i ≠ n by omega, show i ≠ n + 1 by omega, hb]
    · simp at hb
      rcases hb with rfl | rfl
      · simp at hc
        subst hc
        exact .inr (.inr ⟨by simp, by simp⟩)
      · exact SV1_plain (plain_ints c hc)

set_option maxRecDepth 10000 in
theorem take_none (p : Nat) (v : Value) (l : List Nat) (k : Int) (g : Heap) (hl : l.length ≤ 2 ^ 40) (hC : Cu 68 g p v l) (hk : k < 0 ∨ l.length < k) : FnSpec Try.prog 34 [pt1 p, .int .i64 k] g { v := .tuple #[.slice none 0 0, .bool false], r := p :: srcBlk v } := by
  refine spec_of_body [4, 5] follows Try.func34 rfl (by kernel_rfl) (by simp [Try.f34]) (by kernel_rfl) rfl ?_
  intro g2 s2 n hg hfr hs hn hwf hsv
  have hC2 := hC.keep (g' := g2) (hg p (by simp [Eff.fp])) (fun i hi => hg i (by simp [Eff.fp, hi]))
  have hlen := hC2.src.len Try.underlying23
  have hld := ld23 hC2.obj
  refine s_run (by simp only [runL, List.drop_succ_cons, List.drop_zero, awant_some, Option.getD_some, List.getElem?_toArray, List.getElem?_cons_succ, List.getElem?_cons_zero, Option.bind_some, b_tt, b_tf, b_ft, b_ff, Bool.not_true, Bool.not_false, List.take_succ_cons, List.take_zero, awant_none, astep, evl, put, ap_none, ap_new, ap_wr, List.length_nil, List.length_cons, Nat.add_zero, Nat.zero_add, upd_app, stepBin, abin, stepUn, stepPick, stepExtract, stepCall, if_true, if_false, reduceCtorEq, ↓reduceIte, Nat.reduceEqDiff, Nat.reduceAdd, List.map_cons, List.map_nil, Option.map_some, Option.map_none, Bool.false_eq_true, Int.reduceLE, Int.reduceToNat, ne_eq, not_false_eq_true, and_self, and_true, true_and, decide_true, decide_false, Int.reduceEq, Int.reduceLT, Int.reduceBEq, Int.reduceBNe, not_true_eq_false, undef] <;> rfl) ?_
  by_cases c1 : k < 0
  · have d : decide (k < 0) = true := decide_eq_true c1
    refine w_assoc (s_run (by simp only [runL, List.drop_succ_cons, List.drop_zero, awant_some, Option.getD_some, List.getElem?_toArray, List.getElem?_cons_succ, List.getElem?_cons_zero, Option.bind_some, b_tt, b_tf, b_ft, b_ff, Bool.not_true, Bool.not_false, List.take_succ_cons, List.take_zero, awant_none, astep, evl, put, ap_none, ap_new, ap_wr, List.length_nil, List.length_cons, Nat.add_zero, Nat.zero_add, upd_app, stepBin, abin, stepUn, stepPick, stepExtract, stepCall, if_true, if_false, reduceCtorEq, ↓reduceIte, Nat.reduceEqDiff, Nat.reduceAdd, List.map_cons, List.map_nil, Option.map_some, Option.map_none, Bool.false_eq_true, Int.reduceLE, Int.reduceToNat, ne_eq, not_false_eq_true, and_self, and_true, true_and, decide_true, decide_false, Int.reduceEq, Int.reduceLT, Int.reduceBEq, Int.reduceBNe, not_true_eq_false, undef, Try.underlying43, Option.isNone_some, d] <;> rfl) ?_)
    refine s_true (by simp [evl, upd_app]) (w_assoc (s_run (by simp only [runL, List.drop_succ_cons, List.drop_zero, awant_some, Option.getD_some, List.getElem?_toArray, List.getElem?_cons_succ, List.getElem?_cons_zero, Option.bind_some, b_tt, b_tf, b_ft, b_ff, Bool.not_true, Bool.not_false, List.take_succ_cons, List.take_zero, awant_none, astep, evl, put, ap_none, ap_new, ap_wr, List.length_nil, List.length_cons, Nat.add_zero, Nat.zero_add, upd_app, stepBin, abin, stepUn, stepPick, stepExtract, stepCall, if_true, if_false, reduceCtorEq, ↓reduceIte, Nat.reduceEqDiff, Nat.reduceAdd, List.map_cons, List.map_nil, Option.map_some, Option.map_none, Bool.false_eq_true, Int.reduceLE, Int.reduceToNat, ne_eq, not_false_eq_true, and_self, and_true, true_and, decide_true, decide_false, Int.reduceEq, Int.reduceLT, Int.reduceBEq, Int.reduceBNe, not_true_eq_false, undef] <;> rfl) (s_ret ?_)))
    refine ⟨.inr rfl, fun _ r hr => ?_, [], fin_none ?_ (sv_pair trivial ⟨_, _, _, rfl⟩) (fun _ _ h => h)⟩
    · simp at hr; rcases hr with rfl | rfl <;> simp [upd_app, isTup]
    · simp [resVal, upd_app]
  · have d : decide (k < 0) = false := decide_eq_false c1
    have d2 : decide (k > (l.length : Int)) = true := decide_eq_true (by omega)
    refine w_assoc (s_run (by simp only [runL, List.drop_succ_cons, List.drop_zero, awant_some, Option.getD_some, List.getElem?_toArray, List.getElem?_cons_succ, List.getElem?_cons_zero, Option.bind_some, b_tt, b_tf, b_ft, b_ff, Bool.not_true, Bool.not_false, List.take_succ_cons, List.take_zero, awant_none, astep, evl, put, ap_none, ap_new, ap_wr, List.length_nil, List.length_cons, Nat.add_zero, Nat.zero_add, upd_app, stepBin, abin, stepUn, stepPick, stepExtract, stepCall, if_true, if_false, reduceCtorEq, ↓reduceIte, Nat.reduceEqDiff, Nat.reduceAdd, List.map_cons, List.map_nil, Option.map_some, Option.map_none, Bool.false_eq_true, Int.reduceLE, Int.reduceToNat, ne_eq, not_false_eq_true, and_self, and_true, true_and, decide_true, decide_false, Int.reduceEq, Int.reduceLT, Int.reduceBEq, Int.reduceBNe, not_true_eq_false, undef, Try.underlying43, Option.isNone_some, d, nc1, fld68, hld, hlen, d2] <;> rfl) ?_)
    refine s_true (by simp [evl, upd_app]) (w_assoc (s_run (by simp only [runL, List.drop_succ_cons, List.drop_zero, awant_some, Option.getD_some, List.getElem?_toArray, List.getElem?_cons_succ, List.getElem?_cons_zero, Option.bind_some, b_tt, b_tf, b_ft, b_ff, Bool.not_true, Bool.not_false, List.take_succ_cons, List.take_zero, awant_none, astep, evl, put, ap_none, ap_new, ap_wr, List.length_nil, List.length_cons, Nat.add_zero, Nat.zero_add, upd_app, stepBin, abin, stepUn, stepPick, stepExtract, stepCall, if_true, if_false, reduceCtorEq, ↓reduceIte, Nat.reduceEqDiff, Nat.reduceAdd, List.map_cons, List.map_nil, Option.map_some, Option.map_none, Bool.false_eq_true, Int.reduceLE, Int.reduceToNat, ne_eq, not_false_eq_true, and_self, and_true, true_and, decide_true, decide_false, Int.reduceEq, Int.reduceLT, Int.reduceBEq, Int.reduceBNe, not_true_eq_false, undef] <;> rfl) (s_ret ?_)))
    refine ⟨.inr rfl, fun _ r hr => ?_, [], fin_none ?_ (sv_pair trivial ⟨_, _, _, rfl⟩) (fun _ _ h => h)⟩
    · simp at hr; rcases hr with rfl | rfl <;> simp [upd_app, isTup]
    · simp [resVal, upd_app]

set_option maxRecDepth 10000 in
theorem take_some (p : Nat) (v : Value) (l : List Nat) (k : Nat) (g : Heap) (j : Nat) (hl : l.length ≤ 2 ^ 40) (hC : Cu 68 g p v l) (hk : k ≤ l.length) : FnSpec Try.prog 34 [pt1 p, .int .i64 k] g (takeE 68 p v l k j) := by
  refine spec_of_body [4, 5] follows Try.func34 rfl (by kernel_rfl) (by simp [Try.f34]) (by kernel_rfl) rfl ?_
  intro g2 s2 n hg hfr hs hn hwf hsv
  have hC2 := hC.keep (g' := g2) (hg p ((takeE_fp ..).2 (.inl rfl))) (fun i hi => hg i ((takeE_fp ..).2 (.inr hi)))
  have hlen := hC2.src.len Try.underlying23
  have hld := ld23 hC2.obj
  have hpn : p < n := hs p (hwf p _ hC2.obj).1
  have hdom : ∀ i ∈ srcBlk v, i < n := fun i hi => by
    obtain ⟨b, hb⟩ := Option.isSome_iff_exists.1 (hC2.src.dom i hi)
    exact hs i (hwf i b hb).1
  have hsv1 : SV1 s2 v := (hwf p _ hC2.obj).2 v (by simp)
  have d : decide ((k : Int) < 0) = false := decide_eq_false (by omega)
  have d2 : decide ((k : Int) > (l.length : Int)) = false := decide_eq_false (by omega)
  refine s_run (by simp only [runL, List.drop_succ_cons, List.drop_zero, awant_some, Option.getD_some, List.getElem?_toArray, List.getElem?_cons_succ, List.getElem?_cons_zero, Option.bind_some, b_tt, b_tf, b_ft, b_ff, Bool.not_true, Bool.not_false, List.take_succ_cons, List.take_zero, awant_none, astep, evl, put, ap_none, ap_new, ap_wr, List.length_nil, List.length_cons, Nat.add_zero, Nat.zero_add, upd_app, stepBin, abin, stepUn, stepPick, stepExtract, stepCall, if_true, if_false, reduceCtorEq, ↓reduceIte, Nat.reduceEqDiff, Nat.reduceAdd, List.map_cons, List.map_nil, Option.map_some, Option.map_none, Bool.false_eq_true, Int.reduceLE, Int.reduceToNat, ne_eq, not_false_eq_true, and_self, and_true, true_and, decide_true, decide_false, Int.reduceEq, Int.reduceLT, Int.reduceBEq, Int.reduceBNe, not_true_eq_false, undef] <;> rfl) ?_
  refine w_assoc (s_run (by simp only [runL, List.drop_succ_cons, List.drop_zero, awant_some, Option.getD_some, List.getElem?_toArray, List.getElem?_cons_succ, List.getElem?_cons_zero, Option.bind_some, b_tt, b_tf, b_ft, b_ff, Bool.not_true, Bool.not_false, List.take_succ_cons, List.take_zero, awant_none, astep, evl, put, ap_none, ap_new, ap_wr, List.length_nil, List.length_cons, Nat.add_zero, Nat.zero_add, upd_app, stepBin, abin, stepUn, stepPick, stepExtract, stepCall, if_true, if_false, reduceCtorEq, ↓reduceIte, Nat.reduceEqDiff, Nat.reduceAdd, List.map_cons, List.map_nil, Option.map_some, Option.map_none, Bool.false_eq_true, Int.reduceLE, Int.reduceToNat, ne_eq, not_false_eq_true, and_self, and_true, true_and, decide_true, decide_false, Int.reduceEq, Int.reduceLT, Int.reduceBEq, Int.reduceBNe, not_true_eq_false, undef, Try.underlying43, Option.isNone_some, d, nc1, fld68, hld, hlen, d2] <;> rfl) ?_)
  refine s_false (by simp [evl, upd_app]) (s_skip ?_)
  obtain ⟨a1, a2, a3, a4⟩ := src_slV (P := Try.prog) hC2.src Try.underlying23 tsize5 none (some (.int .i64 (k : Int))) 0 k rfl rfl (by omega) hk
  obtain ⟨b1, b2, b3, b4⟩ := src_slV (P := Try.prog) hC2.src Try.underlying23 tsize5 (some (.int .i64 (k : Int))) none k l.length rfl rfl hk (Nat.le_refl _)
  have a2' : Src g2 (slV v 0 k) 1 (l.take k).length (bs (l.take k)) := by
    rw [List.length_take, Nat.min_eq_left hk]; simpa using a2
  refine w_gen (fun t => t 0 = pt1 p ∧ t 1 = .int .i64 k) (by simp [upd_app]) ?_
  rintro t ⟨t0, t1⟩
  refine s_take 6 (by simp only [runL, List.drop_succ_cons, List.drop_zero, awant_some, Option.getD_some, List.getElem?_toArray, List.getElem?_cons_succ, List.getElem?_cons_zero, Option.bind_some, b_tt, b_tf, b_ft, b_ff, Bool.not_true, Bool.not_false, List.take_succ_cons, List.take_zero, awant_none, astep, evl, put, ap_none, ap_new, ap_wr, List.length_nil, List.length_cons, Nat.add_zero, Nat.zero_add, upd_app, stepBin, abin, stepUn, stepPick, stepExtract, stepCall, if_true, if_false, reduceCtorEq, ↓reduceIte, Nat.reduceEqDiff, Nat.reduceAdd, List.map_cons, List.map_nil, Option.map_some, Option.map_none, Bool.false_eq_true, Int.reduceLE, Int.reduceToNat, ne_eq, not_false_eq_true, and_self, and_true, true_and, decide_true, decide_false, Int.reduceEq, Int.reduceLT, Int.reduceBEq, Int.reduceBNe, not_true_eq_false, undef, t0, t1, nc1, fld68, hld, a1] <;> rfl) ?_
  have hltk : (l.take k).length = k := by simp; omega
  have hc := clone_spec (slV v 0 k) (l.take k) g2 n (by omega) a2'
  rw [cloneE, slV_nil hC2.shape, hltk] at hc
  by_cases h0 : isNil v = true
  · rw [if_pos h0] at hc
    refine ops_call 44 _ rfl hc (by intro h; exact (h rfl).elim) ?_
    refine ops_run (by simp only [runL, List.drop_succ_cons, List.drop_zero, awant_some, Option.getD_some, List.getElem?_toArray, List.getElem?_cons_succ, List.getElem?_cons_zero, Option.bind_some, b_tt, b_tf, b_ft, b_ff, Bool.not_true, Bool.not_false, List.take_succ_cons, List.take_zero, awant_none, astep, evl, put, ap_none, ap_new, ap_wr, List.length_nil, List.length_cons, Nat.add_zero, Nat.zero_add, upd_app, stepBin, abin, stepUn, stepPick, stepExtract, stepCall, if_true, if_false, reduceCtorEq, ↓reduceIte, Nat.reduceEqDiff, Nat.reduceAdd, List.map_cons, List.map_nil, Option.map_some, Option.map_none, Bool.false_eq_true, Int.reduceLE, Int.reduceToNat, ne_eq, not_false_eq_true, and_self, and_true, true_and, decide_true, decide_false, Int.reduceEq, Int.reduceLT, Int.reduceBEq, Int.reduceBNe, not_true_eq_false, undef] <;> rfl) ?_
    have hst := st23 hC2.obj (slV_shape (l := k) (k := l.length) hC2.shape)
    refine s_run (by simp only [runL, List.drop_succ_cons, List.drop_zero, awant_some, Option.getD_some, List.getElem?_toArray, List.getElem?_cons_succ, List.getElem?_cons_zero, Option.bind_some, b_tt, b_tf, b_ft, b_ff, Bool.not_true, Bool.not_false, List.take_succ_cons, List.take_zero, awant_none, astep, evl, put, ap_none, ap_new, ap_wr, List.length_nil, List.length_cons, Nat.add_zero, Nat.zero_add, upd_app, stepBin, abin, stepUn, stepPick, stepExtract, stepCall, if_true, if_false, reduceCtorEq, ↓reduceIte, Nat.reduceEqDiff, Nat.reduceAdd, List.map_cons, List.map_nil, Option.map_some, Option.map_none, Bool.false_eq_true, Int.reduceLE, Int.reduceToNat, ne_eq, not_false_eq_true, and_self, and_true, true_and, decide_true, decide_false, Int.reduceEq, Int.reduceLT, Int.reduceBEq, Int.reduceBNe, not_true_eq_false, undef, t0, t1, nc1, fld68, hld, b1, hst] <;> rfl) ?_
    refine s_run (by simp only [runL, List.drop_succ_cons, List.drop_zero, awant_some, Option.getD_some, List.getElem?_toArray, List.getElem?_cons_succ, List.getElem?_cons_zero, Option.bind_some, b_tt, b_tf, b_ft, b_ff, Bool.not_true, Bool.not_false, List.take_succ_cons, List.take_zero, awant_none, astep, evl, put, ap_none, ap_new, ap_wr, List.length_nil, List.length_cons, Nat.add_zero, Nat.zero_add, upd_app, stepBin, abin, stepUn, stepPick, stepExtract, stepCall, if_true, if_false, reduceCtorEq, ↓reduceIte, Nat.reduceEqDiff, Nat.reduceAdd, List.map_cons, List.map_nil, Option.map_some, Option.map_none, Bool.false_eq_true, Int.reduceLE, Int.reduceToNat, ne_eq, not_false_eq_true, and_self, and_true, true_and, decide_true, decide_false, Int.reduceEq, Int.reduceLT, Int.reduceBEq, Int.reduceBNe, not_true_eq_false, undef] <;> rfl) ?_
    rw [takeE, if_pos h0]
    refine w_ret ⟨.inr rfl, fun _ r hr => ?_, [], fin_w1 ?_ (sv_pair trivial ⟨_, _, _, rfl⟩) (by rw [hC2.obj]; rfl) (by simp [upd_app]) (fun c hc => by simp at hc; subst hc; exact b4 s2 hsv1) (fun i b hi hb => by simp [upd_app, hi, hb])⟩
    · simp at hr; rcases hr with rfl | rfl <;> simp [upd_app, put, isTup]
    · simp [resVal, upd_app, put]
  · rw [if_neg h0] at hc
    refine ops_call 44 _ rfl hc (by intro _; rfl) (ops_heap fun G1 hG1 => ?_)
    have k1 : Kp n g2 G1 := by rw [hG1]; exact kp_ap (Kp.refl _ _) rfl (fun _ => Nat.le_refl _)
    have g1n : G1 n = some ⟨false, 5, bs (l.take k)⟩ := by rw [hG1]; simp [ap_new, upd_app]
    refine ops_run (by simp only [runL, List.drop_succ_cons, List.drop_zero, awant_some, Option.getD_some, List.getElem?_toArray, List.getElem?_cons_succ, List.getElem?_cons_zero, Option.bind_some, b_tt, b_tf, b_ft, b_ff, Bool.not_true, Bool.not_false, List.take_succ_cons, List.take_zero, awant_none, astep, evl, put, ap_none, ap_new, ap_wr, List.length_nil, List.length_cons, Nat.add_zero, Nat.zero_add, upd_app, stepBin, abin, stepUn, stepPick, stepExtract, stepCall, if_true, if_false, reduceCtorEq, ↓reduceIte, Nat.reduceEqDiff, Nat.reduceAdd, List.map_cons, List.map_nil, Option.map_some, Option.map_none, Bool.false_eq_true, Int.reduceLE, Int.reduceToNat, ne_eq, not_false_eq_true, and_self, and_true, true_and, decide_true, decide_false, Int.reduceEq, Int.reduceLT, Int.reduceBEq, Int.reduceBNe, not_true_eq_false, undef] <;> rfl) ?_
    have hC3 := hC2.keep (g' := G1) (k1 p hpn) (fun i hi => k1 i (hdom i hi))
    have hld3 := ld23 hC3.obj
    have hst := st23 hC3.obj (slV_shape (l := k) (k := l.length) hC3.shape)
    refine s_run (by simp only [runL, List.drop_succ_cons, List.drop_zero, awant_some, Option.getD_some, List.getElem?_toArray, List.getElem?_cons_succ, List.getElem?_cons_zero, Option.bind_some, b_tt, b_tf, b_ft, b_ff, Bool.not_true, Bool.not_false, List.take_succ_cons, List.take_zero, awant_none, astep, evl, put, ap_none, ap_new, ap_wr, List.length_nil, List.length_cons, Nat.add_zero, Nat.zero_add, upd_app, stepBin, abin, stepUn, stepPick, stepExtract, stepCall, if_true, if_false, reduceCtorEq, ↓reduceIte, Nat.reduceEqDiff, Nat.reduceAdd, List.map_cons, List.map_nil, Option.map_some, Option.map_none, Bool.false_eq_true, Int.reduceLE, Int.reduceToNat, ne_eq, not_false_eq_true, and_self, and_true, true_and, decide_true, decide_false, Int.reduceEq, Int.reduceLT, Int.reduceBEq, Int.reduceBNe, not_true_eq_false, undef, t0, t1, nc1, fld68, hld3, b1, hst] <;> rfl) ?_
    refine s_run (by simp only [runL, List.drop_succ_cons, List.drop_zero, awant_some, Option.getD_some, List.getElem?_toArray, List.getElem?_cons_succ, List.getElem?_cons_zero, Option.bind_some, b_tt, b_tf, b_ft, b_ff, Bool.not_true, Bool.not_false, List.take_succ_cons, List.take_zero, awant_none, astep, evl, put, ap_none, ap_new, ap_wr, List.length_nil, List.length_cons, Nat.add_zero, Nat.zero_add, upd_app, stepBin, abin, stepUn, stepPick, stepExtract, stepCall, if_true, if_false, reduceCtorEq, ↓reduceIte, Nat.reduceEqDiff, Nat.reduceAdd, List.map_cons, List.map_nil, Option.map_some, Option.map_none, Bool.false_eq_true, Int.reduceLE, Int.reduceToNat, ne_eq, not_false_eq_true, and_self, and_true, true_and, decide_true, decide_false, Int.reduceEq, Int.reduceLT, Int.reduceBEq, Int.reduceBNe, not_true_eq_false, undef] <;> rfl) ?_
    rw [takeE, if_neg h0] at hfr ⊢
    refine w_ret ⟨.inr rfl, fun _ r hr => ?_, [n], fin_wa1 ?_ ?_ (Nat.le_refl _) (by simp [upd_app, show n ≠ p by omega, g1n]) plain_ints (hfr j (Nat.le_refl _) (by simp)) (by rw [hC2.obj]; rfl) (by simp [upd_app]) (fun c hc => by simp at hc; subst hc; exact b4 s2 hsv1) (fun i b hi hb => ?_)⟩
    · simp at hr; rcases hr with rfl | rfl <;> simp [upd_app, put, isTup]
    · simp [resVal, upd_app, put, renT, renA, ren1]
    · exact sv_pair (.inr (.inr rfl)) ⟨_, _, _, rfl⟩
    · have := hs i (hwf i b hb).1
      simp [upd_app, hi]
      exact k1.at this hb
end Go.Proofs.Ytokmmcfnpobldaa

namespace Go.Proofs.Ytokmmcfnpobldaa
open Go Abs
set_option linter.unusedSimpArgs false
set_option linter.unusedVariables false

theorem nil_empty {g : Heap} {v : Value} {m : Nat} {cs : List Value} (h : Src g v 1 m cs) (hn : isNil v = true) : m = 0 := by
  rcases Nat.eq_zero_or_pos m with h0 | h0
  · exact h0
  · rw [src_notnil h h0] at hn; cases hn

/-- What Take's answer is good for. -/
theorem takeE_use {e : TypeId} {G : Heap} {p : Nat} {v : Value} {l : List Nat} {k j : Nat} (hC : Cu e G p v l) (hk : k ≤ l.length) (hp : p < j) (hd : ∀ i ∈ srcBlk v, i < j) :
    ∃ vc, (takeE e p v l k j).v = .tuple #[vc, .bool true] ∧ Src ((takeE e p v l k j).ap G) vc 1 (l.take k).length (bs (l.take k)) ∧ (∀ i ∈ srcBlk vc, j ≤ i ∧ i < j + (takeE e p v l k j).a.length) ∧
      Cu e ((takeE e p v l k j).ap G) p (slV v k l.length) (l.drop k) ∧ (∀ i, i < j → i ≠ p → (takeE e p v l k j).ap G i = G i) := by
  by_cases h0 : isNil v = true
  · have hl : l.length = 0 := nil_empty hC.src h0
    have hl' : l = [] := List.eq_nil_of_length_eq_zero hl
    rw [takeE, if_pos h0]
    refine ⟨_, rfl, .inl ⟨rfl, by simp [hl'], by simp [hl']⟩, by simp [srcBlk], hC.taken hk (by simp [ap_wr]) (fun i hi => ?_), fun i hi hne => by simp [ap_wr, upd_app, hne]⟩
    have : i ≠ p := fun e => hC.ne (e ▸ hi)
    simp [ap_wr, upd_app, this]
  · rw [takeE, if_neg h0]
    have hlk : (l.take k).length = k := by simp; omega
    have hap : ∀ i, i < j → i ≠ p → (({ v := .tuple #[.slice (some ⟨j, 0, some k⟩) k 1, .bool true], r := p :: srcBlk v, w := [(p, ⟨false, e, [slV v k l.length]⟩)], j := j, a := [⟨false, 5, bs (l.take k)⟩] } : Eff).ap G) i = G i := fun i hi hne => by
      simp [Eff.ap, setAll, addAll, upd_app, hne]; omega
    refine ⟨_, rfl, src_bs (ro := false) (e := 5) (by simp [Eff.ap, setAll, addAll, upd_app]) hlk.symm, fun i hi => by have := srcBlk_own i hi; simp; omega, hC.taken hk (by simp [Eff.ap, setAll, addAll, upd_app]; omega) (fun i hi => hap i (hd i hi) (fun e => hC.ne (e ▸ hi))), hap⟩

theorem aggless (b : Bool) : True := trivial

/-- A number of bytes at the head, taken: the ways of Byte and Four in the program. -/
theorem byt_take' {l : List Nat} {q i : Nat} (h : i < q) : byt (l.take q) i = byt l i := byt_take h

set_option maxRecDepth 10000 in
theorem cbyte_none (p : Nat) (v : Value) (g : Heap) (hC : Cu 68 g p v []) : FnSpec Try.prog 35 [pt1 p] g { v := .tuple #[.int .u8 0, .bool false], r := p :: srcBlk v } := by
  refine spec_of_body [2, 3] follows Try.func35 rfl (by kernel_rfl) (by simp [Try.f35]) (by kernel_rfl) rfl ?_
  intro g2 s2 n hg hfr hs hn hwf hsv
  have hC2 := hC.keep (g' := g2) (hg p (by simp [Eff.fp])) (fun i hi => hg i (by simp [Eff.fp, hi]))
  refine s_run (by simp only [runL, List.drop_succ_cons, List.drop_zero, awant_some, Option.getD_some, List.getElem?_toArray, List.getElem?_cons_succ, List.getElem?_cons_zero, Option.bind_some, b_tt, b_tf, b_ft, b_ff, Bool.not_true, Bool.not_false, List.take_succ_cons, List.take_zero, awant_none, astep, evl, put, ap_none, ap_new, ap_wr, List.length_nil, List.length_cons, Nat.add_zero, Nat.zero_add, upd_app, stepBin, abin, stepUn, stepPick, stepExtract, stepCall, if_true, if_false, reduceCtorEq, ↓reduceIte, Nat.reduceEqDiff, Nat.reduceAdd, List.map_cons, List.map_nil, Option.map_some, Option.map_none, Bool.false_eq_true, Int.reduceLE, Int.reduceToNat, ne_eq, not_false_eq_true, and_self, and_true, true_and, decide_true, decide_false, Int.reduceEq, Int.reduceLT, Int.reduceBEq, Int.reduceBNe, not_true_eq_false, undef] <;> rfl) ?_
  refine s_take 1 (by simp only [runL, List.drop_succ_cons, List.drop_zero, awant_some, Option.getD_some, List.getElem?_toArray, List.getElem?_cons_succ, List.getElem?_cons_zero, Option.bind_some, b_tt, b_tf, b_ft, b_ff, Bool.not_true, Bool.not_false, List.take_succ_cons, List.take_zero, awant_none, astep, evl, put, ap_none, ap_new, ap_wr, List.length_nil, List.length_cons, Nat.add_zero, Nat.zero_add, upd_app, stepBin, abin, stepUn, stepPick, stepExtract, stepCall, if_true, if_false, reduceCtorEq, ↓reduceIte, Nat.reduceEqDiff, Nat.reduceAdd, List.map_cons, List.map_nil, Option.map_some, Option.map_none, Bool.false_eq_true, Int.reduceLE, Int.reduceToNat, ne_eq, not_false_eq_true, and_self, and_true, true_and, decide_true, decide_false, Int.reduceEq, Int.reduceLT, Int.reduceBEq, Int.reduceBNe, not_true_eq_false, undef] <;> rfl) ?_
  refine ops_call 34 _ rfl (take_none p v [] 1 g2 (by simp) hC2 (.inr (by simp))) (by intro h; exact (h rfl).elim) ?_
  refine ops_run (by simp only [runL, List.drop_succ_cons, List.drop_zero, awant_some, Option.getD_some, List.getElem?_toArray, List.getElem?_cons_succ, List.getElem?_cons_zero, Option.bind_some, b_tt, b_tf, b_ft, b_ff, Bool.not_true, Bool.not_false, List.take_succ_cons, List.take_zero, awant_none, astep, evl, put, ap_none, ap_new, ap_wr, List.length_nil, List.length_cons, Nat.add_zero, Nat.zero_add, upd_app, stepBin, abin, stepUn, stepPick, stepExtract, stepCall, if_true, if_false, reduceCtorEq, ↓reduceIte, Nat.reduceEqDiff, Nat.reduceAdd, List.map_cons, List.map_nil, Option.map_some, Option.map_none, Bool.false_eq_true, Int.reduceLE, Int.reduceToNat, ne_eq, not_false_eq_true, and_self, and_true, true_and, decide_true, decide_false, Int.reduceEq, Int.reduceLT, Int.reduceBEq, Int.reduceBNe, not_true_eq_false, undef] <;> rfl) ?_
  refine w_assoc (s_run (by simp only [runL, List.drop_succ_cons, List.drop_zero, awant_some, Option.getD_some, List.getElem?_toArray, List.getElem?_cons_succ, List.getElem?_cons_zero, Option.bind_some, b_tt, b_tf, b_ft, b_ff, Bool.not_true, Bool.not_false, List.take_succ_cons, List.take_zero, awant_none, astep, evl, put, ap_none, ap_new, ap_wr, List.length_nil, List.length_cons, Nat.add_zero, Nat.zero_add, upd_app, stepBin, abin, stepUn, stepPick, stepExtract, stepCall, if_true, if_false, reduceCtorEq, ↓reduceIte, Nat.reduceEqDiff, Nat.reduceAdd, List.map_cons, List.map_nil, Option.map_some, Option.map_none, Bool.false_eq_true, Int.reduceLE, Int.reduceToNat, ne_eq, not_false_eq_true, and_self, and_true, true_and, decide_true, decide_false, Int.reduceEq, Int.reduceLT, Int.reduceBEq, Int.reduceBNe, not_true_eq_false, undef] <;> rfl) ?_)
  refine s_true (by simp [evl, upd_app]) (w_assoc (s_run (by simp only [runL, List.drop_succ_cons, List.drop_zero, awant_some, Option.getD_some, List.getElem?_toArray, List.getElem?_cons_succ, List.getElem?_cons_zero, Option.bind_some, b_tt, b_tf, b_ft, b_ff, Bool.not_true, Bool.not_false, List.take_succ_cons, List.take_zero, awant_none, astep, evl, put, ap_none, ap_new, ap_wr, List.length_nil, List.length_cons, Nat.add_zero, Nat.zero_add, upd_app, stepBin, abin, stepUn, stepPick, stepExtract, stepCall, if_true, if_false, reduceCtorEq, ↓reduceIte, Nat.reduceEqDiff, Nat.reduceAdd, List.map_cons, List.map_nil, Option.map_some, Option.map_none, Bool.false_eq_true, Int.reduceLE, Int.reduceToNat, ne_eq, not_false_eq_true, and_self, and_true, true_and, decide_true, decide_false, Int.reduceEq, Int.reduceLT, Int.reduceBEq, Int.reduceBNe, not_true_eq_false, undef] <;> rfl) (s_ret ?_)))
  refine ⟨.inr rfl, fun _ r hr => ?_, [], fin_none ?_ (by intro c hc; simp at hc; rcases hc with rfl | rfl <;> trivial) (fun _ _ h => h)⟩
  · simp at hr; rcases hr with rfl | rfl <;> simp [upd_app, isTup]
  · simp [resVal, upd_app]

set_option maxRecDepth 10000 in
theorem cbyte_some (p : Nat) (v : Value) (l : List Nat) (g : Heap) (hl : l.length ≤ 2 ^ 40) (hC : Cu 68 g p v l) (h1 : 1 ≤ l.length) (j : Nat) : FnSpec Try.prog 35 [pt1 p] g { v := .tuple #[.int .u8 (byt l 0), .bool true], r := p :: srcBlk v, w := [(p, ⟨false, 68, [slV v 1 l.length]⟩)], j := j } := by
  refine spec_of_body [2, 3] follows Try.func35 rfl (by kernel_rfl) (by simp [Try.f35]) (by kernel_rfl) rfl ?_
  intro g2 s2 n hg hfr hs hn hwf hsv
  have hC2 := hC.keep (g' := g2) (hg p (by simp [Eff.fp])) (fun i hi => hg i (by simp [Eff.fp, hi]))
  have hpn : p < n := hs p (hwf p _ hC2.obj).1
  have hdom : ∀ i ∈ srcBlk v, i < n := fun i hi => by
    obtain ⟨b, hb⟩ := Option.isSome_iff_exists.1 (hC2.src.dom i hi)
    exact hs i (hwf i b hb).1
  have hsv1 : SV1 s2 v := (hwf p _ hC2.obj).2 v (by simp)
  obtain ⟨_, _, _, b4⟩ := src_slV (P := Try.prog) hC2.src Try.underlying23 tsize5 (some (.int .i64 ((1 : Nat) : Int))) none 1 l.length rfl rfl h1 (Nat.le_refl _)
  obtain ⟨vc, u1, u2, u3, u4, u5⟩ := takeE_use hC2 h1 hpn hdom
  refine s_run (by simp only [runL, List.drop_succ_cons, List.drop_zero, awant_some, Option.getD_some, List.getElem?_toArray, List.getElem?_cons_succ, List.getElem?_cons_zero, Option.bind_some, b_tt, b_tf, b_ft, b_ff, Bool.not_true, Bool.not_false, List.take_succ_cons, List.take_zero, awant_none, astep, evl, put, ap_none, ap_new, ap_wr, List.length_nil, List.length_cons, Nat.add_zero, Nat.zero_add, upd_app, stepBin, abin, stepUn, stepPick, stepExtract, stepCall, if_true, if_false, reduceCtorEq, ↓reduceIte, Nat.reduceEqDiff, Nat.reduceAdd, List.map_cons, List.map_nil, Option.map_some, Option.map_none, Bool.false_eq_true, Int.reduceLE, Int.reduceToNat, ne_eq, not_false_eq_true, and_self, and_true, true_and, decide_true, decide_false, Int.reduceEq, Int.reduceLT, Int.reduceBEq, Int.reduceBNe, not_true_eq_false, undef] <;> rfl) ?_
  refine s_take 1 (by simp only [runL, List.drop_succ_cons, List.drop_zero, awant_some, Option.getD_some, List.getElem?_toArray, List.getElem?_cons_succ, List.getElem?_cons_zero, Option.bind_some, b_tt, b_tf, b_ft, b_ff, Bool.not_true, Bool.not_false, List.take_succ_cons, List.take_zero, awant_none, astep, evl, put, ap_none, ap_new, ap_wr, List.length_nil, List.length_cons, Nat.add_zero, Nat.zero_add, upd_app, stepBin, abin, stepUn, stepPick, stepExtract, stepCall, if_true, if_false, reduceCtorEq, ↓reduceIte, Nat.reduceEqDiff, Nat.reduceAdd, List.map_cons, List.map_nil, Option.map_some, Option.map_none, Bool.false_eq_true, Int.reduceLE, Int.reduceToNat, ne_eq, not_false_eq_true, and_self, and_true, true_and, decide_true, decide_false, Int.reduceEq, Int.reduceLT, Int.reduceBEq, Int.reduceBNe, not_true_eq_false, undef] <;> rfl) ?_
  refine ops_call 34 _ rfl (take_some p v l 1 g2 n hl hC2 h1) (by intro _; rw [takeE_j]) (ops_heap fun G hG => ops_num fun N hN => ?_)
  rw [← hG] at u2 u4 u5
  rw [u1]
  refine ops_run (by simp only [runL, List.drop_succ_cons, List.drop_zero, awant_some, Option.getD_some, List.getElem?_toArray, List.getElem?_cons_succ, List.getElem?_cons_zero, Option.bind_some, b_tt, b_tf, b_ft, b_ff, Bool.not_true, Bool.not_false, List.take_succ_cons, List.take_zero, awant_none, astep, evl, put, ap_none, ap_new, ap_wr, List.length_nil, List.length_cons, Nat.add_zero, Nat.zero_add, upd_app, stepBin, abin, stepUn, stepPick, stepExtract, stepCall, if_true, if_false, reduceCtorEq, ↓reduceIte, Nat.reduceEqDiff, Nat.reduceAdd, List.map_cons, List.map_nil, Option.map_some, Option.map_none, Bool.false_eq_true, Int.reduceLE, Int.reduceToNat, ne_eq, not_false_eq_true, and_self, and_true, true_and, decide_true, decide_false, Int.reduceEq, Int.reduceLT, Int.reduceBEq, Int.reduceBNe, not_true_eq_false, undef] <;> rfl) ?_
  refine w_gen (fun t => t 4 = vc ∧ t 5 = .bool true) (by simp [upd_app, put]) ?_
  rintro t ⟨t4, t5⟩
  refine w_assoc (s_run (by simp only [runL, List.drop_succ_cons, List.drop_zero, awant_some, Option.getD_some, List.getElem?_toArray, List.getElem?_cons_succ, List.getElem?_cons_zero, Option.bind_some, b_tt, b_tf, b_ft, b_ff, Bool.not_true, Bool.not_false, List.take_succ_cons, List.take_zero, awant_none, astep, evl, put, ap_none, ap_new, ap_wr, List.length_nil, List.length_cons, Nat.add_zero, Nat.zero_add, upd_app, stepBin, abin, stepUn, stepPick, stepExtract, stepCall, if_true, if_false, reduceCtorEq, ↓reduceIte, Nat.reduceEqDiff, Nat.reduceAdd, List.map_cons, List.map_nil, Option.map_some, Option.map_none, Bool.false_eq_true, Int.reduceLE, Int.reduceToNat, ne_eq, not_false_eq_true, and_self, and_true, true_and, decide_true, decide_false, Int.reduceEq, Int.reduceLT, Int.reduceBEq, Int.reduceBNe, not_true_eq_false, undef, t5] <;> rfl) ?_)
  refine s_false (by simp [evl, upd_app]) (s_skip ?_)
  have hltk : (l.take 1).length = 1 := by simp; omega
  obtain ⟨q, i1, i2, _⟩ := u2.at1 (P := Try.prog) (i := 0) (c := .int .u8 (byt l 0)) (by rw [← byt_take (q := 1) (by omega)]; exact bs_at (by omega)) Try.underlying23 tsize5 aggT5
  have i1' : stepIndex Try.prog 23 vc (.int .i64 0) = some { v := .pointer (some q) } := i1 .i64
  refine s_run (by simp only [runL, List.drop_succ_cons, List.drop_zero, awant_some, Option.getD_some, List.getElem?_toArray, List.getElem?_cons_succ, List.getElem?_cons_zero, Option.bind_some, b_tt, b_tf, b_ft, b_ff, Bool.not_true, Bool.not_false, List.take_succ_cons, List.take_zero, awant_none, astep, evl, put, ap_none, ap_new, ap_wr, List.length_nil, List.length_cons, Nat.add_zero, Nat.zero_add, upd_app, stepBin, abin, stepUn, stepPick, stepExtract, stepCall, if_true, if_false, reduceCtorEq, ↓reduceIte, Nat.reduceEqDiff, Nat.reduceAdd, List.map_cons, List.map_nil, Option.map_some, Option.map_none, Bool.false_eq_true, Int.reduceLE, Int.reduceToNat, ne_eq, not_false_eq_true, and_self, and_true, true_and, decide_true, decide_false, Int.reduceEq, Int.reduceLT, Int.reduceBEq, Int.reduceBNe, not_true_eq_false, undef, t4, i1', i2] <;> rfl) ?_
  refine w_ret ⟨.inr rfl, fun _ r hr => ?_, [], fin_w1 ?_ (by intro c hc; simp at hc; rcases hc with rfl | rfl <;> trivial) (by rw [hC2.obj]; rfl) u4.obj (fun c hc => by simp at hc; subst hc; exact b4 s2 hsv1) (fun i b hi hb => ?_)⟩
  · simp at hr; rcases hr with rfl | rfl <;> simp [upd_app, put, isTup]
  · simp [resVal, upd_app, put]
  · rw [u5 i (hs i (hwf i b hb).1) hi]; exact hb

/-- Four bytes as a number. -/
def fourv (l : List Nat) : Nat := byt l 0 + byt l 1 * 256 + byt l 2 * 65536 + byt l 3 * 16777216

set_option maxRecDepth 10000 in
theorem cfour_none (p : Nat) (v : Value) (l : List Nat) (g : Heap) (hC : Cu 68 g p v l) (h4 : l.length < 4) : FnSpec Try.prog 39 [pt1 p] g { v := .tuple #[.int .u32 0, .bool false], r := p :: srcBlk v } := by
  refine spec_of_body [2, 3] follows Try.func39 rfl (by kernel_rfl) (by simp [Try.f39]) (by kernel_rfl) rfl ?_
  intro g2 s2 n hg hfr hs hn hwf hsv
  have hC2 := hC.keep (g' := g2) (hg p (by simp [Eff.fp])) (fun i hi => hg i (by simp [Eff.fp, hi]))
  refine s_run (by simp only [runL, List.drop_succ_cons, List.drop_zero, awant_some, Option.getD_some, List.getElem?_toArray, List.getElem?_cons_succ, List.getElem?_cons_zero, Option.bind_some, b_tt, b_tf, b_ft, b_ff, Bool.not_true, Bool.not_false, List.take_succ_cons, List.take_zero, awant_none, astep, evl, put, ap_none, ap_new, ap_wr, List.length_nil, List.length_cons, Nat.add_zero, Nat.zero_add, upd_app, stepBin, abin, stepUn, stepPick, stepExtract, stepCall, if_true, if_false, reduceCtorEq, ↓reduceIte, Nat.reduceEqDiff, Nat.reduceAdd, List.map_cons, List.map_nil, Option.map_some, Option.map_none, Bool.false_eq_true, Int.reduceLE, Int.reduceToNat, ne_eq, not_false_eq_true, and_self, and_true, true_and, decide_true, decide_false, Int.reduceEq, Int.reduceLT, Int.reduceBEq, Int.reduceBNe, not_true_eq_false, undef] <;> rfl) ?_
  refine s_take 1 (by simp only [runL, List.drop_succ_cons, List.drop_zero, awant_some, Option.getD_some, List.getElem?_toArray, List.getElem?_cons_succ, List.getElem?_cons_zero, Option.bind_some, b_tt, b_tf, b_ft, b_ff, Bool.not_true, Bool.not_false, List.take_succ_cons, List.take_zero, awant_none, astep, evl, put, ap_none, ap_new, ap_wr, List.length_nil, List.length_cons, Nat.add_zero, Nat.zero_add, upd_app, stepBin, abin, stepUn, stepPick, stepExtract, stepCall, if_true, if_false, reduceCtorEq, ↓reduceIte, Nat.reduceEqDiff, Nat.reduceAdd, List.map_cons, List.map_nil, Option.map_some, Option.map_none, Bool.false_eq_true, Int.reduceLE, Int.reduceToNat, ne_eq, not_false_eq_true, and_self, and_true, true_and, decide_true, decide_false, Int.reduceEq, Int.reduceLT, Int.reduceBEq, Int.reduceBNe, not_true_eq_false, undef] <;> rfl) ?_
  refine ops_call 34 _ rfl (take_none p v l 4 g2 (by omega) hC2 (.inr (by omega))) (by intro h; exact (h rfl).elim) ?_
  refine ops_run (by simp only [runL, List.drop_succ_cons, List.drop_zero, awant_some, Option.getD_some, List.getElem?_toArray, List.getElem?_cons_succ, List.getElem?_cons_zero, Option.bind_some, b_tt, b_tf, b_ft, b_ff, Bool.not_true, Bool.not_false, List.take_succ_cons, List.take_zero, awant_none, astep, evl, put, ap_none, ap_new, ap_wr, List.length_nil, List.length_cons, Nat.add_zero, Nat.zero_add, upd_app, stepBin, abin, stepUn, stepPick, stepExtract, stepCall, if_true, if_false, reduceCtorEq, ↓reduceIte, Nat.reduceEqDiff, Nat.reduceAdd, List.map_cons, List.map_nil, Option.map_some, Option.map_none, Bool.false_eq_true, Int.reduceLE, Int.reduceToNat, ne_eq, not_false_eq_true, and_self, and_true, true_and, decide_true, decide_false, Int.reduceEq, Int.reduceLT, Int.reduceBEq, Int.reduceBNe, not_true_eq_false, undef] <;> rfl) ?_
  refine w_assoc (s_run (by simp only [runL, List.drop_succ_cons, List.drop_zero, awant_some, Option.getD_some, List.getElem?_toArray, List.getElem?_cons_succ, List.getElem?_cons_zero, Option.bind_some, b_tt, b_tf, b_ft, b_ff, Bool.not_true, Bool.not_false, List.take_succ_cons, List.take_zero, awant_none, astep, evl, put, ap_none, ap_new, ap_wr, List.length_nil, List.length_cons, Nat.add_zero, Nat.zero_add, upd_app, stepBin, abin, stepUn, stepPick, stepExtract, stepCall, if_true, if_false, reduceCtorEq, ↓reduceIte, Nat.reduceEqDiff, Nat.reduceAdd, List.map_cons, List.map_nil, Option.map_some, Option.map_none, Bool.false_eq_true, Int.reduceLE, Int.reduceToNat, ne_eq, not_false_eq_true, and_self, and_true, true_and, decide_true, decide_false, Int.reduceEq, Int.reduceLT, Int.reduceBEq, Int.reduceBNe, not_true_eq_false, undef] <;> rfl) ?_)
  refine s_true (by simp [evl, upd_app]) (w_assoc (s_run (by simp only [runL, List.drop_succ_cons, List.drop_zero, awant_some, Option.getD_some, List.getElem?_toArray, List.getElem?_cons_succ, List.getElem?_cons_zero, Option.bind_some, b_tt, b_tf, b_ft, b_ff, Bool.not_true, Bool.not_false, List.take_succ_cons, List.take_zero, awant_none, astep, evl, put, ap_none, ap_new, ap_wr, List.length_nil, List.length_cons, Nat.add_zero, Nat.zero_add, upd_app, stepBin, abin, stepUn, stepPick, stepExtract, stepCall, if_true, if_false, reduceCtorEq, ↓reduceIte, Nat.reduceEqDiff, Nat.reduceAdd, List.map_cons, List.map_nil, Option.map_some, Option.map_none, Bool.false_eq_true, Int.reduceLE, Int.reduceToNat, ne_eq, not_false_eq_true, and_self, and_true, true_and, decide_true, decide_false, Int.reduceEq, Int.reduceLT, Int.reduceBEq, Int.reduceBNe, not_true_eq_false, undef] <;> rfl) (s_ret ?_)))
  refine ⟨.inr rfl, fun _ r hr => ?_, [], fin_none ?_ (by intro c hc; simp at hc; rcases hc with rfl | rfl <;> trivial) (fun _ _ h => h)⟩
  · simp at hr; rcases hr with rfl | rfl <;> simp [upd_app, isTup]
  · simp [resVal, upd_app]

/-- The first k bytes of a number of four. -/
def fourp (l : List Nat) (k : Nat) : Nat := (if 0 < k then byt l 0 else 0) + (if 1 < k then byt l 1 * 256 else 0) + (if 2 < k then byt l 2 * 65536 else 0) + (if 3 < k then byt l 3 * 16777216 else 0)

theorem fourp_step {l : List Nat} (hb : ∀ x ∈ l, x < 256) {k : Nat} (hk : k < 4) :
    bits .or .u32 (fourp l k : Int) (IntKind.u32.wrap (IntKind.u32.wrap (byt l k : Int) * 2 ^ (min ((8 * k : Nat) : Int).toNat IntKind.u32.bits))) = (fourp l (k + 1) : Int) := by
  have b0 := byt_lt hb 0
  have b1 := byt_lt hb 1
  have b2 := byt_lt hb 2
  have b3 := byt_lt hb 3
  have key : ∀ (x y i : Nat), x < 2 ^ i → y < 256 → i + 8 ≤ 32 → bits .or .u32 (x : Int) ((y * 2 ^ i : Nat) : Int) = ((x + y * 2 ^ i : Nat) : Int) := by
    intro x y i hx hy hi
    have hy2 : y * 2 ^ i < 2 ^ 32 := by
      calc y * 2 ^ i < 256 * 2 ^ i := Nat.mul_lt_mul_of_pos_right hy (Nat.two_pow_pos i)
        _ = 2 ^ (8 + i) := by rw [Nat.pow_add]
        _ ≤ 2 ^ 32 := Nat.pow_le_pow_right (by omega) (by omega)
    have hx2 : x < 2 ^ 32 := Nat.lt_of_lt_of_le hx (Nat.pow_le_pow_right (by omega) (by omega))
    have h := bits_nat .u32 32 (by decide) (fun z h0 h1 => by rw [IntKind.wrap_u32]; omega) x (y * 2 ^ i) hx2 hy2
    rw [h.2, Nat.or_comm, Nat.mul_comm y, ← Nat.two_pow_add_eq_or_of_lt hx, Nat.add_comm]
  have w : ∀ (y i : Nat), y < 256 → i + 8 ≤ 32 → IntKind.u32.wrap (IntKind.u32.wrap (y : Int) * 2 ^ (min ((i : Nat) : Int).toNat IntKind.u32.bits)) = ((y * 2 ^ i : Nat) : Int) := by
    intro y i hy hi
    have h1 : min ((i : Nat) : Int).toNat IntKind.u32.bits = i := by rw [Int.toNat_natCast]; exact Nat.min_eq_left (by show i ≤ 32; omega)
    have hy2 : y * 2 ^ i < 2 ^ 32 := by
      calc y * 2 ^ i < 256 * 2 ^ i := Nat.mul_lt_mul_of_pos_right hy (Nat.two_pow_pos i)
        _ = 2 ^ (8 + i) := by rw [Nat.pow_add]
        _ ≤ 2 ^ 32 := Nat.pow_le_pow_right (by omega) (by omega)
    have h2 : IntKind.u32.wrap (y : Int) = (y : Int) := by rw [IntKind.wrap_u32]; omega
    have e : ((y : Int) * 2 ^ i) = ((y * 2 ^ i : Nat) : Int) := by simp
    rw [h1, h2, e, IntKind.wrap_u32]; omega
  have hw := w (byt l k) (8 * k) (byt_lt hb k) (by omega)
  rw [hw]
  obtain rfl | rfl | rfl | rfl : k = 0 ∨ k = 1 ∨ k = 2 ∨ k = 3 := by omega
  · rw [key _ _ _ (by simp [fourp]) b0 (by omega)]; simp [fourp]
  · rw [key _ _ _ (by simp [fourp]; omega) b1 (by omega)]; simp [fourp]
  · rw [key _ _ _ (by simp [fourp]; omega) b2 (by omega)]; simp [fourp]
  · rw [key _ _ _ (by simp [fourp]; omega) b3 (by omega)]; simp [fourp]

set_option maxRecDepth 10000 in
theorem cfour_some (p : Nat) (v : Value) (l : List Nat) (g : Heap) (hl : l.length ≤ 2 ^ 40) (hb : ∀ x ∈ l, x < 256) (hC : Cu 68 g p v l) (h4 : 4 ≤ l.length) (j : Nat) : FnSpec Try.prog 39 [pt1 p] g { v := .tuple #[.int .u32 (fourv l), .bool true], r := p :: srcBlk v, w := [(p, ⟨false, 68, [slV v 4 l.length]⟩)], j := j } := by
  refine spec_of_body [2, 3] follows Try.func39 rfl (by kernel_rfl) (by simp [Try.f39]) (by kernel_rfl) rfl ?_
  intro g2 s2 n hg hfr hs hn hwf hsv
  have hC2 := hC.keep (g' := g2) (hg p (by simp [Eff.fp])) (fun i hi => hg i (by simp [Eff.fp, hi]))
  have hpn : p < n := hs p (hwf p _ hC2.obj).1
  have hdom : ∀ i ∈ srcBlk v, i < n := fun i hi => by
    obtain ⟨b, hb⟩ := Option.isSome_iff_exists.1 (hC2.src.dom i hi)
    exact hs i (hwf i b hb).1
  have hsv1 : SV1 s2 v := (hwf p _ hC2.obj).2 v (by simp)
  obtain ⟨_, _, _, b4⟩ := src_slV (P := Try.prog) hC2.src Try.underlying23 tsize5 (some (.int .i64 ((4 : Nat) : Int))) none 4 l.length rfl rfl h4 (Nat.le_refl _)
  obtain ⟨vc, u1, u2, u3, u4, u5⟩ := takeE_use hC2 h4 hpn hdom
  refine s_run (by simp only [runL, List.drop_succ_cons, List.drop_zero, awant_some, Option.getD_some, List.getElem?_toArray, List.getElem?_cons_succ, List.getElem?_cons_zero, Option.bind_some, b_tt, b_tf, b_ft, b_ff, Bool.not_true, Bool.not_false, List.take_succ_cons, List.take_zero, awant_none, astep, evl, put, ap_none, ap_new, ap_wr, List.length_nil, List.length_cons, Nat.add_zero, Nat.zero_add, upd_app, stepBin, abin, stepUn, stepPick, stepExtract, stepCall, if_true, if_false, reduceCtorEq, ↓reduceIte, Nat.reduceEqDiff, Nat.reduceAdd, List.map_cons, List.map_nil, Option.map_some, Option.map_none, Bool.false_eq_true, Int.reduceLE, Int.reduceToNat, ne_eq, not_false_eq_true, and_self, and_true, true_and, decide_true, decide_false, Int.reduceEq, Int.reduceLT, Int.reduceBEq, Int.reduceBNe, not_true_eq_false, undef] <;> rfl) ?_
  refine s_take 1 (by simp only [runL, List.drop_succ_cons, List.drop_zero, awant_some, Option.getD_some, List.getElem?_toArray, List.getElem?_cons_succ, List.getElem?_cons_zero, Option.bind_some, b_tt, b_tf, b_ft, b_ff, Bool.not_true, Bool.not_false, List.take_succ_cons, List.take_zero, awant_none, astep, evl, put, ap_none, ap_new, ap_wr, List.length_nil, List.length_cons, Nat.add_zero, Nat.zero_add, upd_app, stepBin, abin, stepUn, stepPick, stepExtract, stepCall, if_true, if_false, reduceCtorEq, ↓reduceIte, Nat.reduceEqDiff, Nat.reduceAdd, List.map_cons, List.map_nil, Option.map_some, Option.map_none, Bool.false_eq_true, Int.reduceLE, Int.reduceToNat, ne_eq, not_false_eq_true, and_self, and_true, true_and, decide_true, decide_false, Int.reduceEq, Int.reduceLT, Int.reduceBEq, Int.reduceBNe, not_true_eq_false, undef] <;> rfl) ?_
  refine ops_call 34 _ rfl (take_some p v l 4 g2 n hl hC2 h4) (by intro _; rw [takeE_j]) (ops_heap fun G hG => ops_num fun N hN => ?_)
  rw [← hG] at u2 u4 u5
  rw [u1]
  refine ops_run (by simp only [runL, List.drop_succ_cons, List.drop_zero, awant_some, Option.getD_some, List.getElem?_toArray, List.getElem?_cons_succ, List.getElem?_cons_zero, Option.bind_some, b_tt, b_tf, b_ft, b_ff, Bool.not_true, Bool.not_false, List.take_succ_cons, List.take_zero, awant_none, astep, evl, put, ap_none, ap_new, ap_wr, List.length_nil, List.length_cons, Nat.add_zero, Nat.zero_add, upd_app, stepBin, abin, stepUn, stepPick, stepExtract, stepCall, if_true, if_false, reduceCtorEq, ↓reduceIte, Nat.reduceEqDiff, Nat.reduceAdd, List.map_cons, List.map_nil, Option.map_some, Option.map_none, Bool.false_eq_true, Int.reduceLE, Int.reduceToNat, ne_eq, not_false_eq_true, and_self, and_true, true_and, decide_true, decide_false, Int.reduceEq, Int.reduceLT, Int.reduceBEq, Int.reduceBNe, not_true_eq_false, undef] <;> rfl) ?_
  refine w_gen (fun t => t 4 = vc ∧ t 5 = .bool true) (by simp [upd_app, put]) ?_
  rintro t ⟨t4, t5⟩
  refine w_assoc (s_run (by simp only [runL, List.drop_succ_cons, List.drop_zero, awant_some, Option.getD_some, List.getElem?_toArray, List.getElem?_cons_succ, List.getElem?_cons_zero, Option.bind_some, b_tt, b_tf, b_ft, b_ff, Bool.not_true, Bool.not_false, List.take_succ_cons, List.take_zero, awant_none, astep, evl, put, ap_none, ap_new, ap_wr, List.length_nil, List.length_cons, Nat.add_zero, Nat.zero_add, upd_app, stepBin, abin, stepUn, stepPick, stepExtract, stepCall, if_true, if_false, reduceCtorEq, ↓reduceIte, Nat.reduceEqDiff, Nat.reduceAdd, List.map_cons, List.map_nil, Option.map_some, Option.map_none, Bool.false_eq_true, Int.reduceLE, Int.reduceToNat, ne_eq, not_false_eq_true, and_self, and_true, true_and, decide_true, decide_false, Int.reduceEq, Int.reduceLT, Int.reduceBEq, Int.reduceBNe, not_true_eq_false, undef, t5] <;> rfl) ?_)
  refine s_false (by simp [evl, upd_app]) (s_skip ?_)
  have hltk : (l.take 4).length = 4 := by simp; omega
  have hlen := u2.len (P := Try.prog) Try.underlying23
  rw [hltk] at hlen
  refine s_run (by simp only [runL, List.drop_succ_cons, List.drop_zero, awant_some, Option.getD_some, List.getElem?_toArray, List.getElem?_cons_succ, List.getElem?_cons_zero, Option.bind_some, b_tt, b_tf, b_ft, b_ff, Bool.not_true, Bool.not_false, List.take_succ_cons, List.take_zero, awant_none, astep, evl, put, ap_none, ap_new, ap_wr, List.length_nil, List.length_cons, Nat.add_zero, Nat.zero_add, upd_app, stepBin, abin, stepUn, stepPick, stepExtract, stepCall, if_true, if_false, reduceCtorEq, ↓reduceIte, Nat.reduceEqDiff, Nat.reduceAdd, List.map_cons, List.map_nil, Option.map_some, Option.map_none, Bool.false_eq_true, Int.reduceLE, Int.reduceToNat, ne_eq, not_false_eq_true, and_self, and_true, true_and, decide_true, decide_false, Int.reduceEq, Int.reduceLT, Int.reduceBEq, Int.reduceBNe, not_true_eq_false, undef] <;> rfl) ?_
  refine w_assoc (s_run (by simp only [runL, List.drop_succ_cons, List.drop_zero, awant_some, Option.getD_some, List.getElem?_toArray, List.getElem?_cons_succ, List.getElem?_cons_zero, Option.bind_some, b_tt, b_tf, b_ft, b_ff, Bool.not_true, Bool.not_false, List.take_succ_cons, List.take_zero, awant_none, astep, evl, put, ap_none, ap_new, ap_wr, List.length_nil, List.length_cons, Nat.add_zero, Nat.zero_add, upd_app, stepBin, abin, stepUn, stepPick, stepExtract, stepCall, if_true, if_false, reduceCtorEq, ↓reduceIte, Nat.reduceEqDiff, Nat.reduceAdd, List.map_cons, List.map_nil, Option.map_some, Option.map_none, Bool.false_eq_true, Int.reduceLE, Int.reduceToNat, ne_eq, not_false_eq_true, and_self, and_true, true_and, decide_true, decide_false, Int.reduceEq, Int.reduceLT, Int.reduceBEq, Int.reduceBNe, not_true_eq_false, undef, t4, hlen] <;> rfl) ?_)
  refine s_rng 4 (fun k t g n' => t 16 = vc ∧ t 6 = .int .u32 (fourp l k) ∧ g = G) (by omega) (by simp [upd_app]) (by simp [upd_app]) (fun x => ⟨by simp [upd_app, t4], by simp [upd_app, fourp], rfl⟩) (by decide) ?_ ?_
  · clear t4 t5
    rintro k t g n' hk t18 t17 ⟨t16, t6, rfl⟩
    obtain ⟨q, i1, i2, _⟩ := u2.at1 (P := Try.prog) (i := k) (c := .int .u8 (byt l k)) (by rw [← byt_take (q := 4) (by omega)]; exact bs_at (by omega)) Try.underlying23 tsize5 aggT5
    have w1 : IntKind.i64.wrap (8 * (k : Int)) = ((8 * k : Nat) : Int) := by rw [wrap64_of (by omega) (by omega)]; simp
    have hst := fourp_step hb hk
    refine s_run (by simp only [runL, List.drop_succ_cons, List.drop_zero, awant_some, Option.getD_some, List.getElem?_toArray, List.getElem?_cons_succ, List.getElem?_cons_zero, Option.bind_some, b_tt, b_tf, b_ft, b_ff, Bool.not_true, Bool.not_false, List.take_succ_cons, List.take_zero, awant_none, astep, evl, put, ap_none, ap_new, ap_wr, List.length_nil, List.length_cons, Nat.add_zero, Nat.zero_add, upd_app, stepBin, abin, stepUn, stepPick, stepExtract, stepCall, if_true, if_false, reduceCtorEq, ↓reduceIte, Nat.reduceEqDiff, Nat.reduceAdd, List.map_cons, List.map_nil, Option.map_some, Option.map_none, Bool.false_eq_true, Int.reduceLE, Int.reduceToNat, ne_eq, not_false_eq_true, and_self, and_true, true_and, decide_true, decide_false, Int.reduceEq, Int.reduceLT, Int.reduceBEq, Int.reduceBNe, not_true_eq_false, undef, t18, t16, i1, i2] <;> rfl) ?_
    refine region_run (id := 8) (by simp only [runL, List.drop_succ_cons, List.drop_zero, awant_some, Option.getD_some, List.getElem?_toArray, List.getElem?_cons_succ, List.getElem?_cons_zero, Option.bind_some, b_tt, b_tf, b_ft, b_ff, Bool.not_true, Bool.not_false, List.take_succ_cons, List.take_zero, awant_none, astep, evl, put, ap_none, ap_new, ap_wr, List.length_nil, List.length_cons, Nat.add_zero, Nat.zero_add, upd_app, stepBin, abin, stepUn, stepPick, stepExtract, stepCall, if_true, if_false, reduceCtorEq, ↓reduceIte, Nat.reduceEqDiff, Nat.reduceAdd, List.map_cons, List.map_nil, Option.map_some, Option.map_none, Bool.false_eq_true, Int.reduceLE, Int.reduceToNat, ne_eq, not_false_eq_true, and_self, and_true, true_and, decide_true, decide_false, Int.reduceEq, Int.reduceLT, Int.reduceBEq, Int.reduceBNe, not_true_eq_false, undef, t6, conv5_40, w1, hst, show (0 : Int) ≤ ((8 * k : Nat) : Int) from Int.natCast_nonneg _] <;> rfl) ?_
    simp only [rangePost]
    exact ⟨by simp [upd_app, t18], by simp [upd_app, t17], fun _ _ _ => ⟨by simp [upd_app, t16], by simp [upd_app], by trivial⟩⟩
  · clear t4 t5
    rintro t g n' ⟨t16, t6, rfl⟩
    refine s_run (by simp only [runL, List.drop_succ_cons, List.drop_zero, awant_some, Option.getD_some, List.getElem?_toArray, List.getElem?_cons_succ, List.getElem?_cons_zero, Option.bind_some, b_tt, b_tf, b_ft, b_ff, Bool.not_true, Bool.not_false, List.take_succ_cons, List.take_zero, awant_none, astep, evl, put, ap_none, ap_new, ap_wr, List.length_nil, List.length_cons, Nat.add_zero, Nat.zero_add, upd_app, stepBin, abin, stepUn, stepPick, stepExtract, stepCall, if_true, if_false, reduceCtorEq, ↓reduceIte, Nat.reduceEqDiff, Nat.reduceAdd, List.map_cons, List.map_nil, Option.map_some, Option.map_none, Bool.false_eq_true, Int.reduceLE, Int.reduceToNat, ne_eq, not_false_eq_true, and_self, and_true, true_and, decide_true, decide_false, Int.reduceEq, Int.reduceLT, Int.reduceBEq, Int.reduceBNe, not_true_eq_false, undef, t6] <;> rfl) ?_
    refine w_ret ⟨.inr rfl, fun _ r hr => ?_, [], fin_w1 ?_ (by intro c hc; simp at hc; rcases hc with rfl | rfl <;> trivial) (by rw [hC2.obj]; rfl) u4.obj (fun c hc => by simp at hc; subst hc; exact b4 s2 hsv1) (fun i b hi hb => ?_)⟩
    · simp at hr; rcases hr with rfl | rfl <;> simp [upd_app, put, isTup]
    · simp [resVal, upd_app, put, fourp, fourv]
    · rw [u5 i (hs i (hwf i b hb).1) hi]; exact hb

set_option maxRecDepth 10000 in
theorem cleft_spec (p : Nat) (v : Value) (l : List Nat) (g : Heap) (hC : Cu 68 g p v l) : FnSpec Try.prog 32 [pt1 p] g { v := .int .i64 l.length, r := p :: srcBlk v } := by
  refine spec_of_body [2] follows Try.func32 rfl (by kernel_rfl) (by simp [Try.f32]) (by kernel_rfl) rfl ?_
  intro g2 s2 n hg hfr hs hn hwf hsv
  have hC2 := hC.keep (g' := g2) (hg p (by simp [Eff.fp])) (fun i hi => hg i (by simp [Eff.fp, hi]))
  have hlen := hC2.src.len Try.underlying23
  have hld := ld23 hC2.obj
  refine s_run (by simp only [runL, List.drop_succ_cons, List.drop_zero, awant_some, Option.getD_some, List.getElem?_toArray, List.getElem?_cons_succ, List.getElem?_cons_zero, Option.bind_some, b_tt, b_tf, b_ft, b_ff, Bool.not_true, Bool.not_false, List.take_succ_cons, List.take_zero, awant_none, astep, evl, put, ap_none, ap_new, ap_wr, List.length_nil, List.length_cons, Nat.add_zero, Nat.zero_add, upd_app, stepBin, abin, stepUn, stepPick, stepExtract, stepCall, if_true, if_false, reduceCtorEq, ↓reduceIte, Nat.reduceEqDiff, Nat.reduceAdd, List.map_cons, List.map_nil, Option.map_some, Option.map_none, Bool.false_eq_true, Int.reduceLE, Int.reduceToNat, ne_eq, not_false_eq_true, and_self, and_true, true_and, decide_true, decide_false, Int.reduceEq, Int.reduceLT, Int.reduceBEq, Int.reduceBNe, not_true_eq_false, undef] <;> rfl) ?_
  refine w_assoc (s_run (by simp only [runL, List.drop_succ_cons, List.drop_zero, awant_some, Option.getD_some, List.getElem?_toArray, List.getElem?_cons_succ, List.getElem?_cons_zero, Option.bind_some, b_tt, b_tf, b_ft, b_ff, Bool.not_true, Bool.not_false, List.take_succ_cons, List.take_zero, awant_none, astep, evl, put, ap_none, ap_new, ap_wr, List.length_nil, List.length_cons, Nat.add_zero, Nat.zero_add, upd_app, stepBin, abin, stepUn, stepPick, stepExtract, stepCall, if_true, if_false, reduceCtorEq, ↓reduceIte, Nat.reduceEqDiff, Nat.reduceAdd, List.map_cons, List.map_nil, Option.map_some, Option.map_none, Bool.false_eq_true, Int.reduceLE, Int.reduceToNat, ne_eq, not_false_eq_true, and_self, and_true, true_and, decide_true, decide_false, Int.reduceEq, Int.reduceLT, Int.reduceBEq, Int.reduceBNe, not_true_eq_false, undef, Try.underlying43, Option.isNone_some] <;> rfl) ?_)
  refine s_false (by simp [evl, upd_app]) (s_skip ?_)
  refine s_run (by simp only [runL, List.drop_succ_cons, List.drop_zero, awant_some, Option.getD_some, List.getElem?_toArray, List.getElem?_cons_succ, List.getElem?_cons_zero, Option.bind_some, b_tt, b_tf, b_ft, b_ff, Bool.not_true, Bool.not_false, List.take_succ_cons, List.take_zero, awant_none, astep, evl, put, ap_none, ap_new, ap_wr, List.length_nil, List.length_cons, Nat.add_zero, Nat.zero_add, upd_app, stepBin, abin, stepUn, stepPick, stepExtract, stepCall, if_true, if_false, reduceCtorEq, ↓reduceIte, Nat.reduceEqDiff, Nat.reduceAdd, List.map_cons, List.map_nil, Option.map_some, Option.map_none, Bool.false_eq_true, Int.reduceLE, Int.reduceToNat, ne_eq, not_false_eq_true, and_self, and_true, true_and, decide_true, decide_false, Int.reduceEq, Int.reduceLT, Int.reduceBEq, Int.reduceBNe, not_true_eq_false, undef, nc1, fld68, hld, hlen] <;> rfl) ?_
  refine w_ret ⟨.inr rfl, by simp, [], fin_none ?_ trivial (fun _ _ h => h)⟩
  simp [resVal, upd_app]
end Go.Proofs.Ytokmmcfnpobldaa

namespace Go.Proofs.Ytokmmcfnpobldaa
open Go Abs
set_option linter.unusedSimpArgs false
set_option linter.unusedVariables false

theorem conv3_22 (x : Int) (g : Heap) : stepConv Try.prog 3 22 (.int .i64 x) g = some { v := .int .u64 (IntKind.u64.wrap x) } := by simp [stepConv, Try.underlying22, Try.underlying3]
theorem conv22_3 (x : Int) (g : Heap) : stepConv Try.prog 22 3 (.int .u64 x) g = some { v := .int .i64 (IntKind.i64.wrap x) } := by simp [stepConv, Try.underlying22, Try.underlying3]

/-- A number of at most so much, and its bytes. -/
def cvar (l : List Nat) (most : Int) : Option (Nat × Nat) := if most < 0 then none else match vget l with
  | some (x, c) => if most < (x : Int) then none else some (x, c)
  | none => none

theorem vget_le {l : List Nat} {x c : Nat} (h : vget l = some (x, c)) : c ≤ l.length := by
  unfold vget at h
  split at h
  · rename_i hc
    simp only [Option.some.injEq, Prod.mk.injEq] at h
    rcases findLow_lt l 0 with h1 | ⟨e, h1, h2, _⟩
    · omega
    · rw [h2] at h
      simp at h
      omega
  · cases h

theorem cvar_le {l : List Nat} {most : Int} {x c : Nat} (h : cvar l most = some (x, c)) : c ≤ l.length ∧ (x : Int) ≤ most := by
  unfold cvar at h
  split at h
  · cases h
  · split at h
    · rename_i y d hv
      split at h
      · cases h
      · simp only [Option.some.injEq, Prod.mk.injEq] at h
        obtain ⟨rfl, rfl⟩ := h
        exact ⟨vget_le hv, by omega⟩
    · cases h

def cvarE (e : TypeId) (p : Nat) (v : Value) (l : List Nat) (most : Int) (j : Nat) : Eff := match cvar l most with
  | none => { v := .tuple #[.int .i64 0, .bool false], r := p :: srcBlk v, j := j }
  | some (x, c) => { v := .tuple #[.int .i64 x, .bool true], r := p :: srcBlk v, w := [(p, ⟨false, e, [slV v c l.length]⟩)], j := j }

theorem cvarE_fp {e : TypeId} {p : Nat} {v : Value} {l : List Nat} {most : Int} {j i : Nat} (h : i = p ∨ i ∈ srcBlk v) : i ∈ (cvarE e p v l most j).fp := by
  have : i ∈ p :: srcBlk v := by simpa using h
  unfold cvarE
  split <;> simp [Eff.fp] <;> simp at this <;> (rcases this with h | h <;> simp [h])
theorem cvarE_a {e : TypeId} {p : Nat} {v : Value} {l : List Nat} {most : Int} {j : Nat} : (cvarE e p v l most j).a = [] := by unfold cvarE; split <;> rfl

theorem gres_get {t : Nat → Value} : True := trivial

theorem sv_ib {a : Value} {b : Bool} {s : Nat → Prop} (h : plain a = true) (h2 : ∀ x, a ≠ .agg x) : SVT s (.tuple #[a, .bool b]) := by
  intro c hc
  simp at hc
  rcases hc with rfl | rfl
  · have h1 := SV1_plain (s := s) h
    cases c <;> first | exact h1 | exact absurd rfl (h2 _)
  · trivial

set_option maxRecDepth 10000 in
theorem cvarint_spec (p : Nat) (v : Value) (l : List Nat) (most : Int) (g : Heap) (j : Nat) (hl : l.length ≤ 2 ^ 40) (hb : ∀ x ∈ l, x < 256) (hm : most ≤ 9223372036854775807) (hC : Cu 68 g p v l) : FnSpec Try.prog 31 [pt1 p, .int .i64 most] g (cvarE 68 p v l most j) := by
  refine spec_of_body [4, 5] follows Try.func31 rfl (by kernel_rfl) (by simp [Try.f31]) (by kernel_rfl) rfl ?_
  intro g2 s2 n hg hfr hs hn hwf hsv
  have hC2 := hC.keep (g' := g2) (hg p (cvarE_fp (.inl rfl))) (fun i hi => hg i (cvarE_fp (.inr hi)))
  have hlen := hC2.src.len Try.underlying23
  have hld := ld23 hC2.obj
  have hsv1 : SV1 s2 v := (hwf p _ hC2.obj).2 v (by simp)
  refine s_run (by simp only [runL, List.drop_succ_cons, List.drop_zero, awant_some, Option.getD_some, List.getElem?_toArray, List.getElem?_cons_succ, List.getElem?_cons_zero, Option.bind_some, b_tt, b_tf, b_ft, b_ff, Bool.not_true, Bool.not_false, List.take_succ_cons, List.take_zero, awant_none, astep, evl, put, ap_none, ap_new, ap_wr, List.length_nil, List.length_cons, Nat.add_zero, Nat.zero_add, upd_app, stepBin, abin, stepUn, stepPick, stepExtract, stepCall, if_true, if_false, reduceCtorEq, ↓reduceIte, Nat.reduceEqDiff, Nat.reduceAdd, List.map_cons, List.map_nil, Option.map_some, Option.map_none, Bool.false_eq_true, Int.reduceLE, Int.reduceToNat, ne_eq, not_false_eq_true, and_self, and_true, true_and, decide_true, decide_false, Int.reduceEq, Int.reduceLT, Int.reduceBEq, Int.reduceBNe, not_true_eq_false, undef] <;> rfl) ?_
  by_cases c1 : most < 0
  · have d : decide (most < 0) = true := decide_eq_true c1
    have e : cvarE 68 p v l most j = { v := .tuple #[.int .i64 0, .bool false], r := p :: srcBlk v, j := j } := by simp [cvarE, cvar, c1]
    rw [e]
    refine w_assoc (s_run (by simp only [runL, List.drop_succ_cons, List.drop_zero, awant_some, Option.getD_some, List.getElem?_toArray, List.getElem?_cons_succ, List.getElem?_cons_zero, Option.bind_some, b_tt, b_tf, b_ft, b_ff, Bool.not_true, Bool.not_false, List.take_succ_cons, List.take_zero, awant_none, astep, evl, put, ap_none, ap_new, ap_wr, List.length_nil, List.length_cons, Nat.add_zero, Nat.zero_add, upd_app, stepBin, abin, stepUn, stepPick, stepExtract, stepCall, if_true, if_false, reduceCtorEq, ↓reduceIte, Nat.reduceEqDiff, Nat.reduceAdd, List.map_cons, List.map_nil, Option.map_some, Option.map_none, Bool.false_eq_true, Int.reduceLE, Int.reduceToNat, ne_eq, not_false_eq_true, and_self, and_true, true_and, decide_true, decide_false, Int.reduceEq, Int.reduceLT, Int.reduceBEq, Int.reduceBNe, not_true_eq_false, undef, Try.underlying43, Option.isNone_some, d] <;> rfl) ?_)
    refine s_true (by simp [evl, upd_app]) (w_assoc (s_run (by simp only [runL, List.drop_succ_cons, List.drop_zero, awant_some, Option.getD_some, List.getElem?_toArray, List.getElem?_cons_succ, List.getElem?_cons_zero, Option.bind_some, b_tt, b_tf, b_ft, b_ff, Bool.not_true, Bool.not_false, List.take_succ_cons, List.take_zero, awant_none, astep, evl, put, ap_none, ap_new, ap_wr, List.length_nil, List.length_cons, Nat.add_zero, Nat.zero_add, upd_app, stepBin, abin, stepUn, stepPick, stepExtract, stepCall, if_true, if_false, reduceCtorEq, ↓reduceIte, Nat.reduceEqDiff, Nat.reduceAdd, List.map_cons, List.map_nil, Option.map_some, Option.map_none, Bool.false_eq_true, Int.reduceLE, Int.reduceToNat, ne_eq, not_false_eq_true, and_self, and_true, true_and, decide_true, decide_false, Int.reduceEq, Int.reduceLT, Int.reduceBEq, Int.reduceBNe, not_true_eq_false, undef] <;> rfl) (s_ret ?_)))
    refine ⟨.inr rfl, fun _ r hr => ?_, [], fin_none ?_ (sv_ib rfl (by simp)) (fun _ _ h => h)⟩
    · simp at hr; rcases hr with rfl | rfl <;> simp [upd_app, isTup]
    · simp [resVal, upd_app]
  have d : decide (most < 0) = false := decide_eq_false c1
  refine w_assoc (s_run (by simp only [runL, List.drop_succ_cons, List.drop_zero, awant_some, Option.getD_some, List.getElem?_toArray, List.getElem?_cons_succ, List.getElem?_cons_zero, Option.bind_some, b_tt, b_tf, b_ft, b_ff, Bool.not_true, Bool.not_false, List.take_succ_cons, List.take_zero, awant_none, astep, evl, put, ap_none, ap_new, ap_wr, List.length_nil, List.length_cons, Nat.add_zero, Nat.zero_add, upd_app, stepBin, abin, stepUn, stepPick, stepExtract, stepCall, if_true, if_false, reduceCtorEq, ↓reduceIte, Nat.reduceEqDiff, Nat.reduceAdd, List.map_cons, List.map_nil, Option.map_some, Option.map_none, Bool.false_eq_true, Int.reduceLE, Int.reduceToNat, ne_eq, not_false_eq_true, and_self, and_true, true_and, decide_true, decide_false, Int.reduceEq, Int.reduceLT, Int.reduceBEq, Int.reduceBNe, not_true_eq_false, undef, Try.underlying43, Option.isNone_some, d] <;> rfl) ?_)
  refine s_false (by simp [evl, upd_app]) (s_skip ?_)
  refine w_gen (fun t => t 0 = pt1 p ∧ t 1 = .int .i64 most) (by simp [upd_app]) ?_
  rintro t ⟨t0, t1⟩
  refine s_take 4 (by simp only [runL, List.drop_succ_cons, List.drop_zero, awant_some, Option.getD_some, List.getElem?_toArray, List.getElem?_cons_succ, List.getElem?_cons_zero, Option.bind_some, b_tt, b_tf, b_ft, b_ff, Bool.not_true, Bool.not_false, List.take_succ_cons, List.take_zero, awant_none, astep, evl, put, ap_none, ap_new, ap_wr, List.length_nil, List.length_cons, Nat.add_zero, Nat.zero_add, upd_app, stepBin, abin, stepUn, stepPick, stepExtract, stepCall, if_true, if_false, reduceCtorEq, ↓reduceIte, Nat.reduceEqDiff, Nat.reduceAdd, List.map_cons, List.map_nil, Option.map_some, Option.map_none, Bool.false_eq_true, Int.reduceLE, Int.reduceToNat, ne_eq, not_false_eq_true, and_self, and_true, true_and, decide_true, decide_false, Int.reduceEq, Int.reduceLT, Int.reduceBEq, Int.reduceBNe, not_true_eq_false, undef, t0, nc1, fld68, hld] <;> rfl) ?_
  refine ops_call 17 _ rfl (get_spec v l g2 hl (getD_256 hb) hC2.src) (by intro h; exact (h rfl).elim) ?_
  cases hv : vget l with
  | none =>
    have e : cvarE 68 p v l most j = { v := .tuple #[.int .i64 0, .bool false], r := p :: srcBlk v, j := j } := by simp [cvarE, cvar, c1, hv]
    rw [e]
    refine ops_run (by simp only [runL, List.drop_succ_cons, List.drop_zero, awant_some, Option.getD_some, List.getElem?_toArray, List.getElem?_cons_succ, List.getElem?_cons_zero, Option.bind_some, b_tt, b_tf, b_ft, b_ff, Bool.not_true, Bool.not_false, List.take_succ_cons, List.take_zero, awant_none, astep, evl, put, ap_none, ap_new, ap_wr, List.length_nil, List.length_cons, Nat.add_zero, Nat.zero_add, upd_app, stepBin, abin, stepUn, stepPick, stepExtract, stepCall, if_true, if_false, reduceCtorEq, ↓reduceIte, Nat.reduceEqDiff, Nat.reduceAdd, List.map_cons, List.map_nil, Option.map_some, Option.map_none, Bool.false_eq_true, Int.reduceLE, Int.reduceToNat, ne_eq, not_false_eq_true, and_self, and_true, true_and, decide_true, decide_false, Int.reduceEq, Int.reduceLT, Int.reduceBEq, Int.reduceBNe, not_true_eq_false, undef, gres] <;> rfl) ?_
    refine w_assoc (s_run (by simp only [runL, List.drop_succ_cons, List.drop_zero, awant_some, Option.getD_some, List.getElem?_toArray, List.getElem?_cons_succ, List.getElem?_cons_zero, Option.bind_some, b_tt, b_tf, b_ft, b_ff, Bool.not_true, Bool.not_false, List.take_succ_cons, List.take_zero, awant_none, astep, evl, put, ap_none, ap_new, ap_wr, List.length_nil, List.length_cons, Nat.add_zero, Nat.zero_add, upd_app, stepBin, abin, stepUn, stepPick, stepExtract, stepCall, if_true, if_false, reduceCtorEq, ↓reduceIte, Nat.reduceEqDiff, Nat.reduceAdd, List.map_cons, List.map_nil, Option.map_some, Option.map_none, Bool.false_eq_true, Int.reduceLE, Int.reduceToNat, ne_eq, not_false_eq_true, and_self, and_true, true_and, decide_true, decide_false, Int.reduceEq, Int.reduceLT, Int.reduceBEq, Int.reduceBNe, not_true_eq_false, undef] <;> rfl) ?_)
    refine s_true (by simp [evl, upd_app]) (w_assoc (s_run (by simp only [runL, List.drop_succ_cons, List.drop_zero, awant_some, Option.getD_some, List.getElem?_toArray, List.getElem?_cons_succ, List.getElem?_cons_zero, Option.bind_some, b_tt, b_tf, b_ft, b_ff, Bool.not_true, Bool.not_false, List.take_succ_cons, List.take_zero, awant_none, astep, evl, put, ap_none, ap_new, ap_wr, List.length_nil, List.length_cons, Nat.add_zero, Nat.zero_add, upd_app, stepBin, abin, stepUn, stepPick, stepExtract, stepCall, if_true, if_false, reduceCtorEq, ↓reduceIte, Nat.reduceEqDiff, Nat.reduceAdd, List.map_cons, List.map_nil, Option.map_some, Option.map_none, Bool.false_eq_true, Int.reduceLE, Int.reduceToNat, ne_eq, not_false_eq_true, and_self, and_true, true_and, decide_true, decide_false, Int.reduceEq, Int.reduceLT, Int.reduceBEq, Int.reduceBNe, not_true_eq_false, undef] <;> rfl) (s_ret ?_)))
    refine ⟨.inr rfl, fun _ r hr => ?_, [], fin_none ?_ (sv_ib rfl (by simp)) (fun _ _ h => h)⟩
    · simp at hr; rcases hr with rfl | rfl <;> simp [upd_app, isTup]
    · simp [resVal, upd_app]
  | some xc =>
    obtain ⟨x, c⟩ := xc
    refine ops_run (by simp only [runL, List.drop_succ_cons, List.drop_zero, awant_some, Option.getD_some, List.getElem?_toArray, List.getElem?_cons_succ, List.getElem?_cons_zero, Option.bind_some, b_tt, b_tf, b_ft, b_ff, Bool.not_true, Bool.not_false, List.take_succ_cons, List.take_zero, awant_none, astep, evl, put, ap_none, ap_new, ap_wr, List.length_nil, List.length_cons, Nat.add_zero, Nat.zero_add, upd_app, stepBin, abin, stepUn, stepPick, stepExtract, stepCall, if_true, if_false, reduceCtorEq, ↓reduceIte, Nat.reduceEqDiff, Nat.reduceAdd, List.map_cons, List.map_nil, Option.map_some, Option.map_none, Bool.false_eq_true, Int.reduceLE, Int.reduceToNat, ne_eq, not_false_eq_true, and_self, and_true, true_and, decide_true, decide_false, Int.reduceEq, Int.reduceLT, Int.reduceBEq, Int.reduceBNe, not_true_eq_false, undef, gres] <;> rfl) ?_
    refine w_gen (fun t => t 0 = pt1 p ∧ t 1 = .int .i64 most ∧ t 6 = .int .u64 x ∧ t 7 = .int .i64 c ∧ t 8 = .bool true) (by simp [upd_app, put, t0, t1]) ?_
    clear t0 t1
    rintro t ⟨t0, t1, t6, t7, t8⟩
    have w1 : IntKind.u64.wrap most = most := wrapU64_of (by omega) (by omega)
    by_cases c2 : most < (x : Int)
    · have d2 : decide ((x : Int) > most) = true := decide_eq_true c2
      have e : cvarE 68 p v l most j = { v := .tuple #[.int .i64 0, .bool false], r := p :: srcBlk v, j := j } := by simp [cvarE, cvar, c1, hv, c2]
      rw [e]
      refine w_assoc (s_run (by simp only [runL, List.drop_succ_cons, List.drop_zero, awant_some, Option.getD_some, List.getElem?_toArray, List.getElem?_cons_succ, List.getElem?_cons_zero, Option.bind_some, b_tt, b_tf, b_ft, b_ff, Bool.not_true, Bool.not_false, List.take_succ_cons, List.take_zero, awant_none, astep, evl, put, ap_none, ap_new, ap_wr, List.length_nil, List.length_cons, Nat.add_zero, Nat.zero_add, upd_app, stepBin, abin, stepUn, stepPick, stepExtract, stepCall, if_true, if_false, reduceCtorEq, ↓reduceIte, Nat.reduceEqDiff, Nat.reduceAdd, List.map_cons, List.map_nil, Option.map_some, Option.map_none, Bool.false_eq_true, Int.reduceLE, Int.reduceToNat, ne_eq, not_false_eq_true, and_self, and_true, true_and, decide_true, decide_false, Int.reduceEq, Int.reduceLT, Int.reduceBEq, Int.reduceBNe, not_true_eq_false, undef, t1, t6, t8, conv3_22, w1, d2] <;> rfl) ?_)
      refine s_true (by simp [evl, upd_app]) (w_assoc (s_run (by simp only [runL, List.drop_succ_cons, List.drop_zero, awant_some, Option.getD_some, List.getElem?_toArray, List.getElem?_cons_succ, List.getElem?_cons_zero, Option.bind_some, b_tt, b_tf, b_ft, b_ff, Bool.not_true, Bool.not_false, List.take_succ_cons, List.take_zero, awant_none, astep, evl, put, ap_none, ap_new, ap_wr, List.length_nil, List.length_cons, Nat.add_zero, Nat.zero_add, upd_app, stepBin, abin, stepUn, stepPick, stepExtract, stepCall, if_true, if_false, reduceCtorEq, ↓reduceIte, Nat.reduceEqDiff, Nat.reduceAdd, List.map_cons, List.map_nil, Option.map_some, Option.map_none, Bool.false_eq_true, Int.reduceLE, Int.reduceToNat, ne_eq, not_false_eq_true, and_self, and_true, true_and, decide_true, decide_false, Int.reduceEq, Int.reduceLT, Int.reduceBEq, Int.reduceBNe, not_true_eq_false, undef] <;> rfl) (s_ret ?_)))
      refine ⟨.inr rfl, fun _ r hr => ?_, [], fin_none ?_ (sv_ib rfl (by simp)) (fun _ _ h => h)⟩
      · simp at hr; rcases hr with rfl | rfl <;> simp [upd_app, isTup]
      · simp [resVal, upd_app]
    · have d2 : decide ((x : Int) > most) = false := decide_eq_false c2
      have e : cvarE 68 p v l most j = { v := .tuple #[.int .i64 x, .bool true], r := p :: srcBlk v, w := [(p, ⟨false, 68, [slV v c l.length]⟩)], j := j } := by simp [cvarE, cvar, c1, hv, c2]
      rw [e]
      have hc := vget_le hv
      have w2 : IntKind.i64.wrap (x : Int) = (x : Int) := wrap64_of (by omega) (by omega)
      obtain ⟨b1, b2, b3, b4⟩ := src_slV (P := Try.prog) hC2.src Try.underlying23 tsize5 (some (.int .i64 (c : Int))) none c l.length rfl rfl hc (Nat.le_refl _)
      have hst := st23 hC2.obj (slV_shape (l := c) (k := l.length) hC2.shape)
      refine w_assoc (s_run (by simp only [runL, List.drop_succ_cons, List.drop_zero, awant_some, Option.getD_some, List.getElem?_toArray, List.getElem?_cons_succ, List.getElem?_cons_zero, Option.bind_some, b_tt, b_tf, b_ft, b_ff, Bool.not_true, Bool.not_false, List.take_succ_cons, List.take_zero, awant_none, astep, evl, put, ap_none, ap_new, ap_wr, List.length_nil, List.length_cons, Nat.add_zero, Nat.zero_add, upd_app, stepBin, abin, stepUn, stepPick, stepExtract, stepCall, if_true, if_false, reduceCtorEq, ↓reduceIte, Nat.reduceEqDiff, Nat.reduceAdd, List.map_cons, List.map_nil, Option.map_some, Option.map_none, Bool.false_eq_true, Int.reduceLE, Int.reduceToNat, ne_eq, not_false_eq_true, and_self, and_true, true_and, decide_true, decide_false, Int.reduceEq, Int.reduceLT, Int.reduceBEq, Int.reduceBNe, not_true_eq_false, undef, t1, t6, t8, conv3_22, w1, d2] <;> rfl) ?_)
      refine s_false (by simp [evl, upd_app]) (s_skip ?_)
      refine s_run (by simp only [runL, List.drop_succ_cons, List.drop_zero, awant_some, Option.getD_some, List.getElem?_toArray, List.getElem?_cons_succ, List.getElem?_cons_zero, Option.bind_some, b_tt, b_tf, b_ft, b_ff, Bool.not_true, Bool.not_false, List.take_succ_cons, List.take_zero, awant_none, astep, evl, put, ap_none, ap_new, ap_wr, List.length_nil, List.length_cons, Nat.add_zero, Nat.zero_add, upd_app, stepBin, abin, stepUn, stepPick, stepExtract, stepCall, if_true, if_false, reduceCtorEq, ↓reduceIte, Nat.reduceEqDiff, Nat.reduceAdd, List.map_cons, List.map_nil, Option.map_some, Option.map_none, Bool.false_eq_true, Int.reduceLE, Int.reduceToNat, ne_eq, not_false_eq_true, and_self, and_true, true_and, decide_true, decide_false, Int.reduceEq, Int.reduceLT, Int.reduceBEq, Int.reduceBNe, not_true_eq_false, undef, t0, t7, nc1, fld68, hld, b1, hst] <;> rfl) ?_
      refine s_run (by simp only [runL, List.drop_succ_cons, List.drop_zero, awant_some, Option.getD_some, List.getElem?_toArray, List.getElem?_cons_succ, List.getElem?_cons_zero, Option.bind_some, b_tt, b_tf, b_ft, b_ff, Bool.not_true, Bool.not_false, List.take_succ_cons, List.take_zero, awant_none, astep, evl, put, ap_none, ap_new, ap_wr, List.length_nil, List.length_cons, Nat.add_zero, Nat.zero_add, upd_app, stepBin, abin, stepUn, stepPick, stepExtract, stepCall, if_true, if_false, reduceCtorEq, ↓reduceIte, Nat.reduceEqDiff, Nat.reduceAdd, List.map_cons, List.map_nil, Option.map_some, Option.map_none, Bool.false_eq_true, Int.reduceLE, Int.reduceToNat, ne_eq, not_false_eq_true, and_self, and_true, true_and, decide_true, decide_false, Int.reduceEq, Int.reduceLT, Int.reduceBEq, Int.reduceBNe, not_true_eq_false, undef, t6, conv22_3, w2] <;> rfl) ?_
      refine w_ret ⟨.inr rfl, fun _ r hr => ?_, [], fin_w1 ?_ (sv_ib rfl (by simp)) (by rw [hC2.obj]; rfl) (by simp [upd_app]) (fun c hc => by simp at hc; subst hc; exact b4 s2 hsv1) (fun i b hi hb => by simp [upd_app, hi, hb])⟩
      · simp at hr; rcases hr with rfl | rfl <;> simp [upd_app, put, isTup]
      · simp [resVal, upd_app, put]

set_option maxRecDepth 10000 in
theorem rvarint_spec (p : Nat) (v : Value) (l : List Nat) (most : Int) (g : Heap) (j : Nat) (hl : l.length ≤ 2 ^ 40) (hb : ∀ x ∈ l, x < 256) (hm : most ≤ 9223372036854775807) (hC : Cu 55 g p v l) : FnSpec Try.prog 38 [pt1 p, .int .i64 most] g (cvarE 55 p v l most j) := by
  refine spec_of_body [4, 5] follows Try.func38 rfl (by kernel_rfl) (by simp [Try.f38]) (by kernel_rfl) rfl ?_
  intro g2 s2 n hg hfr hs hn hwf hsv
  have hC2 := hC.keep (g' := g2) (hg p (cvarE_fp (.inl rfl))) (fun i hi => hg i (cvarE_fp (.inr hi)))
  have hlen := hC2.src.len Try.underlying23
  have hld := ld23 hC2.obj
  have hsv1 : SV1 s2 v := (hwf p _ hC2.obj).2 v (by simp)
  refine s_run (by simp only [runL, List.drop_succ_cons, List.drop_zero, awant_some, Option.getD_some, List.getElem?_toArray, List.getElem?_cons_succ, List.getElem?_cons_zero, Option.bind_some, b_tt, b_tf, b_ft, b_ff, Bool.not_true, Bool.not_false, List.take_succ_cons, List.take_zero, awant_none, astep, evl, put, ap_none, ap_new, ap_wr, List.length_nil, List.length_cons, Nat.add_zero, Nat.zero_add, upd_app, stepBin, abin, stepUn, stepPick, stepExtract, stepCall, if_true, if_false, reduceCtorEq, ↓reduceIte, Nat.reduceEqDiff, Nat.reduceAdd, List.map_cons, List.map_nil, Option.map_some, Option.map_none, Bool.false_eq_true, Int.reduceLE, Int.reduceToNat, ne_eq, not_false_eq_true, and_self, and_true, true_and, decide_true, decide_false, Int.reduceEq, Int.reduceLT, Int.reduceBEq, Int.reduceBNe, not_true_eq_false, undef] <;> rfl) ?_
  refine w_gen (fun t => t 0 = pt1 p ∧ t 1 = .int .i64 most) (by simp [upd_app]) ?_
  rintro t ⟨t0, t1⟩
  refine s_take 4 (by simp only [runL, List.drop_succ_cons, List.drop_zero, awant_some, Option.getD_some, List.getElem?_toArray, List.getElem?_cons_succ, List.getElem?_cons_zero, Option.bind_some, b_tt, b_tf, b_ft, b_ff, Bool.not_true, Bool.not_false, List.take_succ_cons, List.take_zero, awant_none, astep, evl, put, ap_none, ap_new, ap_wr, List.length_nil, List.length_cons, Nat.add_zero, Nat.zero_add, upd_app, stepBin, abin, stepUn, stepPick, stepExtract, stepCall, if_true, if_false, reduceCtorEq, ↓reduceIte, Nat.reduceEqDiff, Nat.reduceAdd, List.map_cons, List.map_nil, Option.map_some, Option.map_none, Bool.false_eq_true, Int.reduceLE, Int.reduceToNat, ne_eq, not_false_eq_true, and_self, and_true, true_and, decide_true, decide_false, Int.reduceEq, Int.reduceLT, Int.reduceBEq, Int.reduceBNe, not_true_eq_false, undef, t0, nc1, fld55, hld] <;> rfl) ?_
  refine ops_call 20 _ rfl (rget_spec v l g2 hl (getD_256 hb) hC2.src) (by intro h; exact (h rfl).elim) ?_
  cases hv : vget l with
  | none =>
    have e : cvarE 55 p v l most j = { v := .tuple #[.int .i64 0, .bool false], r := p :: srcBlk v, j := j } := by simp [cvarE, cvar, hv]
    rw [e]
    refine ops_run (by simp only [runL, List.drop_succ_cons, List.drop_zero, awant_some, Option.getD_some, List.getElem?_toArray, List.getElem?_cons_succ, List.getElem?_cons_zero, Option.bind_some, b_tt, b_tf, b_ft, b_ff, Bool.not_true, Bool.not_false, List.take_succ_cons, List.take_zero, awant_none, astep, evl, put, ap_none, ap_new, ap_wr, List.length_nil, List.length_cons, Nat.add_zero, Nat.zero_add, upd_app, stepBin, abin, stepUn, stepPick, stepExtract, stepCall, if_true, if_false, reduceCtorEq, ↓reduceIte, Nat.reduceEqDiff, Nat.reduceAdd, List.map_cons, List.map_nil, Option.map_some, Option.map_none, Bool.false_eq_true, Int.reduceLE, Int.reduceToNat, ne_eq, not_false_eq_true, and_self, and_true, true_and, decide_true, decide_false, Int.reduceEq, Int.reduceLT, Int.reduceBEq, Int.reduceBNe, not_true_eq_false, undef, gres] <;> rfl) ?_
    refine w_assoc (s_run (by simp only [runL, List.drop_succ_cons, List.drop_zero, awant_some, Option.getD_some, List.getElem?_toArray, List.getElem?_cons_succ, List.getElem?_cons_zero, Option.bind_some, b_tt, b_tf, b_ft, b_ff, Bool.not_true, Bool.not_false, List.take_succ_cons, List.take_zero, awant_none, astep, evl, put, ap_none, ap_new, ap_wr, List.length_nil, List.length_cons, Nat.add_zero, Nat.zero_add, upd_app, stepBin, abin, stepUn, stepPick, stepExtract, stepCall, if_true, if_false, reduceCtorEq, ↓reduceIte, Nat.reduceEqDiff, Nat.reduceAdd, List.map_cons, List.map_nil, Option.map_some, Option.map_none, Bool.false_eq_true, Int.reduceLE, Int.reduceToNat, ne_eq, not_false_eq_true, and_self, and_true, true_and, decide_true, decide_false, Int.reduceEq, Int.reduceLT, Int.reduceBEq, Int.reduceBNe, not_true_eq_false, undef] <;> rfl) ?_)
    refine s_true (by simp [evl, upd_app]) (w_assoc (s_run (by simp only [runL, List.drop_succ_cons, List.drop_zero, awant_some, Option.getD_some, List.getElem?_toArray, List.getElem?_cons_succ, List.getElem?_cons_zero, Option.bind_some, b_tt, b_tf, b_ft, b_ff, Bool.not_true, Bool.not_false, List.take_succ_cons, List.take_zero, awant_none, astep, evl, put, ap_none, ap_new, ap_wr, List.length_nil, List.length_cons, Nat.add_zero, Nat.zero_add, upd_app, stepBin, abin, stepUn, stepPick, stepExtract, stepCall, if_true, if_false, reduceCtorEq, ↓reduceIte, Nat.reduceEqDiff, Nat.reduceAdd, List.map_cons, List.map_nil, Option.map_some, Option.map_none, Bool.false_eq_true, Int.reduceLE, Int.reduceToNat, ne_eq, not_false_eq_true, and_self, and_true, true_and, decide_true, decide_false, Int.reduceEq, Int.reduceLT, Int.reduceBEq, Int.reduceBNe, not_true_eq_false, undef] <;> rfl) (s_ret ?_)))
    refine ⟨.inr rfl, fun _ r hr => ?_, [], fin_none ?_ (sv_ib rfl (by simp)) (fun _ _ h => h)⟩
    · simp at hr; rcases hr with rfl | rfl <;> simp [upd_app, isTup]
    · simp [resVal, upd_app]
  | some xc =>
    obtain ⟨x, c⟩ := xc
    refine ops_run (by simp only [runL, List.drop_succ_cons, List.drop_zero, awant_some, Option.getD_some, List.getElem?_toArray, List.getElem?_cons_succ, List.getElem?_cons_zero, Option.bind_some, b_tt, b_tf, b_ft, b_ff, Bool.not_true, Bool.not_false, List.take_succ_cons, List.take_zero, awant_none, astep, evl, put, ap_none, ap_new, ap_wr, List.length_nil, List.length_cons, Nat.add_zero, Nat.zero_add, upd_app, stepBin, abin, stepUn, stepPick, stepExtract, stepCall, if_true, if_false, reduceCtorEq, ↓reduceIte, Nat.reduceEqDiff, Nat.reduceAdd, List.map_cons, List.map_nil, Option.map_some, Option.map_none, Bool.false_eq_true, Int.reduceLE, Int.reduceToNat, ne_eq, not_false_eq_true, and_self, and_true, true_and, decide_true, decide_false, Int.reduceEq, Int.reduceLT, Int.reduceBEq, Int.reduceBNe, not_true_eq_false, undef, gres] <;> rfl) ?_
    refine w_gen (fun t => t 0 = pt1 p ∧ t 1 = .int .i64 most ∧ t 6 = .int .u64 x ∧ t 7 = .int .i64 c ∧ t 8 = .bool true) (by simp [upd_app, put, t0, t1]) ?_
    clear t0 t1
    rintro t ⟨t0, t1, t6, t7, t8⟩
    by_cases c1 : most < 0
    · have d : decide (most < 0) = true := decide_eq_true c1
      have e : cvarE 55 p v l most j = { v := .tuple #[.int .i64 0, .bool false], r := p :: srcBlk v, j := j } := by simp [cvarE, cvar, c1]
      rw [e]
      refine w_assoc (s_run (by simp only [runL, List.drop_succ_cons, List.drop_zero, awant_some, Option.getD_some, List.getElem?_toArray, List.getElem?_cons_succ, List.getElem?_cons_zero, Option.bind_some, b_tt, b_tf, b_ft, b_ff, Bool.not_true, Bool.not_false, List.take_succ_cons, List.take_zero, awant_none, astep, evl, put, ap_none, ap_new, ap_wr, List.length_nil, List.length_cons, Nat.add_zero, Nat.zero_add, upd_app, stepBin, abin, stepUn, stepPick, stepExtract, stepCall, if_true, if_false, reduceCtorEq, ↓reduceIte, Nat.reduceEqDiff, Nat.reduceAdd, List.map_cons, List.map_nil, Option.map_some, Option.map_none, Bool.false_eq_true, Int.reduceLE, Int.reduceToNat, ne_eq, not_false_eq_true, and_self, and_true, true_and, decide_true, decide_false, Int.reduceEq, Int.reduceLT, Int.reduceBEq, Int.reduceBNe, not_true_eq_false, undef, t1, t6, t8, d] <;> rfl) ?_)
      refine s_true (by simp [evl, upd_app]) (w_assoc (s_run (by simp only [runL, List.drop_succ_cons, List.drop_zero, awant_some, Option.getD_some, List.getElem?_toArray, List.getElem?_cons_succ, List.getElem?_cons_zero, Option.bind_some, b_tt, b_tf, b_ft, b_ff, Bool.not_true, Bool.not_false, List.take_succ_cons, List.take_zero, awant_none, astep, evl, put, ap_none, ap_new, ap_wr, List.length_nil, List.length_cons, Nat.add_zero, Nat.zero_add, upd_app, stepBin, abin, stepUn, stepPick, stepExtract, stepCall, if_true, if_false, reduceCtorEq, ↓reduceIte, Nat.reduceEqDiff, Nat.reduceAdd, List.map_cons, List.map_nil, Option.map_some, Option.map_none, Bool.false_eq_true, Int.reduceLE, Int.reduceToNat, ne_eq, not_false_eq_true, and_self, and_true, true_and, decide_true, decide_false, Int.reduceEq, Int.reduceLT, Int.reduceBEq, Int.reduceBNe, not_true_eq_false, undef] <;> rfl) (s_ret ?_)))
      refine ⟨.inr rfl, fun _ r hr => ?_, [], fin_none ?_ (sv_ib rfl (by simp)) (fun _ _ h => h)⟩
      · simp at hr; rcases hr with rfl | rfl <;> simp [upd_app, isTup]
      · simp [resVal, upd_app]
    have d : decide (most < 0) = false := decide_eq_false c1
    have w1 : IntKind.u64.wrap most = most := wrapU64_of (by omega) (by omega)
    by_cases c2 : most < (x : Int)
    · have d2 : decide ((x : Int) > most) = true := decide_eq_true c2
      have e : cvarE 55 p v l most j = { v := .tuple #[.int .i64 0, .bool false], r := p :: srcBlk v, j := j } := by simp [cvarE, cvar, c1, hv, c2]
      rw [e]
      refine w_assoc (s_run (by simp only [runL, List.drop_succ_cons, List.drop_zero, awant_some, Option.getD_some, List.getElem?_toArray, List.getElem?_cons_succ, List.getElem?_cons_zero, Option.bind_some, b_tt, b_tf, b_ft, b_ff, Bool.not_true, Bool.not_false, List.take_succ_cons, List.take_zero, awant_none, astep, evl, put, ap_none, ap_new, ap_wr, List.length_nil, List.length_cons, Nat.add_zero, Nat.zero_add, upd_app, stepBin, abin, stepUn, stepPick, stepExtract, stepCall, if_true, if_false, reduceCtorEq, ↓reduceIte, Nat.reduceEqDiff, Nat.reduceAdd, List.map_cons, List.map_nil, Option.map_some, Option.map_none, Bool.false_eq_true, Int.reduceLE, Int.reduceToNat, ne_eq, not_false_eq_true, and_self, and_true, true_and, decide_true, decide_false, Int.reduceEq, Int.reduceLT, Int.reduceBEq, Int.reduceBNe, not_true_eq_false, undef, t1, t6, t8, d, conv3_22, w1, d2] <;> rfl) ?_)
      refine s_true (by simp [evl, upd_app]) (w_assoc (s_run (by simp only [runL, List.drop_succ_cons, List.drop_zero, awant_some, Option.getD_some, List.getElem?_toArray, List.getElem?_cons_succ, List.getElem?_cons_zero, Option.bind_some, b_tt, b_tf, b_ft, b_ff, Bool.not_true, Bool.not_false, List.take_succ_cons, List.take_zero, awant_none, astep, evl, put, ap_none, ap_new, ap_wr, List.length_nil, List.length_cons, Nat.add_zero, Nat.zero_add, upd_app, stepBin, abin, stepUn, stepPick, stepExtract, stepCall, if_true, if_false, reduceCtorEq, ↓reduceIte, Nat.reduceEqDiff, Nat.reduceAdd, List.map_cons, List.map_nil, Option.map_some, Option.map_none, Bool.false_eq_true, Int.reduceLE, Int.reduceToNat, ne_eq, not_false_eq_true, and_self, and_true, true_and, decide_true, decide_false, Int.reduceEq, Int.reduceLT, Int.reduceBEq, Int.reduceBNe, not_true_eq_false, undef] <;> rfl) (s_ret ?_)))
      refine ⟨.inr rfl, fun _ r hr => ?_, [], fin_none ?_ (sv_ib rfl (by simp)) (fun _ _ h => h)⟩
      · simp at hr; rcases hr with rfl | rfl <;> simp [upd_app, isTup]
      · simp [resVal, upd_app]
    · have d2 : decide ((x : Int) > most) = false := decide_eq_false c2
      have e : cvarE 55 p v l most j = { v := .tuple #[.int .i64 x, .bool true], r := p :: srcBlk v, w := [(p, ⟨false, 55, [slV v c l.length]⟩)], j := j } := by simp [cvarE, cvar, c1, hv, c2]
      rw [e]
      have hc := vget_le hv
      have w2 : IntKind.i64.wrap (x : Int) = (x : Int) := wrap64_of (by omega) (by omega)
      obtain ⟨b1, b2, b3, b4⟩ := src_slV (P := Try.prog) hC2.src Try.underlying23 tsize5 (some (.int .i64 (c : Int))) none c l.length rfl rfl hc (Nat.le_refl _)
      have hst := st23 hC2.obj (slV_shape (l := c) (k := l.length) hC2.shape)
      refine w_assoc (s_run (by simp only [runL, List.drop_succ_cons, List.drop_zero, awant_some, Option.getD_some, List.getElem?_toArray, List.getElem?_cons_succ, List.getElem?_cons_zero, Option.bind_some, b_tt, b_tf, b_ft, b_ff, Bool.not_true, Bool.not_false, List.take_succ_cons, List.take_zero, awant_none, astep, evl, put, ap_none, ap_new, ap_wr, List.length_nil, List.length_cons, Nat.add_zero, Nat.zero_add, upd_app, stepBin, abin, stepUn, stepPick, stepExtract, stepCall, if_true, if_false, reduceCtorEq, ↓reduceIte, Nat.reduceEqDiff, Nat.reduceAdd, List.map_cons, List.map_nil, Option.map_some, Option.map_none, Bool.false_eq_true, Int.reduceLE, Int.reduceToNat, ne_eq, not_false_eq_true, and_self, and_true, true_and, decide_true, decide_false, Int.reduceEq, Int.reduceLT, Int.reduceBEq, Int.reduceBNe, not_true_eq_false, undef, t1, t6, t8, d, conv3_22, w1, d2] <;> rfl) ?_)
      refine s_false (by simp [evl, upd_app]) (s_skip ?_)
      refine s_run (by simp only [runL, List.drop_succ_cons, List.drop_zero, awant_some, Option.getD_some, List.getElem?_toArray, List.getElem?_cons_succ, List.getElem?_cons_zero, Option.bind_some, b_tt, b_tf, b_ft, b_ff, Bool.not_true, Bool.not_false, List.take_succ_cons, List.take_zero, awant_none, astep, evl, put, ap_none, ap_new, ap_wr, List.length_nil, List.length_cons, Nat.add_zero, Nat.zero_add, upd_app, stepBin, abin, stepUn, stepPick, stepExtract, stepCall, if_true, if_false, reduceCtorEq, ↓reduceIte, Nat.reduceEqDiff, Nat.reduceAdd, List.map_cons, List.map_nil, Option.map_some, Option.map_none, Bool.false_eq_true, Int.reduceLE, Int.reduceToNat, ne_eq, not_false_eq_true, and_self, and_true, true_and, decide_true, decide_false, Int.reduceEq, Int.reduceLT, Int.reduceBEq, Int.reduceBNe, not_true_eq_false, undef, t0, t7, nc1, fld55, hld, b1, hst] <;> rfl) ?_
      refine s_run (by simp only [runL, List.drop_succ_cons, List.drop_zero, awant_some, Option.getD_some, List.getElem?_toArray, List.getElem?_cons_succ, List.getElem?_cons_zero, Option.bind_some, b_tt, b_tf, b_ft, b_ff, Bool.not_true, Bool.not_false, List.take_succ_cons, List.take_zero, awant_none, astep, evl, put, ap_none, ap_new, ap_wr, List.length_nil, List.length_cons, Nat.add_zero, Nat.zero_add, upd_app, stepBin, abin, stepUn, stepPick, stepExtract, stepCall, if_true, if_false, reduceCtorEq, ↓reduceIte, Nat.reduceEqDiff, Nat.reduceAdd, List.map_cons, List.map_nil, Option.map_some, Option.map_none, Bool.false_eq_true, Int.reduceLE, Int.reduceToNat, ne_eq, not_false_eq_true, and_self, and_true, true_and, decide_true, decide_false, Int.reduceEq, Int.reduceLT, Int.reduceBEq, Int.reduceBNe, not_true_eq_false, undef, t6, conv22_3, w2] <;> rfl) ?_
      refine w_ret ⟨.inr rfl, fun _ r hr => ?_, [], fin_w1 ?_ (sv_ib rfl (by simp)) (by rw [hC2.obj]; rfl) (by simp [upd_app]) (fun c hc => by simp at hc; subst hc; exact b4 s2 hsv1) (fun i b hi hb => by simp [upd_app, hi, hb])⟩
      · simp at hr; rcases hr with rfl | rfl <;> simp [upd_app, put, isTup]
      · simp [resVal, upd_app, put]

set_option maxRecDepth 10000 in
theorem rtake_none (p : Nat) (v : Value) (l : List Nat) (k : Int) (g : Heap) (hC : Cu 55 g p v l) (hk : k < 0 ∨ l.length < k) : FnSpec Try.prog 37 [pt1 p, .int .i64 k] g { v := .tuple #[.slice none 0 0, .bool false], r := p :: srcBlk v } := by
  refine spec_of_body [4, 5] follows Try.func37 rfl (by kernel_rfl) (by simp [Try.f37]) (by kernel_rfl) rfl ?_
  intro g2 s2 n hg hfr hs hn hwf hsv
  have hC2 := hC.keep (g' := g2) (hg p (by simp [Eff.fp])) (fun i hi => hg i (by simp [Eff.fp, hi]))
  have hlen := hC2.src.len Try.underlying23
  have hld := ld23 hC2.obj
  refine s_run (by simp only [runL, List.drop_succ_cons, List.drop_zero, awant_some, Option.getD_some, List.getElem?_toArray, List.getElem?_cons_succ, List.getElem?_cons_zero, Option.bind_some, b_tt, b_tf, b_ft, b_ff, Bool.not_true, Bool.not_false, List.take_succ_cons, List.take_zero, awant_none, astep, evl, put, ap_none, ap_new, ap_wr, List.length_nil, List.length_cons, Nat.add_zero, Nat.zero_add, upd_app, stepBin, abin, stepUn, stepPick, stepExtract, stepCall, if_true, if_false, reduceCtorEq, ↓reduceIte, Nat.reduceEqDiff, Nat.reduceAdd, List.map_cons, List.map_nil, Option.map_some, Option.map_none, Bool.false_eq_true, Int.reduceLE, Int.reduceToNat, ne_eq, not_false_eq_true, and_self, and_true, true_and, decide_true, decide_false, Int.reduceEq, Int.reduceLT, Int.reduceBEq, Int.reduceBNe, not_true_eq_false, undef] <;> rfl) ?_
  by_cases c1 : k < 0
  · have d : decide (k < 0) = true := decide_eq_true c1
    refine w_assoc (s_run (by simp only [runL, List.drop_succ_cons, List.drop_zero, awant_some, Option.getD_some, List.getElem?_toArray, List.getElem?_cons_succ, List.getElem?_cons_zero, Option.bind_some, b_tt, b_tf, b_ft, b_ff, Bool.not_true, Bool.not_false, List.take_succ_cons, List.take_zero, awant_none, astep, evl, put, ap_none, ap_new, ap_wr, List.length_nil, List.length_cons, Nat.add_zero, Nat.zero_add, upd_app, stepBin, abin, stepUn, stepPick, stepExtract, stepCall, if_true, if_false, reduceCtorEq, ↓reduceIte, Nat.reduceEqDiff, Nat.reduceAdd, List.map_cons, List.map_nil, Option.map_some, Option.map_none, Bool.false_eq_true, Int.reduceLE, Int.reduceToNat, ne_eq, not_false_eq_true, and_self, and_true, true_and, decide_true, decide_false, Int.reduceEq, Int.reduceLT, Int.reduceBEq, Int.reduceBNe, not_true_eq_false, undef, d] <;> rfl) ?_)
    refine s_true (by simp [evl, upd_app]) (w_assoc (s_run (by simp only [runL, List.drop_succ_cons, List.drop_zero, awant_some, Option.getD_some, List.getElem?_toArray, List.getElem?_cons_succ, List.getElem?_cons_zero, Option.bind_some, b_tt, b_tf, b_ft, b_ff, Bool.not_true, Bool.not_false, List.take_succ_cons, List.take_zero, awant_none, astep, evl, put, ap_none, ap_new, ap_wr, List.length_nil, List.length_cons, Nat.add_zero, Nat.zero_add, upd_app, stepBin, abin, stepUn, stepPick, stepExtract, stepCall, if_true, if_false, reduceCtorEq, ↓reduceIte, Nat.reduceEqDiff, Nat.reduceAdd, List.map_cons, List.map_nil, Option.map_some, Option.map_none, Bool.false_eq_true, Int.reduceLE, Int.reduceToNat, ne_eq, not_false_eq_true, and_self, and_true, true_and, decide_true, decide_false, Int.reduceEq, Int.reduceLT, Int.reduceBEq, Int.reduceBNe, not_true_eq_false, undef] <;> rfl) (s_ret ?_)))
    refine ⟨.inr rfl, fun _ r hr => ?_, [], fin_none ?_ (sv_pair trivial ⟨_, _, _, rfl⟩) (fun _ _ h => h)⟩
    · simp at hr; rcases hr with rfl | rfl <;> simp [upd_app, isTup]
    · simp [resVal, upd_app]
  · have d : decide (k < 0) = false := decide_eq_false c1
    have d2 : decide (k > (l.length : Int)) = true := decide_eq_true (by omega)
    refine w_assoc (s_run (by simp only [runL, List.drop_succ_cons, List.drop_zero, awant_some, Option.getD_some, List.getElem?_toArray, List.getElem?_cons_succ, List.getElem?_cons_zero, Option.bind_some, b_tt, b_tf, b_ft, b_ff, Bool.not_true, Bool.not_false, List.take_succ_cons, List.take_zero, awant_none, astep, evl, put, ap_none, ap_new, ap_wr, List.length_nil, List.length_cons, Nat.add_zero, Nat.zero_add, upd_app, stepBin, abin, stepUn, stepPick, stepExtract, stepCall, if_true, if_false, reduceCtorEq, ↓reduceIte, Nat.reduceEqDiff, Nat.reduceAdd, List.map_cons, List.map_nil, Option.map_some, Option.map_none, Bool.false_eq_true, Int.reduceLE, Int.reduceToNat, ne_eq, not_false_eq_true, and_self, and_true, true_and, decide_true, decide_false, Int.reduceEq, Int.reduceLT, Int.reduceBEq, Int.reduceBNe, not_true_eq_false, undef, d, nc1, fld55, hld, hlen, d2] <;> rfl) ?_)
    refine s_true (by simp [evl, upd_app]) (w_assoc (s_run (by simp only [runL, List.drop_succ_cons, List.drop_zero, awant_some, Option.getD_some, List.getElem?_toArray, List.getElem?_cons_succ, List.getElem?_cons_zero, Option.bind_some, b_tt, b_tf, b_ft, b_ff, Bool.not_true, Bool.not_false, List.take_succ_cons, List.take_zero, awant_none, astep, evl, put, ap_none, ap_new, ap_wr, List.length_nil, List.length_cons, Nat.add_zero, Nat.zero_add, upd_app, stepBin, abin, stepUn, stepPick, stepExtract, stepCall, if_true, if_false, reduceCtorEq, ↓reduceIte, Nat.reduceEqDiff, Nat.reduceAdd, List.map_cons, List.map_nil, Option.map_some, Option.map_none, Bool.false_eq_true, Int.reduceLE, Int.reduceToNat, ne_eq, not_false_eq_true, and_self, and_true, true_and, decide_true, decide_false, Int.reduceEq, Int.reduceLT, Int.reduceBEq, Int.reduceBNe, not_true_eq_false, undef] <;> rfl) (s_ret ?_)))
    refine ⟨.inr rfl, fun _ r hr => ?_, [], fin_none ?_ (sv_pair trivial ⟨_, _, _, rfl⟩) (fun _ _ h => h)⟩
    · simp at hr; rcases hr with rfl | rfl <;> simp [upd_app, isTup]
    · simp [resVal, upd_app]

/-- What the reference's Take answers. -/
abbrev rtakeE (p : Nat) (v : Value) (l : List Nat) (k j : Nat) : Eff := { v := .tuple #[slV v 0 k, .bool true], r := p :: srcBlk v, w := [(p, ⟨false, 55, [slV v k l.length]⟩)], j := j }

set_option maxRecDepth 10000 in
theorem rtake_some (p : Nat) (v : Value) (l : List Nat) (k : Nat) (g : Heap) (j : Nat) (hC : Cu 55 g p v l) (hk : k ≤ l.length) (hl : l.length ≤ 2 ^ 40) : FnSpec Try.prog 37 [pt1 p, .int .i64 k] g (rtakeE p v l k j) := by
  refine spec_of_body [4, 5] follows Try.func37 rfl (by kernel_rfl) (by simp [Try.f37]) (by kernel_rfl) rfl ?_
  intro g2 s2 n hg hfr hs hn hwf hsv
  have hC2 := hC.keep (g' := g2) (hg p (by simp [Eff.fp])) (fun i hi => hg i (by simp [Eff.fp, hi]))
  have hlen := hC2.src.len Try.underlying23
  have hld := ld23 hC2.obj
  have hsv1 : SV1 s2 v := (hwf p _ hC2.obj).2 v (by simp)
  have d : decide ((k : Int) < 0) = false := decide_eq_false (by omega)
  have d2 : decide ((k : Int) > (l.length : Int)) = false := decide_eq_false (by omega)
  refine s_run (by simp only [runL, List.drop_succ_cons, List.drop_zero, awant_some, Option.getD_some, List.getElem?_toArray, List.getElem?_cons_succ, List.getElem?_cons_zero, Option.bind_some, b_tt, b_tf, b_ft, b_ff, Bool.not_true, Bool.not_false, List.take_succ_cons, List.take_zero, awant_none, astep, evl, put, ap_none, ap_new, ap_wr, List.length_nil, List.length_cons, Nat.add_zero, Nat.zero_add, upd_app, stepBin, abin, stepUn, stepPick, stepExtract, stepCall, if_true, if_false, reduceCtorEq, ↓reduceIte, Nat.reduceEqDiff, Nat.reduceAdd, List.map_cons, List.map_nil, Option.map_some, Option.map_none, Bool.false_eq_true, Int.reduceLE, Int.reduceToNat, ne_eq, not_false_eq_true, and_self, and_true, true_and, decide_true, decide_false, Int.reduceEq, Int.reduceLT, Int.reduceBEq, Int.reduceBNe, not_true_eq_false, undef] <;> rfl) ?_
  refine w_assoc (s_run (by simp only [runL, List.drop_succ_cons, List.drop_zero, awant_some, Option.getD_some, List.getElem?_toArray, List.getElem?_cons_succ, List.getElem?_cons_zero, Option.bind_some, b_tt, b_tf, b_ft, b_ff, Bool.not_true, Bool.not_false, List.take_succ_cons, List.take_zero, awant_none, astep, evl, put, ap_none, ap_new, ap_wr, List.length_nil, List.length_cons, Nat.add_zero, Nat.zero_add, upd_app, stepBin, abin, stepUn, stepPick, stepExtract, stepCall, if_true, if_false, reduceCtorEq, ↓reduceIte, Nat.reduceEqDiff, Nat.reduceAdd, List.map_cons, List.map_nil, Option.map_some, Option.map_none, Bool.false_eq_true, Int.reduceLE, Int.reduceToNat, ne_eq, not_false_eq_true, and_self, and_true, true_and, decide_true, decide_false, Int.reduceEq, Int.reduceLT, Int.reduceBEq, Int.reduceBNe, not_true_eq_false, undef, d, nc1, fld55, hld, hlen, d2] <;> rfl) ?_)
  refine s_false (by simp [evl, upd_app]) (s_skip ?_)
  obtain ⟨a1, a2, a3, a4⟩ := src_slV (P := Try.prog) hC2.src Try.underlying23 tsize5 none (some (.int .i64 (k : Int))) 0 k rfl rfl (by omega) hk
  obtain ⟨b1, b2, b3, b4⟩ := src_slV (P := Try.prog) hC2.src Try.underlying23 tsize5 (some (.int .i64 (k : Int))) none k l.length rfl rfl hk (Nat.le_refl _)
  have hst := st23 hC2.obj (slV_shape (l := k) (k := l.length) hC2.shape)
  have hsh := slV_shape (l := 0) (k := k) hC2.shape
  refine w_gen (fun t => t 0 = pt1 p ∧ t 1 = .int .i64 k) (by simp [upd_app]) ?_
  rintro t ⟨t0, t1⟩
  refine s_run (by simp only [runL, List.drop_succ_cons, List.drop_zero, awant_some, Option.getD_some, List.getElem?_toArray, List.getElem?_cons_succ, List.getElem?_cons_zero, Option.bind_some, b_tt, b_tf, b_ft, b_ff, Bool.not_true, Bool.not_false, List.take_succ_cons, List.take_zero, awant_none, astep, evl, put, ap_none, ap_new, ap_wr, List.length_nil, List.length_cons, Nat.add_zero, Nat.zero_add, upd_app, stepBin, abin, stepUn, stepPick, stepExtract, stepCall, if_true, if_false, reduceCtorEq, ↓reduceIte, Nat.reduceEqDiff, Nat.reduceAdd, List.map_cons, List.map_nil, Option.map_some, Option.map_none, Bool.false_eq_true, Int.reduceLE, Int.reduceToNat, ne_eq, not_false_eq_true, and_self, and_true, true_and, decide_true, decide_false, Int.reduceEq, Int.reduceLT, Int.reduceBEq, Int.reduceBNe, not_true_eq_false, undef, t0, t1, nc1, fld55, hld, a1] <;> rfl) ?_
  refine s_run (by simp only [runL, List.drop_succ_cons, List.drop_zero, awant_some, Option.getD_some, List.getElem?_toArray, List.getElem?_cons_succ, List.getElem?_cons_zero, Option.bind_some, b_tt, b_tf, b_ft, b_ff, Bool.not_true, Bool.not_false, List.take_succ_cons, List.take_zero, awant_none, astep, evl, put, ap_none, ap_new, ap_wr, List.length_nil, List.length_cons, Nat.add_zero, Nat.zero_add, upd_app, stepBin, abin, stepUn, stepPick, stepExtract, stepCall, if_true, if_false, reduceCtorEq, ↓reduceIte, Nat.reduceEqDiff, Nat.reduceAdd, List.map_cons, List.map_nil, Option.map_some, Option.map_none, Bool.false_eq_true, Int.reduceLE, Int.reduceToNat, ne_eq, not_false_eq_true, and_self, and_true, true_and, decide_true, decide_false, Int.reduceEq, Int.reduceLT, Int.reduceBEq, Int.reduceBNe, not_true_eq_false, undef, t0, t1, nc1, fld55, hld, b1, hst] <;> rfl) ?_
  refine s_run (by simp only [runL, List.drop_succ_cons, List.drop_zero, awant_some, Option.getD_some, List.getElem?_toArray, List.getElem?_cons_succ, List.getElem?_cons_zero, Option.bind_some, b_tt, b_tf, b_ft, b_ff, Bool.not_true, Bool.not_false, List.take_succ_cons, List.take_zero, awant_none, astep, evl, put, ap_none, ap_new, ap_wr, List.length_nil, List.length_cons, Nat.add_zero, Nat.zero_add, upd_app, stepBin, abin, stepUn, stepPick, stepExtract, stepCall, if_true, if_false, reduceCtorEq, ↓reduceIte, Nat.reduceEqDiff, Nat.reduceAdd, List.map_cons, List.map_nil, Option.map_some, Option.map_none, Bool.false_eq_true, Int.reduceLE, Int.reduceToNat, ne_eq, not_false_eq_true, and_self, and_true, true_and, decide_true, decide_false, Int.reduceEq, Int.reduceLT, Int.reduceBEq, Int.reduceBNe, not_true_eq_false, undef] <;> rfl) ?_
  refine w_ret ⟨.inr rfl, fun _ r hr => ?_, [], fin_w1 ?_ (sv_pair (a4 s2 hsv1) hsh) (by rw [hC2.obj]; rfl) (by simp [upd_app]) (fun c hc => by simp at hc; subst hc; exact b4 s2 hsv1) (fun i b hi hb => by simp [upd_app, hi, hb])⟩
  · obtain ⟨x, y, z, e⟩ := hsh
    simp at hr; rcases hr with rfl | rfl <;> simp [upd_app, put, isTup, e]
  · simp [resVal, upd_app, put]

set_option maxRecDepth 10000 in
theorem rbyte_none (p : Nat) (v : Value) (g : Heap) (hC : Cu 55 g p v []) : FnSpec Try.prog 36 [pt1 p] g { v := .tuple #[.int .u8 0, .bool false], r := p :: srcBlk v } := by
  refine spec_of_body [2, 3] follows Try.func36 rfl (by kernel_rfl) (by simp [Try.f36]) (by kernel_rfl) rfl ?_
  intro g2 s2 n hg hfr hs hn hwf hsv
  have hC2 := hC.keep (g' := g2) (hg p (by simp [Eff.fp])) (fun i hi => hg i (by simp [Eff.fp, hi]))
  refine s_run (by simp only [runL, List.drop_succ_cons, List.drop_zero, awant_some, Option.getD_some, List.getElem?_toArray, List.getElem?_cons_succ, List.getElem?_cons_zero, Option.bind_some, b_tt, b_tf, b_ft, b_ff, Bool.not_true, Bool.not_false, List.take_succ_cons, List.take_zero, awant_none, astep, evl, put, ap_none, ap_new, ap_wr, List.length_nil, List.length_cons, Nat.add_zero, Nat.zero_add, upd_app, stepBin, abin, stepUn, stepPick, stepExtract, stepCall, if_true, if_false, reduceCtorEq, ↓reduceIte, Nat.reduceEqDiff, Nat.reduceAdd, List.map_cons, List.map_nil, Option.map_some, Option.map_none, Bool.false_eq_true, Int.reduceLE, Int.reduceToNat, ne_eq, not_false_eq_true, and_self, and_true, true_and, decide_true, decide_false, Int.reduceEq, Int.reduceLT, Int.reduceBEq, Int.reduceBNe, not_true_eq_false, undef] <;> rfl) ?_
  refine s_take 1 (by simp only [runL, List.drop_succ_cons, List.drop_zero, awant_some, Option.getD_some, List.getElem?_toArray, List.getElem?_cons_succ, List.getElem?_cons_zero, Option.bind_some, b_tt, b_tf, b_ft, b_ff, Bool.not_true, Bool.not_false, List.take_succ_cons, List.take_zero, awant_none, astep, evl, put, ap_none, ap_new, ap_wr, List.length_nil, List.length_cons, Nat.add_zero, Nat.zero_add, upd_app, stepBin, abin, stepUn, stepPick, stepExtract, stepCall, if_true, if_false, reduceCtorEq, ↓reduceIte, Nat.reduceEqDiff, Nat.reduceAdd, List.map_cons, List.map_nil, Option.map_some, Option.map_none, Bool.false_eq_true, Int.reduceLE, Int.reduceToNat, ne_eq, not_false_eq_true, and_self, and_true, true_and, decide_true, decide_false, Int.reduceEq, Int.reduceLT, Int.reduceBEq, Int.reduceBNe, not_true_eq_false, undef] <;> rfl) ?_
  refine ops_call 37 _ rfl (rtake_none p v [] 1 g2 hC2 (.inr (by simp))) (by intro h; exact (h rfl).elim) ?_
  refine ops_run (by simp only [runL, List.drop_succ_cons, List.drop_zero, awant_some, Option.getD_some, List.getElem?_toArray, List.getElem?_cons_succ, List.getElem?_cons_zero, Option.bind_some, b_tt, b_tf, b_ft, b_ff, Bool.not_true, Bool.not_false, List.take_succ_cons, List.take_zero, awant_none, astep, evl, put, ap_none, ap_new, ap_wr, List.length_nil, List.length_cons, Nat.add_zero, Nat.zero_add, upd_app, stepBin, abin, stepUn, stepPick, stepExtract, stepCall, if_true, if_false, reduceCtorEq, ↓reduceIte, Nat.reduceEqDiff, Nat.reduceAdd, List.map_cons, List.map_nil, Option.map_some, Option.map_none, Bool.false_eq_true, Int.reduceLE, Int.reduceToNat, ne_eq, not_false_eq_true, and_self, and_true, true_and, decide_true, decide_false, Int.reduceEq, Int.reduceLT, Int.reduceBEq, Int.reduceBNe, not_true_eq_false, undef] <;> rfl) ?_
  refine w_assoc (s_run (by simp only [runL, List.drop_succ_cons, List.drop_zero, awant_some, Option.getD_some, List.getElem?_toArray, List.getElem?_cons_succ, List.getElem?_cons_zero, Option.bind_some, b_tt, b_tf, b_ft, b_ff, Bool.not_true, Bool.not_false, List.take_succ_cons, List.take_zero, awant_none, astep, evl, put, ap_none, ap_new, ap_wr, List.length_nil, List.length_cons, Nat.add_zero, Nat.zero_add, upd_app, stepBin, abin, stepUn, stepPick, stepExtract, stepCall, if_true, if_false, reduceCtorEq, ↓reduceIte, Nat.reduceEqDiff, Nat.reduceAdd, List.map_cons, List.map_nil, Option.map_some, Option.map_none, Bool.false_eq_true, Int.reduceLE, Int.reduceToNat, ne_eq, not_false_eq_true, and_self, and_true, true_and, decide_true, decide_false, Int.reduceEq, Int.reduceLT, Int.reduceBEq, Int.reduceBNe, not_true_eq_false, undef] <;> rfl) ?_)
  refine s_true (by simp [evl, upd_app]) (w_assoc (s_run (by simp only [runL, List.drop_succ_cons, List.drop_zero, awant_some, Option.getD_some, List.getElem?_toArray, List.getElem?_cons_succ, List.getElem?_cons_zero, Option.bind_some, b_tt, b_tf, b_ft, b_ff, Bool.not_true, Bool.not_false, List.take_succ_cons, List.take_zero, awant_none, astep, evl, put, ap_none, ap_new, ap_wr, List.length_nil, List.length_cons, Nat.add_zero, Nat.zero_add, upd_app, stepBin, abin, stepUn, stepPick, stepExtract, stepCall, if_true, if_false, reduceCtorEq, ↓reduceIte, Nat.reduceEqDiff, Nat.reduceAdd, List.map_cons, List.map_nil, Option.map_some, Option.map_none, Bool.false_eq_true, Int.reduceLE, Int.reduceToNat, ne_eq, not_false_eq_true, and_self, and_true, true_and, decide_true, decide_false, Int.reduceEq, Int.reduceLT, Int.reduceBEq, Int.reduceBNe, not_true_eq_false, undef] <;> rfl) (s_ret ?_)))
  refine ⟨.inr rfl, fun _ r hr => ?_, [], fin_none ?_ (sv_ib rfl (by simp)) (fun _ _ h => h)⟩
  · simp at hr; rcases hr with rfl | rfl <;> simp [upd_app, isTup]
  · simp [resVal, upd_app]

theorem rtake_use {G : Heap} {p : Nat} {v : Value} {l : List Nat} {k j : Nat} (hC : Cu 55 G p v l) (hk : k ≤ l.length) : Src ((rtakeE p v l k j).ap G) (slV v 0 k) 1 (l.take k).length (bs (l.take k)) ∧ Cu 55 ((rtakeE p v l k j).ap G) p (slV v k l.length) (l.drop k) ∧ (∀ i, i ≠ p → (rtakeE p v l k j).ap G i = G i) ∧ ∀ i ∈ srcBlk (slV v 0 k), i ∈ srcBlk v := by
  have hap : ∀ i, i ≠ p → (rtakeE p v l k j).ap G i = G i := fun i hi => by simp [ap_wr, upd_app, hi]
  obtain ⟨a1, a2, a3, a4⟩ := src_slV (P := Try.prog) hC.src Try.underlying23 tsize5 none (some (.int .i64 (k : Int))) 0 k rfl rfl (by omega) hk
  refine ⟨?_, hC.taken hk (by simp [ap_wr]) (fun i hi => hap i fun e => hC.ne (e ▸ hi)), hap, a3⟩
  have a2' : Src G (slV v 0 k) 1 (l.take k).length (bs (l.take k)) := by
    rw [List.length_take, Nat.min_eq_left hk]; simpa using a2
  exact a2'.congr fun i hi => hap i fun e => hC.ne (e ▸ a3 i hi)

set_option maxRecDepth 10000 in
theorem rbyte_some (p : Nat) (v : Value) (l : List Nat) (g : Heap) (hl : l.length ≤ 2 ^ 40) (hC : Cu 55 g p v l) (h1 : 1 ≤ l.length) (j : Nat) : FnSpec Try.prog 36 [pt1 p] g { v := .tuple #[.int .u8 (byt l 0), .bool true], r := p :: srcBlk v, w := [(p, ⟨false, 55, [slV v 1 l.length]⟩)], j := j } := by
  refine spec_of_body [2, 3] follows Try.func36 rfl (by kernel_rfl) (by simp [Try.f36]) (by kernel_rfl) rfl ?_
  intro g2 s2 n hg hfr hs hn hwf hsv
  have hC2 := hC.keep (g' := g2) (hg p (by simp [Eff.fp])) (fun i hi => hg i (by simp [Eff.fp, hi]))
  have hsv1 : SV1 s2 v := (hwf p _ hC2.obj).2 v (by simp)
  obtain ⟨_, _, _, b4⟩ := src_slV (P := Try.prog) hC2.src Try.underlying23 tsize5 (some (.int .i64 ((1 : Nat) : Int))) none 1 l.length rfl rfl h1 (Nat.le_refl _)
  obtain ⟨u2, u4, u5, _⟩ := rtake_use (j := n) hC2 h1
  refine s_run (by simp only [runL, List.drop_succ_cons, List.drop_zero, awant_some, Option.getD_some, List.getElem?_toArray, List.getElem?_cons_succ, List.getElem?_cons_zero, Option.bind_some, b_tt, b_tf, b_ft, b_ff, Bool.not_true, Bool.not_false, List.take_succ_cons, List.take_zero, awant_none, astep, evl, put, ap_none, ap_new, ap_wr, List.length_nil, List.length_cons, Nat.add_zero, Nat.zero_add, upd_app, stepBin, abin, stepUn, stepPick, stepExtract, stepCall, if_true, if_false, reduceCtorEq, ↓reduceIte, Nat.reduceEqDiff, Nat.reduceAdd, List.map_cons, List.map_nil, Option.map_some, Option.map_none, Bool.false_eq_true, Int.reduceLE, Int.reduceToNat, ne_eq, not_false_eq_true, and_self, and_true, true_and, decide_true, decide_false, Int.reduceEq, Int.reduceLT, Int.reduceBEq, Int.reduceBNe, not_true_eq_false, undef] <;> rfl) ?_
  refine s_take 1 (by simp only [runL, List.drop_succ_cons, List.drop_zero, awant_some, Option.getD_some, List.getElem?_toArray, List.getElem?_cons_succ, List.getElem?_cons_zero, Option.bind_some, b_tt, b_tf, b_ft, b_ff, Bool.not_true, Bool.not_false, List.take_succ_cons, List.take_zero, awant_none, astep, evl, put, ap_none, ap_new, ap_wr, List.length_nil, List.length_cons, Nat.add_zero, Nat.zero_add, upd_app, stepBin, abin, stepUn, stepPick, stepExtract, stepCall, if_true, if_false, reduceCtorEq, ↓reduceIte, Nat.reduceEqDiff, Nat.reduceAdd, List.map_cons, List.map_nil, Option.map_some, Option.map_none, Bool.false_eq_true, Int.reduceLE, Int.reduceToNat, ne_eq, not_false_eq_true, and_self, and_true, true_and, decide_true, decide_false, Int.reduceEq, Int.reduceLT, Int.reduceBEq, Int.reduceBNe, not_true_eq_false, undef] <;> rfl) ?_
  refine ops_call 37 _ rfl (rtake_some p v l 1 g2 n hC2 h1 hl) (by intro h; exact (h rfl).elim) (ops_heap fun G hG => ?_)
  rw [← hG] at u2 u4 u5
  refine ops_run (by simp only [runL, List.drop_succ_cons, List.drop_zero, awant_some, Option.getD_some, List.getElem?_toArray, List.getElem?_cons_succ, List.getElem?_cons_zero, Option.bind_some, b_tt, b_tf, b_ft, b_ff, Bool.not_true, Bool.not_false, List.take_succ_cons, List.take_zero, awant_none, astep, evl, put, ap_none, ap_new, ap_wr, List.length_nil, List.length_cons, Nat.add_zero, Nat.zero_add, upd_app, stepBin, abin, stepUn, stepPick, stepExtract, stepCall, if_true, if_false, reduceCtorEq, ↓reduceIte, Nat.reduceEqDiff, Nat.reduceAdd, List.map_cons, List.map_nil, Option.map_some, Option.map_none, Bool.false_eq_true, Int.reduceLE, Int.reduceToNat, ne_eq, not_false_eq_true, and_self, and_true, true_and, decide_true, decide_false, Int.reduceEq, Int.reduceLT, Int.reduceBEq, Int.reduceBNe, not_true_eq_false, undef] <;> rfl) ?_
  refine w_gen (fun t => t 4 = slV v 0 1 ∧ t 5 = .bool true) (by simp [upd_app, put]) ?_
  rintro t ⟨t4, t5⟩
  refine w_assoc (s_run (by simp only [runL, List.drop_succ_cons, List.drop_zero, awant_some, Option.getD_some, List.getElem?_toArray, List.getElem?_cons_succ, List.getElem?_cons_zero, Option.bind_some, b_tt, b_tf, b_ft, b_ff, Bool.not_true, Bool.not_false, List.take_succ_cons, List.take_zero, awant_none, astep, evl, put, ap_none, ap_new, ap_wr, List.length_nil, List.length_cons, Nat.add_zero, Nat.zero_add, upd_app, stepBin, abin, stepUn, stepPick, stepExtract, stepCall, if_true, if_false, reduceCtorEq, ↓reduceIte, Nat.reduceEqDiff, Nat.reduceAdd, List.map_cons, List.map_nil, Option.map_some, Option.map_none, Bool.false_eq_true, Int.reduceLE, Int.reduceToNat, ne_eq, not_false_eq_true, and_self, and_true, true_and, decide_true, decide_false, Int.reduceEq, Int.reduceLT, Int.reduceBEq, Int.reduceBNe, not_true_eq_false, undef, t5] <;> rfl) ?_)
  refine s_false (by simp [evl, upd_app]) (s_skip ?_)
  obtain ⟨q, i1, i2, _⟩ := u2.at1 (P := Try.prog) (i := 0) (c := .int .u8 (byt l 0)) (by rw [← byt_take (q := 1) (by omega)]; exact bs_at (by simp; omega)) Try.underlying23 tsize5 aggT5
  have i1' : stepIndex Try.prog 23 (slV v 0 1) (.int .i64 0) = some { v := .pointer (some q) } := i1 .i64
  refine s_run (by simp only [runL, List.drop_succ_cons, List.drop_zero, awant_some, Option.getD_some, List.getElem?_toArray, List.getElem?_cons_succ, List.getElem?_cons_zero, Option.bind_some, b_tt, b_tf, b_ft, b_ff, Bool.not_true, Bool.not_false, List.take_succ_cons, List.take_zero, awant_none, astep, evl, put, ap_none, ap_new, ap_wr, List.length_nil, List.length_cons, Nat.add_zero, Nat.zero_add, upd_app, stepBin, abin, stepUn, stepPick, stepExtract, stepCall, if_true, if_false, reduceCtorEq, ↓reduceIte, Nat.reduceEqDiff, Nat.reduceAdd, List.map_cons, List.map_nil, Option.map_some, Option.map_none, Bool.false_eq_true, Int.reduceLE, Int.reduceToNat, ne_eq, not_false_eq_true, and_self, and_true, true_and, decide_true, decide_false, Int.reduceEq, Int.reduceLT, Int.reduceBEq, Int.reduceBNe, not_true_eq_false, undef, t4, i1', i2] <;> rfl) ?_
  refine w_ret ⟨.inr rfl, fun _ r hr => ?_, [], fin_w1 ?_ (sv_ib rfl (by simp)) (by rw [hC2.obj]; rfl) u4.obj (fun c hc => by simp at hc; subst hc; exact b4 s2 hsv1) (fun i b hi hb => ?_)⟩
  · simp at hr; rcases hr with rfl | rfl <;> simp [upd_app, put, isTup]
  · simp [resVal, upd_app, put]
  · rw [u5 i hi]; exact hb

set_option maxRecDepth 10000 in
theorem rfour_none (p : Nat) (v : Value) (l : List Nat) (g : Heap) (hC : Cu 55 g p v l) (h4 : l.length < 4) : FnSpec Try.prog 40 [pt1 p] g { v := .tuple #[.int .u32 0, .bool false], r := p :: srcBlk v } := by
  refine spec_of_body [2, 3] follows Try.func40 rfl (by kernel_rfl) (by simp [Try.f40]) (by kernel_rfl) rfl ?_
  intro g2 s2 n hg hfr hs hn hwf hsv
  have hC2 := hC.keep (g' := g2) (hg p (by simp [Eff.fp])) (fun i hi => hg i (by simp [Eff.fp, hi]))
  refine s_run (by simp only [runL, List.drop_succ_cons, List.drop_zero, awant_some, Option.getD_some, List.getElem?_toArray, List.getElem?_cons_succ, List.getElem?_cons_zero, Option.bind_some, b_tt, b_tf, b_ft, b_ff, Bool.not_true, Bool.not_false, List.take_succ_cons, List.take_zero, awant_none, astep, evl, put, ap_none, ap_new, ap_wr, List.length_nil, List.length_cons, Nat.add_zero, Nat.zero_add, upd_app, stepBin, abin, stepUn, stepPick, stepExtract, stepCall, if_true, if_false, reduceCtorEq, ↓reduceIte, Nat.reduceEqDiff, Nat.reduceAdd, List.map_cons, List.map_nil, Option.map_some, Option.map_none, Bool.false_eq_true, Int.reduceLE, Int.reduceToNat, ne_eq, not_false_eq_true, and_self, and_true, true_and, decide_true, decide_false, Int.reduceEq, Int.reduceLT, Int.reduceBEq, Int.reduceBNe, not_true_eq_false, undef] <;> rfl) ?_
  refine s_take 1 (by simp only [runL, List.drop_succ_cons, List.drop_zero, awant_some, Option.getD_some, List.getElem?_toArray, List.getElem?_cons_succ, List.getElem?_cons_zero, Option.bind_some, b_tt, b_tf, b_ft, b_ff, Bool.not_true, Bool.not_false, List.take_succ_cons, List.take_zero, awant_none, astep, evl, put, ap_none, ap_new, ap_wr, List.length_nil, List.length_cons, Nat.add_zero, Nat.zero_add, upd_app, stepBin, abin, stepUn, stepPick, stepExtract, stepCall, if_true, if_false, reduceCtorEq, ↓reduceIte, Nat.reduceEqDiff, Nat.reduceAdd, List.map_cons, List.map_nil, Option.map_some, Option.map_none, Bool.false_eq_true, Int.reduceLE, Int.reduceToNat, ne_eq, not_false_eq_true, and_self, and_true, true_and, decide_true, decide_false, Int.reduceEq, Int.reduceLT, Int.reduceBEq, Int.reduceBNe, not_true_eq_false, undef] <;> rfl) ?_
  refine ops_call 37 _ rfl (rtake_none p v l 4 g2 hC2 (.inr (by omega))) (by intro h; exact (h rfl).elim) ?_
  refine ops_run (by simp only [runL, List.drop_succ_cons, List.drop_zero, awant_some, Option.getD_some, List.getElem?_toArray, List.getElem?_cons_succ, List.getElem?_cons_zero, Option.bind_some, b_tt, b_tf, b_ft, b_ff, Bool.not_true, Bool.not_false, List.take_succ_cons, List.take_zero, awant_none, astep, evl, put, ap_none, ap_new, ap_wr, List.length_nil, List.length_cons, Nat.add_zero, Nat.zero_add, upd_app, stepBin, abin, stepUn, stepPick, stepExtract, stepCall, if_true, if_false, reduceCtorEq, ↓reduceIte, Nat.reduceEqDiff, Nat.reduceAdd, List.map_cons, List.map_nil, Option.map_some, Option.map_none, Bool.false_eq_true, Int.reduceLE, Int.reduceToNat, ne_eq, not_false_eq_true, and_self, and_true, true_and, decide_true, decide_false, Int.reduceEq, Int.reduceLT, Int.reduceBEq, Int.reduceBNe, not_true_eq_false, undef] <;> rfl) ?_
  refine w_assoc (s_run (by simp only [runL, List.drop_succ_cons, List.drop_zero, awant_some, Option.getD_some, List.getElem?_toArray, List.getElem?_cons_succ, List.getElem?_cons_zero, Option.bind_some, b_tt, b_tf, b_ft, b_ff, Bool.not_true, Bool.not_false, List.take_succ_cons, List.take_zero, awant_none, astep, evl, put, ap_none, ap_new, ap_wr, List.length_nil, List.length_cons, Nat.add_zero, Nat.zero_add, upd_app, stepBin, abin, stepUn, stepPick, stepExtract, stepCall, if_true, if_false, reduceCtorEq, ↓reduceIte, Nat.reduceEqDiff, Nat.reduceAdd, List.map_cons, List.map_nil, Option.map_some, Option.map_none, Bool.false_eq_true, Int.reduceLE, Int.reduceToNat, ne_eq, not_false_eq_true, and_self, and_true, true_and, decide_true, decide_false, Int.reduceEq, Int.reduceLT, Int.reduceBEq, Int.reduceBNe, not_true_eq_false, undef] <;> rfl) ?_)
  refine s_true (by simp [evl, upd_app]) (w_assoc (s_run (by simp only [runL, List.drop_succ_cons, List.drop_zero, awant_some, Option.getD_some, List.getElem?_toArray, List.getElem?_cons_succ, List.getElem?_cons_zero, Option.bind_some, b_tt, b_tf, b_ft, b_ff, Bool.not_true, Bool.not_false, List.take_succ_cons, List.take_zero, awant_none, astep, evl, put, ap_none, ap_new, ap_wr, List.length_nil, List.length_cons, Nat.add_zero, Nat.zero_add, upd_app, stepBin, abin, stepUn, stepPick, stepExtract, stepCall, if_true, if_false, reduceCtorEq, ↓reduceIte, Nat.reduceEqDiff, Nat.reduceAdd, List.map_cons, List.map_nil, Option.map_some, Option.map_none, Bool.false_eq_true, Int.reduceLE, Int.reduceToNat, ne_eq, not_false_eq_true, and_self, and_true, true_and, decide_true, decide_false, Int.reduceEq, Int.reduceLT, Int.reduceBEq, Int.reduceBNe, not_true_eq_false, undef] <;> rfl) (s_ret ?_)))
  refine ⟨.inr rfl, fun _ r hr => ?_, [], fin_none ?_ (sv_ib rfl (by simp)) (fun _ _ h => h)⟩
  · simp at hr; rcases hr with rfl | rfl <;> simp [upd_app, isTup]
  · simp [resVal, upd_app]

set_option maxRecDepth 10000 in
theorem rfour_some (p : Nat) (v : Value) (l : List Nat) (g : Heap) (hl : l.length ≤ 2 ^ 40) (hb : ∀ x ∈ l, x < 256) (hC : Cu 55 g p v l) (h4 : 4 ≤ l.length) (j : Nat) : FnSpec Try.prog 40 [pt1 p] g { v := .tuple #[.int .u32 (fourv l), .bool true], r := p :: srcBlk v, w := [(p, ⟨false, 55, [slV v 4 l.length]⟩)], j := j } := by
  refine spec_of_body [2, 3] follows Try.func40 rfl (by kernel_rfl) (by simp [Try.f40]) (by kernel_rfl) rfl ?_
  intro g2 s2 n hg hfr hs hn hwf hsv
  have hC2 := hC.keep (g' := g2) (hg p (by simp [Eff.fp])) (fun i hi => hg i (by simp [Eff.fp, hi]))
  have hsv1 : SV1 s2 v := (hwf p _ hC2.obj).2 v (by simp)
  obtain ⟨_, _, _, b4⟩ := src_slV (P := Try.prog) hC2.src Try.underlying23 tsize5 (some (.int .i64 ((4 : Nat) : Int))) none 4 l.length rfl rfl h4 (Nat.le_refl _)
  obtain ⟨u2, u4, u5, _⟩ := rtake_use (j := n) hC2 h4
  refine s_run (by simp only [runL, List.drop_succ_cons, List.drop_zero, awant_some, Option.getD_some, List.getElem?_toArray, List.getElem?_cons_succ, List.getElem?_cons_zero, Option.bind_some, b_tt, b_tf, b_ft, b_ff, Bool.not_true, Bool.not_false, List.take_succ_cons, List.take_zero, awant_none, astep, evl, put, ap_none, ap_new, ap_wr, List.length_nil, List.length_cons, Nat.add_zero, Nat.zero_add, upd_app, stepBin, abin, stepUn, stepPick, stepExtract, stepCall, if_true, if_false, reduceCtorEq, ↓reduceIte, Nat.reduceEqDiff, Nat.reduceAdd, List.map_cons, List.map_nil, Option.map_some, Option.map_none, Bool.false_eq_true, Int.reduceLE, Int.reduceToNat, ne_eq, not_false_eq_true, and_self, and_true, true_and, decide_true, decide_false, Int.reduceEq, Int.reduceLT, Int.reduceBEq, Int.reduceBNe, not_true_eq_false, undef] <;> rfl) ?_
  refine s_take 1 (by simp only [runL, List.drop_succ_cons, List.drop_zero, awant_some, Option.getD_some, List.getElem?_toArray, List.getElem?_cons_succ, List.getElem?_cons_zero, Option.bind_some, b_tt, b_tf, b_ft, b_ff, Bool.not_true, Bool.not_false, List.take_succ_cons, List.take_zero, awant_none, astep, evl, put, ap_none, ap_new, ap_wr, List.length_nil, List.length_cons, Nat.add_zero, Nat.zero_add, upd_app, stepBin, abin, stepUn, stepPick, stepExtract, stepCall, if_true, if_false, reduceCtorEq, ↓reduceIte, Nat.reduceEqDiff, Nat.reduceAdd, List.map_cons, List.map_nil, Option.map_some, Option.map_none, Bool.false_eq_true, Int.reduceLE, Int.reduceToNat, ne_eq, not_false_eq_true, and_self, and_true, true_and, decide_true, decide_false, Int.reduceEq, Int.reduceLT, Int.reduceBEq, Int.reduceBNe, not_true_eq_false, undef] <;> rfl) ?_
  refine ops_call 37 _ rfl (rtake_some p v l 4 g2 n hC2 h4 hl) (by intro h; exact (h rfl).elim) (ops_heap fun G hG => ?_)
  rw [← hG] at u2 u4 u5
  refine ops_run (by simp only [runL, List.drop_succ_cons, List.drop_zero, awant_some, Option.getD_some, List.getElem?_toArray, List.getElem?_cons_succ, List.getElem?_cons_zero, Option.bind_some, b_tt, b_tf, b_ft, b_ff, Bool.not_true, Bool.not_false, List.take_succ_cons, List.take_zero, awant_none, astep, evl, put, ap_none, ap_new, ap_wr, List.length_nil, List.length_cons, Nat.add_zero, Nat.zero_add, upd_app, stepBin, abin, stepUn, stepPick, stepExtract, stepCall, if_true, if_false, reduceCtorEq, ↓reduceIte, Nat.reduceEqDiff, Nat.reduceAdd, List.map_cons, List.map_nil, Option.map_some, Option.map_none, Bool.false_eq_true, Int.reduceLE, Int.reduceToNat, ne_eq, not_false_eq_true, and_self, and_true, true_and, decide_true, decide_false, Int.reduceEq, Int.reduceLT, Int.reduceBEq, Int.reduceBNe, not_true_eq_false, undef] <;> rfl) ?_
  refine w_gen (fun t => t 4 = slV v 0 4 ∧ t 5 = .bool true) (by simp [upd_app, put]) ?_
  rintro t ⟨t4, t5⟩
  refine w_assoc (s_run (by simp only [runL, List.drop_succ_cons, List.drop_zero, awant_some, Option.getD_some, List.getElem?_toArray, List.getElem?_cons_succ, List.getElem?_cons_zero, Option.bind_some, b_tt, b_tf, b_ft, b_ff, Bool.not_true, Bool.not_false, List.take_succ_cons, List.take_zero, awant_none, astep, evl, put, ap_none, ap_new, ap_wr, List.length_nil, List.length_cons, Nat.add_zero, Nat.zero_add, upd_app, stepBin, abin, stepUn, stepPick, stepExtract, stepCall, if_true, if_false, reduceCtorEq, ↓reduceIte, Nat.reduceEqDiff, Nat.reduceAdd, List.map_cons, List.map_nil, Option.map_some, Option.map_none, Bool.false_eq_true, Int.reduceLE, Int.reduceToNat, ne_eq, not_false_eq_true, and_self, and_true, true_and, decide_true, decide_false, Int.reduceEq, Int.reduceLT, Int.reduceBEq, Int.reduceBNe, not_true_eq_false, undef, t5] <;> rfl) ?_)
  refine s_false (by simp [evl, upd_app]) (s_skip ?_)
  obtain ⟨q0, i0, l0, _⟩ := u2.at1 (P := Try.prog) (i := 0) (c := .int .u8 (byt l 0)) (by rw [← byt_take (q := 4) (by omega)]; exact bs_at (by simp; omega)) Try.underlying23 tsize5 aggT5
  obtain ⟨q1, i1, l1, _⟩ := u2.at1 (P := Try.prog) (i := 1) (c := .int .u8 (byt l 1)) (by rw [← byt_take (q := 4) (by omega)]; exact bs_at (by simp; omega)) Try.underlying23 tsize5 aggT5
  obtain ⟨q2, i2, l2, _⟩ := u2.at1 (P := Try.prog) (i := 2) (c := .int .u8 (byt l 2)) (by rw [← byt_take (q := 4) (by omega)]; exact bs_at (by simp; omega)) Try.underlying23 tsize5 aggT5
  obtain ⟨q3, i3, l3, _⟩ := u2.at1 (P := Try.prog) (i := 3) (c := .int .u8 (byt l 3)) (by rw [← byt_take (q := 4) (by omega)]; exact bs_at (by simp; omega)) Try.underlying23 tsize5 aggT5
  have z0 : stepIndex Try.prog 23 (slV v 0 4) (.int .i64 0) = some { v := .pointer (some q0) } := i0 .i64
  have z1 : stepIndex Try.prog 23 (slV v 0 4) (.int .i64 1) = some { v := .pointer (some q1) } := i1 .i64
  have z2 : stepIndex Try.prog 23 (slV v 0 4) (.int .i64 2) = some { v := .pointer (some q2) } := i2 .i64
  have z3 : stepIndex Try.prog 23 (slV v 0 4) (.int .i64 3) = some { v := .pointer (some q3) } := i3 .i64
  have s0 := fourp_step hb (k := 0) (by omega)
  have s1 := fourp_step hb (k := 1) (by omega)
  have s2' := fourp_step hb (k := 2) (by omega)
  have s3 := fourp_step hb (k := 3) (by omega)
  have f1 : fourp l 1 = byt l 0 := by simp [fourp]
  have wb : IntKind.u32.wrap (byt l 0 : Int) = (fourp l 1 : Int) := by rw [f1, IntKind.wrap_u32]; have := byt_lt hb 0; omega
  have m1 : min 8 IntKind.u32.bits = 8 := rfl
  have m2 : min 16 IntKind.u32.bits = 16 := rfl
  have m3 : min 24 IntKind.u32.bits = 24 := rfl
  have n1 : min ((8 * 1 : Nat) : Int).toNat IntKind.u32.bits = 8 := rfl
  have n2 : min ((8 * 2 : Nat) : Int).toNat IntKind.u32.bits = 16 := rfl
  have n3 : min ((8 * 3 : Nat) : Int).toNat IntKind.u32.bits = 24 := rfl
  rw [n1] at s1
  rw [n2] at s2'
  rw [n3] at s3
  have c0 : (0 : Int) ≤ 8 := by omega
  have c1 : (0 : Int) ≤ 16 := by omega
  have c2 : (0 : Int) ≤ 24 := by omega
  refine s_drawn #[0, 1, 3, 7, 0, 16, 48, 112, 240, 511, 0, 1024, 3072, 7168, 15360, 32767, 0, 65536, 196608, 458752, 983040, 2097151, 4194303, 8388607] (by decide +kernel) ?_
  refine d_reads 10 (by simp) (by simp only [runR, List.drop_succ_cons, List.drop_zero, awant_some, Option.getD_some, List.getElem?_toArray, List.getElem?_cons_succ, List.getElem?_cons_zero, Option.bind_some, b_tt, b_tf, b_ft, b_ff, Bool.not_true, Bool.not_false, List.take_succ_cons, List.take_zero, awant_none, astep, evl, put, ap_none, ap_new, ap_wr, List.length_nil, List.length_cons, Nat.add_zero, Nat.zero_add, upd_app, stepBin, abin, stepUn, stepPick, stepExtract, stepCall, if_true, if_false, reduceCtorEq, ↓reduceIte, Nat.reduceEqDiff, Nat.reduceAdd, List.map_cons, List.map_nil, Option.map_some, Option.map_none, Bool.false_eq_true, Int.reduceLE, Int.reduceToNat, ne_eq, not_false_eq_true, and_self, and_true, true_and, decide_true, decide_false, Int.reduceEq, Int.reduceLT, Int.reduceBEq, Int.reduceBNe, not_true_eq_false, undef, List.isEmpty_nil, Bool.and_self, Bool.and_true, t4, z0, l0, z1, l1, conv5_40, wb, c0, m1, s1] <;> rfl) fun a1 ha1 => ?_
  refine d_reads 6 ha1 (by simp only [runR, List.drop_succ_cons, List.drop_zero, awant_some, Option.getD_some, List.getElem?_toArray, List.getElem?_cons_succ, List.getElem?_cons_zero, Option.bind_some, b_tt, b_tf, b_ft, b_ff, Bool.not_true, Bool.not_false, List.take_succ_cons, List.take_zero, awant_none, astep, evl, put, ap_none, ap_new, ap_wr, List.length_nil, List.length_cons, Nat.add_zero, Nat.zero_add, upd_app, stepBin, abin, stepUn, stepPick, stepExtract, stepCall, if_true, if_false, reduceCtorEq, ↓reduceIte, Nat.reduceEqDiff, Nat.reduceAdd, List.map_cons, List.map_nil, Option.map_some, Option.map_none, Bool.false_eq_true, Int.reduceLE, Int.reduceToNat, ne_eq, not_false_eq_true, and_self, and_true, true_and, decide_true, decide_false, Int.reduceEq, Int.reduceLT, Int.reduceBEq, Int.reduceBNe, not_true_eq_false, undef, List.isEmpty_nil, Bool.and_self, Bool.and_true, t4, z2, l2, conv5_40, c1, m2, s2'] <;> rfl) fun a2 ha2 => ?_
  refine d_reads 8 ha2 (by simp only [runR, List.drop_succ_cons, List.drop_zero, awant_some, Option.getD_some, List.getElem?_toArray, List.getElem?_cons_succ, List.getElem?_cons_zero, Option.bind_some, b_tt, b_tf, b_ft, b_ff, Bool.not_true, Bool.not_false, List.take_succ_cons, List.take_zero, awant_none, astep, evl, put, ap_none, ap_new, ap_wr, List.length_nil, List.length_cons, Nat.add_zero, Nat.zero_add, upd_app, stepBin, abin, stepUn, stepPick, stepExtract, stepCall, if_true, if_false, reduceCtorEq, ↓reduceIte, Nat.reduceEqDiff, Nat.reduceAdd, List.map_cons, List.map_nil, Option.map_some, Option.map_none, Bool.false_eq_true, Int.reduceLE, Int.reduceToNat, ne_eq, not_false_eq_true, and_self, and_true, true_and, decide_true, decide_false, Int.reduceEq, Int.reduceLT, Int.reduceBEq, Int.reduceBNe, not_true_eq_false, undef, List.isEmpty_nil, Bool.and_self, Bool.and_true, t4, z3, l3, conv5_40, c2, m3, s3] <;> rfl) fun a3 ha3 => ?_
  refine w_ret ⟨.inr rfl, fun _ r hr => ?_, [], fin_w1 ?_ (sv_ib rfl (by simp)) (by rw [hC2.obj]; rfl) u4.obj (fun c hc => by simp at hc; subst hc; exact b4 s2 hsv1) (fun i b hi hb => ?_)⟩
  · simp at hr; rcases hr with rfl | rfl <;> simp [upd_app, put, isTup]
  · simp [resVal, upd_app, put, fourp, fourv]
  · show G i = some b
    rw [u5 i hi]; exact hb
end Go.Proofs.Ytokmmcfnpobldaa
