import Derived.Test.YtahinegnblankaaP33S
namespace Go.Proofs.Ytahinegnblankaa
open Go Abs
set_option linter.unusedSimpArgs false
set_option linter.unusedVariables false

def nxN (N : List Nat) (r : Nat) (x y z : Int) : List Nat := if spn x y z then putN N r x.toNat y.toNat z.toNat else N
def nxR (r : Nat) (x y z : Int) : Nat := if spn x y z then putR r y.toNat z.toNat else r

theorem nxN_len {N : List Nat} {r : Nat} {x y z : Int} : N.length ≤ (nxN N r x y z).length ∧ (nxN N r x y z).length ≤ N.length + 2 := by
  unfold nxN
  split
  · rw [putN_len]; have := sh_le (r / z.toNat * y.toNat); omega
  · omega
theorem nxN_lt {N : List Nat} {r : Nat} {x y z : Int} (h : ∀ x ∈ N, x < 256) : ∀ v ∈ nxN N r x y z, v < 256 := by
  unfold nxN
  split
  · exact putN_lt
  · exact h
theorem nxR_norm {r : Nat} {x y z : Int} (h1 : 2 ^ 24 ≤ r) (h2 : r < 2 ^ 32) : 2 ^ 24 ≤ nxR r x y z ∧ nxR r x y z < 2 ^ 32 := by
  unfold nxR
  split
  · rename_i h
    obtain ⟨lo, sz, tot, rfl, rfl, rfl, ok⟩ := spn_ok h h1 h2
    exact ok.norm
  · exact ⟨h1, h2⟩

theorem put_any {p : Nat} {sl : Option Nat} {b : List Nat} {m r : Nat} {x y z : Int} {g : Heap} {j : Nat} (h : Wr p sl b m r g) (hb : ∀ x ∈ b, x < 256) (hm : m < 2 ^ 32) (h1 : 2 ^ 24 ≤ r) (h2 : r < 2 ^ 32) (hl : b.length ≤ 2 ^ 37) (hx : -2 ^ 63 ≤ x ∧ x ≤ 2 ^ 63 - 1) (hz : -2 ^ 63 ≤ z ∧ z ≤ 2 ^ 63 - 1) (hp : p < j) :
    ∃ f sl' b' m', FnSpec Try.prog 33 [ptr3 p, .int .i64 x, .int .i64 y, .int .i64 z] g f ∧ f.v = .bool (spn x y z) ∧ (f.a ≠ [] → f.j = j) ∧ f.a.length ≤ 1 ∧ (∀ i ∈ f.r, i = p ∨ sl = some i) ∧ (∀ i ∈ f.wr, i = p ∨ sl = some i ∨ (i = j ∧ f.a.length = 1)) ∧
      Wr p sl' b' m' (nxR r x y z) (f.ap g) ∧ all4 b' m' = nxN (all4 b m) r x y z ∧ m' < 2 ^ 32 ∧ (∀ x ∈ b', x < 256) ∧ (∀ i, i < j → i ≠ p → sl ≠ some i → f.ap g i = g i) ∧ (sl' = sl ∨ (sl = none ∧ sl' = some j ∧ f.a.length = 1)) := by
  cases hs : spn x y z with
  | true =>
    obtain ⟨lo, sz, tot, rfl, rfl, rfl, ok⟩ := spn_ok hs h1 h2
    have e1 : nxN (all4 b m) r lo sz tot = putN (all4 b m) r lo sz tot := by simp [nxN, hs]
    have e2 : nxR r lo sz tot = putR r sz tot := by simp [nxR, hs]
    have hN : 4 ≤ (putN (all4 b m) r lo sz tot).length := by rw [putN_len, all4_len]; omega
    obtain ⟨a1, a2, a3⟩ := putE_ap (r' := putR r sz tot) (j := j) h hp hN
    refine ⟨putE p sl (putN (all4 b m) r lo sz tot) (putR r sz tot) j, _, _, _, put_yes p sl b m r lo sz tot g j h hb hm ok hl, putE_v, fun _ => putE_j, putE_a, putE_r, putE_wr, by rw [e2]; exact a1, by rw [e1]; exact all4_hd hN putN_lt, tl4_lt hN putN_lt, hd4_lt putN_lt, a2, a3⟩
  | false =>
    have e1 : nxN (all4 b m) r x y z = all4 b m := by simp [nxN, hs]
    have e2 : nxR r x y z = r := by simp [nxR, hs]
    exact ⟨{ v := .bool false }, sl, b, m, put_no p x y z 3 g hx hz hs, rfl, by simp, by simp, by simp, by simp [Eff.wr], by rw [e2]; exact h, e1.symm, hm, hb, fun _ _ _ _ => rfl, .inl rfl⟩

theorem rput_any {p q : Nat} {N : List Nat} {r : Nat} {x y z : Int} {g : Heap} (h : Rw p q N r g) (hb : ∀ x ∈ N, x < 256) (h1 : 2 ^ 24 ≤ r) (h2 : r < 2 ^ 32) (hl : N.length ≤ 2 ^ 37) (hx : -2 ^ 63 ≤ x ∧ x ≤ 2 ^ 63 - 1) (hz : -2 ^ 63 ≤ z ∧ z ≤ 2 ^ 63 - 1) :
    ∃ f, FnSpec Try.prog 34 [ptr2 p, .int .i64 x, .int .i64 y, .int .i64 z] g f ∧ f.v = .bool (spn x y z) ∧ f.a = [] ∧ (∀ i ∈ f.r, i = p ∨ i = q) ∧ (∀ i ∈ f.wr, i = p ∨ i = q) ∧
      Rw p q (nxN N r x y z) (nxR r x y z) (f.ap g) ∧ ∀ i, i ≠ p → i ≠ q → f.ap g i = g i := by
  cases hs : spn x y z with
  | true =>
    obtain ⟨lo, sz, tot, rfl, rfl, rfl, ok⟩ := spn_ok hs h1 h2
    have e1 : nxN N r lo sz tot = putN N r lo sz tot := by simp [nxN, hs]
    have e2 : nxR r lo sz tot = putR r sz tot := by simp [nxR, hs]
    obtain ⟨a1, a2⟩ := rputE_ap (N' := putN N r lo sz tot) (r' := putR r sz tot) h
    exact ⟨rputE p q (putN N r lo sz tot) (putR r sz tot), rput_yes p q N r lo sz tot g h hb ok hl, rfl, rfl, by simp [rputE], by simp [rputE, Eff.wr], by rw [e1, e2]; exact a1, a2⟩
  | false =>
    have e1 : nxN N r x y z = N := by simp [nxN, hs]
    have e2 : nxR r x y z = r := by simp [nxR, hs]
    exact ⟨{ v := .bool false }, rput_no _ x y z g hx hz hs, rfl, rfl, by simp, by simp [Eff.wr], by rw [e1, e2]; exact h, fun _ _ _ => rfl⟩

theorem tsize39 : tsize Try.prog 39 = some 3 := by kernel_rfl
theorem foff39_0 : foff Try.prog 39 0 = some 0 := by kernel_rfl
theorem foff39_1 : foff Try.prog 39 1 = some 1 := by kernel_rfl
theorem foff39_2 : foff Try.prog 39 2 = some 2 := by kernel_rfl

theorem row3 {g : Heap} {v : Value} {zs : List Int} {len i : Nat} (h : Src g v 3 len (zs.map (Value.int .i64))) (hl : zs.length = len * 3) (hi : i < len) :
    ∃ (p q0 q1 q2 : Addr) (h0 : i * 3 < zs.length) (h1 : i * 3 + 1 < zs.length) (h2 : i * 3 + 2 < zs.length), (∀ k, stepIndex Try.prog 32 v (.int k (i : Int)) = some { v := .pointer (some p) }) ∧ stepField Try.prog 39 (.pointer (some p)) 0 = some { v := .pointer (some q0) } ∧ stepField Try.prog 39 (.pointer (some p)) 1 = some { v := .pointer (some q1) } ∧ stepField Try.prog 39 (.pointer (some p)) 2 = some { v := .pointer (some q2) } ∧
      stepLoad Try.prog 3 (.pointer (some q0)) g = some { v := .int .i64 zs[i * 3], r := [q0.block] } ∧ stepLoad Try.prog 3 (.pointer (some q1)) g = some { v := .int .i64 zs[i * 3 + 1], r := [q1.block] } ∧ stepLoad Try.prog 3 (.pointer (some q2)) g = some { v := .int .i64 zs[i * 3 + 2], r := [q2.block] } ∧
      q0.block ∈ srcBlk v ∧ q1.block ∈ srcBlk v ∧ q2.block ∈ srcBlk v := by
  have h0 : i * 3 < zs.length := by omega
  have h1 : i * 3 + 1 < zs.length := by omega
  have h2 : i * 3 + 2 < zs.length := by omega
  obtain ⟨p, q0, a1, a2, a3, a4⟩ := h.atS (P := Try.prog) (I := 3) hi (f := 0) (by omega) (c := .int .i64 zs[i * 3]) (by simp [h0]) Try.underlying32 tsize39 foff39_0 aggT3
  obtain ⟨p', q1, b1, b2, b3, b4⟩ := h.atS (P := Try.prog) (I := 3) hi (f := 1) (by omega) (c := .int .i64 zs[i * 3 + 1]) (by simp [h1]) Try.underlying32 tsize39 foff39_1 aggT3
  obtain ⟨p'', q2, c1, c2, c3, c4⟩ := h.atS (P := Try.prog) (I := 3) hi (f := 2) (by omega) (c := .int .i64 zs[i * 3 + 2]) (by simp [h2]) Try.underlying32 tsize39 foff39_2 aggT3
  have e1 : p = p' := by have := (a1 .i64).symm.trans (b1 .i64); simpa using this
  have e2 : p = p'' := by have := (a1 .i64).symm.trans (c1 .i64); simpa using this
  subst e1 e2
  exact ⟨p, q0, q1, q2, h0, h1, h2, a1, a2, b2, c2, a3, b3, c3, a4, b4, c4⟩

theorem len32 {g : Heap} {v : Value} {m len : Nat} {cs : List Value} (h : Src g v m len cs) : stepLen Try.prog 32 v = some { v := .int .i64 len } := h.len Try.underlying32

theorem sure_step {r tot : Nat} (ht : 1 ≤ tot) (ht2 : tot ≤ 2) (h1 : 2 ^ 32 - 2 ≤ r) (h2 : r < 2 ^ 32) : PutOk r 0 tot tot ∧ putN (all4 [] 0) r 0 tot tot = [0, 0, 0, 0] ∧ 2 ^ 32 - 2 ≤ putR r tot tot ∧ putR r tot tot < 2 ^ 32 := by
  have ok : PutOk r 0 tot tot := ⟨by omega, h2, by omega, ht, by omega⟩
  have h3 : 2 ^ 32 - 2 ≤ r / tot * tot ∧ r / tot * tot ≤ r := by
    have : tot = 1 ∨ tot = 2 := by omega
    rcases this with rfl | rfl <;> omega
  have h4 : sh (r / tot * tot) = 0 := by unfold sh; rw [if_neg (by omega), if_neg (by omega)]
  refine ⟨ok, ?_, ?_, ?_⟩
  · rw [putN, h4, Nat.mul_zero, addN_zero (by decide)]; decide
  · rw [putR, h4, Nat.pow_zero, Nat.mul_one]; omega
  · rw [putR, h4, Nat.pow_zero, Nat.mul_one]; omega

set_option maxRecDepth 10000 in
theorem lawCSure_spec (x y : Int) (g : Heap) : FnSpec Try.prog 9 [.int .i64 x, .int .i64 y] g { v := .bool true } := by
  refine spec_of_body [4] follows Try.func9 rfl (by kernel_rfl) (by simp [Try.f9]) (by kernel_rfl) rfl ?_
  intro g2 s2 n hg hfr hs hn hwf hsv
  refine s_run (by simp only [runL, awant_none, astep, evl, put, ap_none, List.length_nil, Nat.add_zero, undef] <;> rfl) ?_
  by_cases ea1 : x < 0
  · have ed1 : (decide (x < 0)) = true := decide_eq_true ea1
    refine w_assoc (s_run (by simp only [runL, awant_some, Option.getD_some, List.getElem?_toArray, List.getElem?_cons_succ, List.getElem?_cons_zero, Option.bind_some, b_tf, awant_none, astep, evl, put, ap_none, List.length_nil, Nat.add_zero, upd_app, stepBin, abin, stepPick, reduceCtorEq, ↓reduceIte, Nat.reduceEqDiff, undef, ed1] <;> rfl) ?_)
    refine s_true (by simp [evl]) (w_assoc (s_run (by simp only [runL, awant_none, astep, evl, put, ap_none, List.length_nil, Nat.add_zero] <;> rfl) ?_))
    refine s_ret ⟨.inr rfl, by simp, [], fin_none ?_ trivial (fun _ _ h => h)⟩
    simp [resVal]
  have ed1 : (decide (x < 0)) = false := decide_eq_false ea1
  by_cases ea2 : x > 20
  · have ed2 : (decide (x > 20)) = true := decide_eq_true ea2
    refine w_assoc (s_run (by simp only [runL, awant_some, Option.getD_some, List.getElem?_toArray, List.getElem?_cons_succ, List.getElem?_cons_zero, Option.bind_some, b_tf, b_ff, awant_none, astep, evl, put, ap_none, List.length_nil, Nat.add_zero, upd_app, stepBin, abin, stepPick, reduceCtorEq, ↓reduceIte, Nat.reduceEqDiff, Bool.false_eq_true, undef, ed1, ed2] <;> rfl) ?_)
    refine s_true (by simp [evl]) (w_assoc (s_run (by simp only [runL, awant_none, astep, evl, put, ap_none, List.length_nil, Nat.add_zero] <;> rfl) ?_))
    refine s_ret ⟨.inr rfl, by simp, [], fin_none ?_ trivial (fun _ _ h => h)⟩
    simp [resVal]
  have ed2 : (decide (x > 20)) = false := decide_eq_false ea2
  by_cases ea3 : y < 1
  · have ed3 : (decide (y < 1)) = true := decide_eq_true ea3
    refine w_assoc (s_run (by simp only [runL, awant_some, Option.getD_some, List.getElem?_toArray, List.getElem?_cons_succ, List.getElem?_cons_zero, Option.bind_some, b_tf, b_ff, awant_none, astep, evl, put, ap_none, List.length_nil, Nat.add_zero, upd_app, stepBin, abin, stepPick, reduceCtorEq, ↓reduceIte, Nat.reduceEqDiff, Bool.false_eq_true, undef, ed1, ed2, ed3] <;> rfl) ?_)
    refine s_true (by simp [evl]) (w_assoc (s_run (by simp only [runL, awant_none, astep, evl, put, ap_none, List.length_nil, Nat.add_zero] <;> rfl) ?_))
    refine s_ret ⟨.inr rfl, by simp, [], fin_none ?_ trivial (fun _ _ h => h)⟩
    simp [resVal]
  have ed3 : (decide (y < 1)) = false := decide_eq_false ea3
  by_cases ea4 : y > 2
  · have ed4 : (decide (y > 2)) = true := decide_eq_true ea4
    refine w_assoc (s_run (by simp only [runL, awant_some, Option.getD_some, List.getElem?_toArray, List.getElem?_cons_succ, List.getElem?_cons_zero, Option.bind_some, b_ff, awant_none, astep, evl, put, ap_none, List.length_nil, Nat.add_zero, upd_app, stepBin, abin, stepPick, reduceCtorEq, ↓reduceIte, Nat.reduceEqDiff, Bool.false_eq_true, ed1, ed2, ed3, ed4] <;> rfl) ?_)
    refine s_true (by simp [evl]) (w_assoc (s_run (by simp only [runL, awant_none, astep, evl, put, ap_none, List.length_nil, Nat.add_zero] <;> rfl) ?_))
    refine s_ret ⟨.inr rfl, by simp, [], fin_none ?_ trivial (fun _ _ h => h)⟩
    simp [resVal]
  have ed4 : (decide (y > 2)) = false := decide_eq_false ea4
  refine w_assoc (s_run (by simp only [runL, awant_some, Option.getD_some, List.getElem?_toArray, List.getElem?_cons_succ, List.getElem?_cons_zero, Option.bind_some, b_ff, awant_none, astep, evl, put, ap_none, List.length_nil, Nat.add_zero, upd_app, stepBin, abin, stepPick, reduceCtorEq, ↓reduceIte, Nat.reduceEqDiff, Bool.false_eq_true, ed1, ed2, ed3, ed4] <;> rfl) ?_)
  refine s_false (by simp [evl]) (s_skip ?_)
  obtain ⟨k, rfl⟩ : ∃ k : Nat, x = k := ⟨x.toNat, by omega⟩
  obtain ⟨tot, rfl⟩ : ∃ k : Nat, y = k := ⟨y.toNat, by omega⟩
  refine w_gen (fun t => t 0 = .int .i64 k ∧ t 1 = .int .i64 tot) (by simp [upd_app]) ?_
  rintro t ⟨t0, t1⟩
  refine s_take 0 rfl ?_
  refine ops_call 31 _ rfl (newW_spec g2 n) (by intro _; rfl) (ops_heap fun G1 hG1 => ?_)
  have W1 : Wr n none [] 0 4294967295 G1 := by rw [hG1]; exact newWE_ap n g2
  have k1 : Kp n g2 G1 := by rw [hG1]; exact kp_ap (Kp.refl _ _) rfl (fun _ => Nat.le_refl _)
  refine ops_run (by simp only [runL, awant_none, astep, evl, put, ap_none, List.length_nil, Nat.add_zero, upd_app, ↓reduceIte, newWE_v] <;> rfl) ?_
  refine w_gen (fun t => t 0 = .int .i64 k ∧ t 1 = .int .i64 tot ∧ t 5 = ptr3 n) (by simp [upd_app, t0, t1]) ?_
  clear t0 t1
  rintro t ⟨t0, t1, t5⟩
  refine w_assoc (s_run (by simp only [runL, awant_none, astep, evl, put, ap_none, List.length_nil, Nat.add_zero, upd_app, stepBin, abin, ↓reduceIte, t5, Try.underlying33, Option.isNone_some] <;> rfl) ?_)
  refine s_false (by simp [evl]) (s_skip ?_)
  refine w_assoc (s_run (by simp only [runL, awant_none, astep, evl, put, ap_none, List.length_nil, Nat.add_zero] <;> rfl) ?_)
  refine s_for 0 k (fun i t g n' => t 0 = .int .i64 k ∧ t 1 = .int .i64 tot ∧ t 5 = ptr3 n ∧ n + 1 ≤ n' ∧ ∃ r, Wr n none [] 0 r g ∧ 2 ^ 32 - 2 ≤ r ∧ r < 2 ^ 32 ∧ Kp n g2 g) (by omega) (by omega) (by simp []) ⟨by simp [upd_app, t0], by simp [upd_app, t1], by simp [upd_app, t5], Nat.le_refl _, 4294967295, W1, by omega, by omega, k1⟩ ?_ ?_ ?_
  · clear t0 t1 t5
    rintro i t g m hi t6 ⟨t0, t1, t5, hn', r, hW, h1, h2, hkp⟩
    have dl : decide ((i : Int) < (k : Int)) = decide (i < k) := by simp
    exact ⟨_, (by simp only [runL, awant_none, astep, evl, put, ap_none, List.length_nil, Nat.add_zero, upd_app, stepBin, abin, reduceCtorEq, ↓reduceIte, Nat.reduceEqDiff, t6, t0, dl] <;> rfl), by simp [], by simp [upd_app, t6], by simp [upd_app, t0], by simp [upd_app, t1], by simp [upd_app, t5], hn', r, hW, h1, h2, hkp⟩
  · clear t0 t1 t5
    rintro i t g m hi t6 ⟨t0, t1, t5, hn', r, hW, h1, h2, hkp⟩
    obtain ⟨ok, e1, e2, e3⟩ := sure_step (r := r) (tot := tot) (by omega) (by omega) h1 h2
    have hP : FnSpec Try.prog 33 [ptr3 n, .int .i64 0, .int .i64 tot, .int .i64 tot] g (putE n none [0, 0, 0, 0] (putR r tot tot) m) := by
      have := put_yes n none [] 0 r 0 tot tot g m hW (by simp) (by omega) ok (by simp)
      rw [e1] at this; exact this
    obtain ⟨a1, a2, _⟩ := putE_ap (N := [0, 0, 0, 0]) (r' := putR r tot tot) (j := m) hW (by omega) (by simp)
    have hm0 : (putE n none [0, 0, 0, 0] (putR r tot tot) m).a = [] := by simp [putE]
    refine s_take 3 (by simp only [runL, List.take_succ_cons, List.take_zero, awant_none, astep, evl, put, ap_none, List.length_nil, Nat.add_zero, upd_app, ↓reduceIte, Nat.reduceEqDiff, t1, t5] <;> rfl) ?_
    refine ops_call 33 _ rfl hP (fun h => (h hm0).elim) (ops_heap fun G2 hG2 => ops_num fun N2 hN2 => ?_)
    rw [← hG2] at a1 a2
    refine ops_run (by simp only [runL, Bool.not_true, awant_none, astep, evl, put, ap_none, List.length_nil, Nat.add_zero, upd_app, stepUn, ↓reduceIte, putE_v] <;> rfl) ?_
    refine w_false (by simp [evl]) (w_skip ?_)
    simp only [rangePost]
    refine ⟨by simp [upd_app, t6], fun _ _ _ => ⟨by simp [upd_app, t0], by simp [upd_app, t1], by simp [upd_app, t5], by show n + 1 ≤ N2; rw [hN2, hm0]; simpa using hn', putR r tot tot, a1, e2, e3, fun i hi => ?_⟩⟩
    show G2 i = g2 i
    rw [a2 i (by omega) (by omega) (by simp), hkp i hi]
  · clear t0 t1 t5
    rintro t g m ⟨t0, t1, t5, hn', r, hW, h1, h2, hkp⟩
    refine s_take 1 (by simp only [runL, List.take_succ_cons, List.take_zero, awant_none, astep, evl, put, ap_none, List.length_nil, Nat.add_zero, t5] <;> rfl) ?_
    refine ops_call 35 _ rfl (end_spec n none [] 0 r g m hW (by omega) (by simp)) (by intro _; rfl) (ops_heap fun G2 hG2 => ?_)
    have b2 : G2 m = some ⟨false, 5, bs [0, 0, 0, 0]⟩ := by rw [hG2]; simp [endE, Eff.ap, setAll, addAll, all4, tob]
    have k2 : Kp n g2 G2 := by rw [hG2]; exact kp_ap hkp rfl (fun _ => by show n ≤ m; omega)
    obtain ⟨r1, x1, _⟩ := src_str (src_bs (m := 4) b2 rfl)
    have x1 : stepConv Try.prog 24 9 (endE n none (all4 [] 0) m).v G2 = some { v := .string (nstr [0, 0, 0, 0]), r := r1 } := x1
    have hs1 : ((nstr [0, 0, 0, 0]).toList == (ByteArray.mk #[0, 0, 0, 0]).toList) = true := by decide +kernel
    refine ops_take 3 (by simp only [runL, List.take_succ_cons, List.take_zero, awant_none, astep, evl, put, ap_none, List.length_nil, Nat.add_zero, upd_app, stepBin, abin, ↓reduceIte, x1, hs1] <;> rfl) ?_
    refine g_call 36 _ (by simp only [awant_some, List.getElem?_toArray, List.getElem?_cons_succ, List.getElem?_cons_zero, Option.bind_some, b_tt, upd_app, ↓reduceIte] <;> rfl) rfl (cknown_spec _) (by simp) ?_
    refine ops_run (by simp only [runL, awant_none, astep, evl, put, ap_none, List.length_nil, Nat.add_zero, upd_app, stepPick, ↓reduceIte, Nat.reduceEqDiff] <;> rfl) ?_
    exact w_ret ⟨.inr rfl, by simp, [], fin_plain hs hwf k2 (by simp [resVal]) trivial⟩
end Go.Proofs.Ytahinegnblankaa
