import Derived.Test.YtahinegnblankaaP21
namespace Go.Proofs.Ytahinegnblankaa
open Go Abs
set_option linter.unusedSimpArgs false
set_option linter.unusedVariables false

abbrev ones (k : Nat) : List Nat := List.replicate k 1
theorem ones_sum (k : Nat) : (ones k).sum = k := by simp
theorem ones_len (k : Nat) : (ones k).length = k := by simp

theorem binf87 : binf Try.prog 87 = some (#[(0, 1), (1, 1)].toList, [.slice none 0 0, .int .i64 0]) := by kernel_rfl
theorem binf89 : binf Try.prog 89 = some (#[(0, 1)].toList, [.slice none 0 0]) := by kernel_rfl

theorem mk87 (a : Addr) (m e : Nat) (x : Int) : stepBuild Try.prog 87 [(1, .int .i64 x), (0, .slice (some a) m e)] = some { v := .agg #[.slice (some a) m e, .int .i64 x] } := by
  simp [stepBuild, binf87, fillL, Value.cells, isTup, putAll]
theorem mk89 : stepBuild Try.prog 89 [] = some { v := .agg #[.slice none 0 0] } := by
  simp [stepBuild, binf89, fillL]

def newME (k j : Nat) : Eff := { v := ptr2 (j + 1), j := j, a := [moQ (ones k), moP j (ones k)] }
abbrev roP (q : Nat) (c : List Nat) : Blk := ⟨false, 89, [.slice (some ⟨q, 0, some c.length⟩) c.length 1]⟩
def newRE (k j : Nat) : Eff := { v := ptr1 j, j := j, a := [roP (j + 1) (ones k), moQ (ones k)] }

theorem newME_ap (k j : Nat) (g : Heap) : Mo (j + 1) j (ones k) ((newME k j).ap g) := ⟨by simp [newME, Eff.ap, setAll, addAll], by simp [newME, Eff.ap, setAll, addAll, upd_app]⟩
theorem newRE_ap (k j : Nat) (g : Heap) : Ro j (j + 1) (ones k) ((newRE k j).ap g) := ⟨by simp [newRE, Eff.ap, setAll, addAll, upd_app], by simp [newRE, Eff.ap, setAll, addAll]⟩
theorem newME_kp {k j n : Nat} {g g' : Heap} (h : Kp n g g') (hn : n ≤ j) : Kp n g ((newME k j).ap g') := kp_ap h rfl (fun _ => hn)
theorem newRE_kp {k j n : Nat} {g g' : Heap} (h : Kp n g g') (hn : n ≤ j) : Kp n g ((newRE k j).ap g') := kp_ap h rfl (fun _ => hn)

set_option maxRecDepth 10000 in
theorem new_no (x : Int) (g : Heap) (hx : x < 1 ∨ x > 1000) : FnSpec Try.prog 41 [.int .i64 x] g { v := .pointer none } := by
  refine spec_of_body [2] follows Try.func41 rfl (by kernel_rfl) (by simp [Try.f41]) (by kernel_rfl) rfl ?_
  intro g2 s2 n hg hfr hs' hn hwf hsv
  refine s_run (by simp only [runL, awant_none, astep, evl, put, ap_none, List.length_nil, Nat.add_zero, undef] <;> rfl) ?_
  by_cases h1 : x < 1
  · have d1 : decide (x < 1) = true := decide_eq_true h1
    refine w_assoc (s_run (by simp only [runL, awant_some, Option.getD_some, List.getElem?_toArray, List.getElem?_cons_succ, List.getElem?_cons_zero, Option.bind_some, b_tf, awant_none, astep, evl, put, ap_none, List.length_nil, Nat.add_zero, upd_app, stepBin, abin, stepPick, reduceCtorEq, ↓reduceIte, Nat.reduceEqDiff, undef, d1] <;> rfl) ?_)
    refine s_true (by simp [evl]) (w_assoc (s_run (by simp only [runL, awant_none, astep, evl, put, ap_none, List.length_nil, Nat.add_zero] <;> rfl) ?_))
    exact s_ret ⟨.inr rfl, by simp, [], fin_none (by simp [resVal]) trivial (fun _ _ h => h)⟩
  · have d1 : decide (x < 1) = false := decide_eq_false h1
    have d2 : decide (x > 1000) = true := decide_eq_true (by omega)
    refine w_assoc (s_run (by simp only [runL, awant_some, Option.getD_some, List.getElem?_toArray, List.getElem?_cons_succ, List.getElem?_cons_zero, Option.bind_some, b_ff, awant_none, astep, evl, put, ap_none, List.length_nil, Nat.add_zero, upd_app, stepBin, abin, stepPick, reduceCtorEq, ↓reduceIte, Nat.reduceEqDiff, Bool.false_eq_true, d1, d2] <;> rfl) ?_)
    refine s_true (by simp [evl]) (w_assoc (s_run (by simp only [runL, awant_none, astep, evl, put, ap_none, List.length_nil, Nat.add_zero] <;> rfl) ?_))
    exact s_ret ⟨.inr rfl, by simp, [], fin_none (by simp [resVal]) trivial (fun _ _ h => h)⟩

set_option maxRecDepth 10000 in
theorem new_yes (k : Nat) (g : Heap) (j : Nat) (h1 : 1 ≤ k) (h2 : k ≤ 1000) : FnSpec Try.prog 41 [.int .i64 k] g (newME k j) := by
  refine spec_of_body [2] follows Try.func41 rfl (by kernel_rfl) (by simp [Try.f41]) (by kernel_rfl) rfl ?_
  intro g2 s2 n hg hfr hs' hn hwf hsv
  refine s_run (by simp only [runL, awant_none, astep, evl, put, ap_none, List.length_nil, Nat.add_zero, undef] <;> rfl) ?_
  have d1 : decide ((k : Int) < 1) = false := decide_eq_false (by omega)
  have d2 : decide ((k : Int) > 1000) = false := decide_eq_false (by omega)
  refine w_assoc (s_run (by simp only [runL, awant_some, Option.getD_some, List.getElem?_toArray, List.getElem?_cons_succ, List.getElem?_cons_zero, Option.bind_some, b_ff, awant_none, astep, evl, put, ap_none, List.length_nil, Nat.add_zero, upd_app, stepBin, abin, stepPick, reduceCtorEq, ↓reduceIte, Nat.reduceEqDiff, Bool.false_eq_true, d1, d2] <;> rfl) ?_)
  refine s_false (by simp [evl]) (s_skip ?_)
  refine s_run (by simp only [runL, Option.getD_some, List.getElem?_cons_zero, awant_none, astep, evl, put, ap_none, ap_new, List.length_nil, List.length_cons, Nat.add_zero, Nat.zero_add, upd_app, reduceCtorEq, ↓reduceIte, Nat.reduceEqDiff, List.map_cons, List.map_nil, undef, mkInts k n (by omega), mk87, stepBox, isTup, Value.cells] <;> rfl) (w_heap fun G1 hG1 => ?_)
  have b1 : G1 n = some ⟨false, 3, ints (List.replicate k 0)⟩ := by rw [hG1]; simp [upd_app]
  have p1 : G1 (n + 1) = some ⟨false, 87, [.slice (some ⟨n, 0, some k⟩) k 1, .int .i64 k]⟩ := by rw [hG1]; simp []
  have k1 : Kp n g2 G1 := by rw [hG1]; exact kp_upd (kp_upd (Kp.refl _ _) (Nat.le_refl _)) (by omega)
  have ld1 : stepLoad Try.prog 22 (.pointer (some ⟨n + 1, 0, some 2⟩)) G1 = some { v := .slice (some ⟨n, 0, some k⟩) k 1, r := [n + 1] } := ld_at p1 rfl rfl aggT22
  refine w_gen (fun t => t 0 = .int .i64 k ∧ t 3 = ptr2 (n + 1)) (by simp [upd_app]) ?_
  rintro t ⟨t0, t3⟩
  refine w_assoc (s_run (by simp only [runL, awant_none, astep, evl, put, ap_none, List.length_nil, Nat.add_zero, upd_app, stepCall, ↓reduceIte, t3, nchk, fld87_0, ld1, len22] <;> rfl) ?_)
  refine s_rng k (fun i t g n' => t 3 = ptr2 (n + 1) ∧ g n = some ⟨false, 3, ints (ones i ++ List.replicate (k - i) 0)⟩ ∧ g (n + 1) = some ⟨false, 87, [.slice (some ⟨n, 0, some k⟩) k 1, .int .i64 k]⟩ ∧ Kp n g2 g) (by omega) (by simp []) (by simp [upd_app])
    (fun v => ⟨by simp [upd_app, t3], by simpa using b1, p1, k1⟩) (by decide) ?_ ?_
  · clear t0 t3
    rintro i t g n' hi t21 t20 ⟨t3, hb, hp, hkp⟩
    have hl : (ones i ++ List.replicate (k - i) 0).length = k := by simp; omega
    have ld2 : stepLoad Try.prog 22 (.pointer (some ⟨n + 1, 0, some 2⟩)) g = some { v := .slice (some ⟨n, 0, some k⟩) k 1, r := [n + 1] } := ld_at hp rfl rfl aggT22
    have hset : (ones i ++ List.replicate (k - i) 0).set i 1 = ones (i + 1) ++ List.replicate (k - (i + 1)) 0 := by
      rw [List.set_append_right _ _ (by simp), ones_len, Nat.sub_self, show k - i = (k - (i + 1)) + 1 by omega, List.replicate_succ, List.set_cons_zero, ones, ones, List.replicate_succ', List.append_assoc]
      rfl
    have st1 : stepStore Try.prog 3 (.pointer (some ⟨n, i, some k⟩)) (.int .i64 1) g = some { v := undef, r := [n], w := [(n, ⟨false, 3, ints (ones (i + 1) ++ List.replicate (k - (i + 1)) 0)⟩)] } := by
      have := stq (x := 1) hb (i := i) (by omega)
      rw [hset, hl] at this; exact this
    refine s_run (by simp only [runL, awant_none, astep, evl, put, ap_none, List.length_nil, Nat.add_zero, upd_app, ↓reduceIte, t21] <;> rfl) ?_
    refine region_run (id := 7) (by simp only [runL, awant_none, astep, evl, put, ap_none, ap_wr, List.length_nil, Nat.add_zero, upd_app, ↓reduceIte, Nat.reduceEqDiff, undef, t3, nchk, fld87_0, ld2, idx22 _ _ _ _ hi, st1] <;> rfl) ?_
    simp only [rangePost]
    refine ⟨by simp [upd_app, t21], by simp [upd_app, t20], fun _ _ _ => ⟨by simp [upd_app, t3], by simp [], by simp [upd_app, hp], kp_upd hkp (Nat.le_refl _)⟩⟩
  · clear t0 t3
    rintro t g n' ⟨t3, hb, hp, hkp⟩
    refine s_run (by simp only [runL, awant_none, astep, evl, put, ap_none, List.length_nil, Nat.add_zero, upd_app, ↓reduceIte, t3] <;> rfl) ?_
    refine w_ret ⟨.inr rfl, by simp, [n, n + 1], ?_⟩
    have hsv1 : SV1 (fun i => s2 i ∨ (j ≤ i ∧ i < j + 2)) (.slice (some ⟨j, 0, some (ones k).length⟩) (ones k).length 1) := .inr (.inr ⟨Nat.le_refl _, by simp⟩)
    refine fin_new2 ?_ ?_ (Nat.le_refl _) (by omega) (by omega) ?_ ?_ (fun x hx => SV1_plain (plain_is _ x hx)) (fun x hx => ?_) (fun i b hb => hkp.at (hs' i (hwf i b hb).1) hb)
    · simp [resVal, renT, renA, ren1]
    · exact .inr ⟨by simp, by simp⟩
    · rw [Nat.sub_self, List.replicate_zero, List.append_nil] at hb
      rw [renB_plain (plain_is _)]
      simpa only [if_true] using hb
    · rw [hp]; simp [renB, ren1]
    · simp only [List.mem_cons, List.not_mem_nil, or_false] at hx
      rcases hx with rfl | rfl
      · exact hsv1
      · trivial

theorem Own.keep2 {e : TypeId} {g g' : Heap} {v : Value} {l : List Value} {n n' n'' : Nat} (h : Own e g v l n n') (hk : ∀ i, n ≤ i → i < n' → g' i = g i) (hn : n' ≤ n'') : Own e g' v l n n'' := by
  obtain ⟨i, h, hi⟩ := h
  exact ⟨i, h.keep fun k hk' => hk k (hi k hk').1 (hi k hk').2.1, fun q hq => by have := hi q hq; omega⟩
theorem Own.plainV {e : TypeId} {g : Heap} {v : Value} {l : List Value} {n n' : Nat} (h : Own e g v l n n') : v.cells = #[v] ∧ isTup v = false := by
  obtain ⟨i, h, hi⟩ := h
  rcases h with ⟨_, rfl, _, _⟩ | ⟨k, _, rfl, _, _⟩ <;> exact ⟨rfl, rfl⟩

set_option maxRecDepth 10000 in
theorem rnew_no (x : Int) (g : Heap) (hx : x < 1 ∨ x > 1000) : FnSpec Try.prog 42 [.int .i64 x] g { v := .pointer none } := by
  refine spec_of_body [2] follows Try.func42 rfl (by kernel_rfl) (by simp [Try.f42]) (by kernel_rfl) rfl ?_
  intro g2 s2 n hg hfr hs' hn hwf hsv
  refine s_run (by simp only [runL, awant_none, astep, evl, put, ap_none, List.length_nil, Nat.add_zero, undef] <;> rfl) ?_
  by_cases h1 : x < 1
  · have d1 : decide (x < 1) = true := decide_eq_true h1
    refine w_assoc (s_run (by simp only [runL, awant_some, Option.getD_some, List.getElem?_toArray, List.getElem?_cons_succ, List.getElem?_cons_zero, Option.bind_some, b_tf, awant_none, astep, evl, put, ap_none, List.length_nil, Nat.add_zero, upd_app, stepBin, abin, stepPick, reduceCtorEq, ↓reduceIte, Nat.reduceEqDiff, undef, d1] <;> rfl) ?_)
    refine s_true (by simp [evl]) (w_assoc (s_run (by simp only [runL, awant_none, astep, evl, put, ap_none, List.length_nil, Nat.add_zero] <;> rfl) ?_))
    exact s_ret ⟨.inr rfl, by simp, [], fin_none (by simp [resVal]) trivial (fun _ _ h => h)⟩
  · have d1 : decide (x < 1) = false := decide_eq_false h1
    have d2 : decide (x > 1000) = true := decide_eq_true (by omega)
    refine w_assoc (s_run (by simp only [runL, awant_some, Option.getD_some, List.getElem?_toArray, List.getElem?_cons_succ, List.getElem?_cons_zero, Option.bind_some, b_ff, awant_none, astep, evl, put, ap_none, List.length_nil, Nat.add_zero, upd_app, stepBin, abin, stepPick, reduceCtorEq, ↓reduceIte, Nat.reduceEqDiff, Bool.false_eq_true, d1, d2] <;> rfl) ?_)
    refine s_true (by simp [evl]) (w_assoc (s_run (by simp only [runL, awant_none, astep, evl, put, ap_none, List.length_nil, Nat.add_zero] <;> rfl) ?_))
    exact s_ret ⟨.inr rfl, by simp, [], fin_none (by simp [resVal]) trivial (fun _ _ h => h)⟩

set_option maxRecDepth 10000 in
theorem rnew_yes (k : Nat) (g : Heap) (j : Nat) (h1 : 1 ≤ k) (h2 : k ≤ 1000) : FnSpec Try.prog 42 [.int .i64 k] g (newRE k j) := by
  refine spec_of_body [2] follows Try.func42 rfl (by kernel_rfl) (by simp [Try.f42]) (by kernel_rfl) rfl ?_
  intro g2 s2 n hg hfr hs' hn hwf hsv
  refine s_run (by simp only [runL, awant_none, astep, evl, put, ap_none, List.length_nil, Nat.add_zero, undef] <;> rfl) ?_
  have d1 : decide ((k : Int) < 1) = false := decide_eq_false (by omega)
  have d2 : decide ((k : Int) > 1000) = false := decide_eq_false (by omega)
  refine w_assoc (s_run (by simp only [runL, awant_some, Option.getD_some, List.getElem?_toArray, List.getElem?_cons_succ, List.getElem?_cons_zero, Option.bind_some, b_ff, awant_none, astep, evl, put, ap_none, List.length_nil, Nat.add_zero, upd_app, stepBin, abin, stepPick, reduceCtorEq, ↓reduceIte, Nat.reduceEqDiff, Bool.false_eq_true, d1, d2] <;> rfl) ?_)
  refine s_false (by simp [evl]) (s_skip ?_)
  refine s_run (by simp only [runL, awant_none, astep, evl, put, ap_none, ap_new, List.length_nil, List.length_cons, Nat.add_zero, Nat.zero_add, upd_app, ↓reduceIte, List.map_nil, undef, mk89, stepBox, isTup, Value.cells] <;> rfl) (w_heap fun G1 hG1 => ?_)
  have p1 : G1 n = some ⟨false, 89, [.slice none 0 0]⟩ := by rw [hG1]; simp []
  have k1 : Kp n g2 G1 := by rw [hG1]; exact kp_upd (Kp.refl _ _) (Nat.le_refl _)
  refine w_gen (fun t => t 0 = .int .i64 k ∧ t 3 = ptr1 n) (by simp [upd_app]) ?_
  rintro t ⟨t0, t3⟩
  refine w_assoc (s_run (by simp only [runL, awant_none, astep, evl, put, ap_none, List.length_nil, Nat.add_zero] <;> rfl) ?_)
  refine s_for 0 k (fun i t g n' => n + 1 ≤ n' ∧ t 0 = .int .i64 k ∧ t 3 = ptr1 n ∧ ∃ v, g n = some ⟨false, 89, [v]⟩ ∧ Own 3 g v (ints (ones i)) (n + 1) n' ∧ Kp n g2 g) (by omega) (by omega) (by simp []) ⟨Nat.le_refl _, by simp [upd_app, t0], by simp [upd_app, t3], _, p1, Own.nil 3 G1 _ _, k1⟩ ?_ ?_ ?_
  · clear t0 t3
    rintro i t g m hi t4 ⟨hm, t0, t3, v, hp, hO, hkp⟩
    have dl : decide ((i : Int) < (k : Int)) = decide (i < k) := by simp
    exact ⟨_, (by simp only [runL, awant_none, astep, evl, put, ap_none, List.length_nil, Nat.add_zero, upd_app, stepBin, abin, reduceCtorEq, ↓reduceIte, Nat.reduceEqDiff, t4, t0, dl] <;> rfl), by simp [], by simp [upd_app, t4], hm, by simp [upd_app, t0], by simp [upd_app, t3], v, hp, hO, hkp⟩
  · clear t0 t3
    rintro i t g m hi t4 ⟨hm, t0, t3, v, hp, hO, hkp⟩
    have ld1 : stepLoad Try.prog 22 (.pointer (some ⟨n, 0, some 1⟩)) g = some { v := v, r := [n] } := ld_at hp rfl rfl aggT22
    obtain ⟨f, hf, hO', hk'⟩ := hO.push (P := Try.prog) (T := 22) (c := .int .i64 1) Try.underlying22 tinf3 (by simp; omega) (by omega) hm
    have e1 : ints (ones i) ++ [Value.int .i64 1] = ints (ones (i + 1)) := by
      rw [show [Value.int .i64 1] = ints [1] from rfl, ints_app, ones, ones, List.replicate_succ']
    rw [e1] at hO'
    obtain ⟨c1, c2⟩ := hO'.plainV
    refine region_take (id := 7) 7 (by simp only [runL, List.take_succ_cons, List.take_zero, awant_none, astep, evl, put, ap_none, ap_new, List.length_nil, List.length_cons, Nat.add_zero, Nat.zero_add, upd_app, stepCall, ↓reduceIte, Nat.reduceEqDiff, List.map_cons, List.map_nil, undef, t3, nchk, fld89_0, ld1, lit22_1, hf] <;> rfl) ?_
    refine ops_heap fun G2 hG2 => ?_
    rw [← hG2] at hO' hk'
    have p2 : G2 n = some ⟨false, 89, [v]⟩ := by rw [hk' n (by omega)]; exact hp
    have k2 : Kp n g2 G2 := hkp.trans hk' (by omega)
    have st1 : stepStore Try.prog 22 (.pointer (some ⟨n, 0, some 1⟩)) f.v G2 = some { v := undef, r := [n], w := [(n, ⟨false, 89, [f.v]⟩)] } := st_at (s := some 1) (d := undef) p2 rfl (by simp) tsize22 c1 c2
    refine ops_run (by simp only [runL, List.drop_succ_cons, List.drop_zero, awant_none, astep, evl, put, ap_none, ap_wr, List.length_nil, Nat.add_zero, upd_app, ↓reduceIte, Nat.reduceEqDiff, undef, nchk, fld89_0, st1] <;> rfl) ?_
    simp only [rangePost]
    refine ⟨by simp [upd_app, t4], fun _ _ _ => ⟨by omega, by simp [upd_app, t0], by simp [upd_app, t3], f.v, by simp [], hO'.keep2 (fun q h1 h2 => by simp [upd_app]; omega) (by omega), kp_upd k2 (Nat.le_refl _)⟩⟩
  · clear t0 t3
    rintro t g m ⟨hm, t0, t3, v, hp, hO, hkp⟩
    refine s_run (by simp only [runL, awant_none, astep, evl, put, ap_none, List.length_nil, Nat.add_zero, upd_app, ↓reduceIte, t3] <;> rfl) ?_
    obtain ⟨i, hO, hi⟩ := hO
    rcases hO with ⟨_, _, h0, _⟩ | ⟨q, rfl, rfl, hq, hl⟩
    · simp at h0; omega
    · have hq1 := (hi q rfl).1
      refine w_ret ⟨.inr rfl, by simp, [n, q], ?_⟩
      refine fin_new2 ?_ ?_ (Nat.le_refl _) (by omega) (by omega) ?_ ?_ (fun x hx => ?_) (fun x hx => SV1_plain (plain_is _ x hx)) (fun i b hb => hkp.at (hs' i (hwf i b hb).1) hb)
      · simp [resVal, renT, renA, ren1]
      · exact .inr ⟨by simp, by simp⟩
      · rw [hp]; simp [renB, ren1]
      · rw [renB_plain (plain_is _)]
        exact hq
      · simp only [List.mem_cons, List.not_mem_nil, or_false] at hx
        subst hx
        exact .inr (.inr ⟨by simp, by simp⟩)
end Go.Proofs.Ytahinegnblankaa
