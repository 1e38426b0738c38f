import Derived.Test.YtahinegnblankaaP3
namespace Go.Proofs.Ytahinegnblankaa
open Go Abs
set_option linter.unusedSimpArgs false
set_option linter.unusedVariables false

set_option maxRecDepth 10000 in
/-- Two rows of ints, compared. -/
theorem ints_spec (v w : Value) (l m : List Int) (g : Heap) (hl : l.length ≤ 2 ^ 40) (hm : m.length ≤ 2 ^ 40) (hv : Src g v 1 l.length (l.map (Value.int .i64))) (hw : Src g w 1 m.length (m.map (Value.int .i64))) :
    FnSpec Try.prog 38 [v, w] g { v := .bool (decide (l = m)), r := srcBlk v ++ srcBlk w } := by
  refine spec_of_body [4] follows Try.func38 rfl (by kernel_rfl) (by simp [Try.f38]) (by kernel_rfl) rfl ?_
  intro g2 s2 n hg hfr hs hn hwf hsv
  have hv2 : Src g2 v 1 l.length (l.map (Value.int .i64)) := hv.congr fun i hi => hg i (by simp [Eff.fp, hi])
  have hw2 : Src g2 w 1 m.length (m.map (Value.int .i64)) := hw.congr fun i hi => hg i (by simp [Eff.fp, hi])
  have hlen := hv2.len Try.underlying22
  have hlen' := hw2.len Try.underlying22
  refine s_run (by simp only [runL, awant_none, astep, evl, put, ap_none, List.length_nil, Nat.add_zero, undef] <;> rfl) ?_
  by_cases h0 : l.length = m.length
  · have d : ((l.length : Int) != (m.length : Int)) = false := by simp [h0]
    refine w_assoc (s_run (by simp only [runL, Option.getD_some, List.getElem?_cons_succ, List.getElem?_cons_zero, awant_none, astep, evl, put, ap_none, List.length_nil, Nat.add_zero, upd_app, stepBin, abin, stepCall, reduceCtorEq, ↓reduceIte, Nat.reduceEqDiff, hlen, hlen', d] <;> rfl) ?_)
    refine s_false (by simp [evl]) (s_skip ?_)
    refine w_assoc (s_run (by simp only [runL, awant_none, astep, evl, put, ap_none, List.length_nil, Nat.add_zero] <;> rfl) ?_)
    refine s_block (fun t g n' => l = m ∧ g2 = g) ?_ ?_
    · refine w_loop (fun t g n' => ∃ i : Nat, i ≤ l.length ∧ t 0 = v ∧ t 1 = w ∧ t 5 = .int .i64 i ∧ l.take i = m.take i ∧ g2 = g)
        (fun t _ _ => match t 5 with | .int _ i => l.length - i.toNat | _ => 0) ⟨0, by omega, by simp [upd_app], by simp [upd_app], by simp [], by simp, rfl⟩ ?_
      rintro t g n' ⟨i, hi, t0, t1, t5, heq, rfl⟩
      by_cases hlt : i < l.length
      · have d : decide ((i : Int) < (l.length : Int)) = true := by simp; exact hlt
        refine w_assoc (s_run (by simp only [runL, awant_none, astep, evl, put, ap_none, List.length_nil, Nat.add_zero, upd_app, stepBin, abin, stepCall, reduceCtorEq, ↓reduceIte, Nat.reduceEqDiff, t0, t5, hlen, d] <;> rfl) ?_)
        refine s_true (by simp [evl]) (s_skip (w_seq (w_block ?_)))
        have hlm : i < m.length := by omega
        obtain ⟨p, hp1, hp2, _⟩ := hv2.at1 (P := Try.prog) (i := i) (c := .int .i64 l[i]) (by simp [hlt]) Try.underlying22 tsize3 aggT3
        obtain ⟨q, hq1, hq2, _⟩ := hw2.at1 (P := Try.prog) (i := i) (c := .int .i64 m[i]) (by simp [hlm]) Try.underlying22 tsize3 aggT3
        have w2 : IntKind.i64.wrap ((i : Int) + 1) = ((i + 1 : Nat) : Int) := by rw [wrap64_of (by omega) (by omega)]; simp
        by_cases he : l[i] = m[i]
        · have d1 : (l[i] != m[i]) = false := by simp [he]
          refine s_draw #[0, 0, 3, 7, 0, 0, 48, 112, 255] (by decide +kernel) (by simp only [runR, awant_none, astep, evl, put, upd_app, stepBin, abin, reduceCtorEq, ↓reduceIte, Nat.reduceEqDiff, List.isEmpty_nil, Bool.and_self, t0, t1, t5, hp1, hp2, hq1, hq2, d1] <;> rfl) ?_
          refine w_false (by simp [evl]) (w_skip ?_)
          refine region_run (id := 5) (by simp only [runL, awant_none, astep, evl, put, ap_none, List.length_nil, Nat.add_zero, upd_app, stepBin, abin, ↓reduceIte, Nat.reduceEqDiff, t5, w2] <;> rfl) ?_
          refine ⟨⟨i + 1, by omega, by simp [upd_app, t0], by simp [upd_app, t1], by simp [], ?_, rfl⟩, ?_⟩
          · rw [List.take_succ_eq_append_getElem hlt, List.take_succ_eq_append_getElem hlm, heq, he]
          · rw [t5]
            simp only [upd_app, if_true, Int.toNat_natCast]
            omega
        · have d1 : (l[i] != m[i]) = true := by simp [he]
          refine s_draw #[0, 0, 3, 7, 0, 0, 48, 112, 255] (by decide +kernel) (by simp only [runR, awant_none, astep, evl, put, upd_app, stepBin, abin, reduceCtorEq, ↓reduceIte, Nat.reduceEqDiff, List.isEmpty_nil, Bool.and_self, t0, t1, t5, hp1, hp2, hq1, hq2, d1] <;> rfl) ?_
          refine w_true (by simp [evl]) ?_
          refine s_run (by simp only [runL, awant_none, astep, evl, put, ap_none, List.length_nil, Nat.add_zero] <;> rfl) ?_
          refine w_ret ⟨.inr rfl, by simp, [], fin_none ?_ trivial (fun _ _ h => h)⟩
          have : l ≠ m := fun e => he (by subst e; rfl)
          simp [resVal, this]
      · have d : decide ((i : Int) < (l.length : Int)) = false := by simp; omega
        refine w_assoc (s_run (by simp only [runL, awant_none, astep, evl, put, ap_none, List.length_nil, Nat.add_zero, upd_app, stepBin, abin, stepCall, reduceCtorEq, ↓reduceIte, Nat.reduceEqDiff, t0, t5, hlen, d] <;> rfl) ?_)
        refine s_false (by simp [evl]) (s_exit ?_)
        refine ⟨?_, rfl⟩
        rwa [List.take_of_length_le (by omega), List.take_of_length_le (by omega)] at heq
    · rintro t g n' ⟨h1, rfl⟩
      refine s_run (by simp only [runL, awant_none, astep, evl, put, ap_none, List.length_nil, Nat.add_zero] <;> rfl) ?_
      refine w_ret ⟨.inr rfl, by simp, [], fin_none ?_ trivial (fun _ _ h => h)⟩
      simp [resVal, h1]
  · have d : ((l.length : Int) != (m.length : Int)) = true := by simp; omega
    refine w_assoc (s_run (by simp only [runL, Option.getD_some, List.getElem?_cons_succ, List.getElem?_cons_zero, awant_none, astep, evl, put, ap_none, List.length_nil, Nat.add_zero, upd_app, stepBin, abin, stepCall, reduceCtorEq, ↓reduceIte, Nat.reduceEqDiff, hlen, hlen', d] <;> rfl) ?_)
    refine s_true (by simp [evl]) (w_assoc (s_run (by simp only [runL, awant_none, astep, evl, put, ap_none, List.length_nil, Nat.add_zero] <;> rfl) ?_))
    refine s_ret ⟨.inr rfl, by simp, [], fin_none ?_ trivial (fun _ _ h => h)⟩
    have : l ≠ m := fun e => h0 (by rw [e])
    simp [resVal, this]
def isNil : Value → Bool
  | .slice none _ _ => true
  | _ => false

/-- The copy of bytes: nil of nil. -/
def cloneE (v : Value) (l : List Nat) (j : Nat) : Eff :=
  if isNil v then { v := .slice none 0 0, r := srcBlk v, j := j } else { v := .slice (some ⟨j, 0, some l.length⟩) l.length 1, r := srcBlk v, j := j, a := [⟨false, 5, bs l⟩] }

theorem nil_cmp {g : Heap} {v : Value} {m : Nat} {cs : List Value} (h : Src g v 1 m cs) : stepBin Try.prog .eql 24 v (.slice none 0 0) = some { v := .bool (isNil v) } := by
  rcases h with ⟨rfl, _, _⟩ | ⟨a, rfl, _, _⟩ | ⟨a, b, rfl, _⟩ <;> simp [stepBin, abin, Try.underlying24, isNil]

set_option maxRecDepth 10000 in
theorem clone_spec (v : Value) (l : List Nat) (g : Heap) (j : Nat) (hl : l.length ≤ 2 ^ 40) (hv : Src g v 1 l.length (bs l)) : FnSpec Try.prog 76 [v] g (cloneE v l j) := by
  refine spec_of_body [2] follows Try.func76 rfl (by kernel_rfl) (by simp [Try.f76]) (by kernel_rfl) rfl ?_
  intro g2 s2 n hg hfr hs hn hwf hsv
  have hv2 : Src g2 v 1 l.length (bs l) := hv.congr fun i hi => hg i (by
    unfold cloneE
    split <;> simp [Eff.fp, hi])
  have hcmp := nil_cmp hv2
  refine s_run (by simp only [runL, awant_none, astep, evl, put, ap_none, List.length_nil, Nat.add_zero, undef] <;> rfl) ?_
  have hdom : ∀ i ∈ srcBlk v, i < n := fun i hi => by
    obtain ⟨b, hb⟩ := Option.isSome_iff_exists.1 (hv2.dom i hi)
    exact hs i (hwf i b hb).1
  by_cases h0 : isNil v = true
  · have e : cloneE v l j = { v := .slice none 0 0, r := srcBlk v, j := j } := by rw [cloneE, if_pos h0]
    rw [e]
    refine w_assoc (s_take 1 (by simp only [runL, Option.getD_some, List.getElem?_cons_zero, List.take_succ_cons, List.take_zero, awant_none, astep, evl, put, ap_none, List.length_nil, Nat.add_zero, upd_app, reduceCtorEq, ↓reduceIte] <;> rfl) ?_)
    refine ops_step _ hcmp rfl ?_
    refine s_true (by simp [evl, put, h0]) (w_assoc (s_run (by simp only [runL, awant_none, astep, evl, put, ap_none, List.length_nil, Nat.add_zero] <;> rfl) ?_))
    refine s_ret ⟨.inr rfl, by simp, [], fin_none ?_ trivial (fun _ _ h => h)⟩
    simp [resVal]
  · have e : cloneE v l j = { v := .slice (some ⟨j, 0, some l.length⟩) l.length 1, r := srcBlk v, j := j, a := [⟨false, 5, bs l⟩] } := by rw [cloneE, if_neg h0]
    rw [e]
    refine w_assoc (s_take 1 (by simp only [runL, Option.getD_some, List.getElem?_cons_zero, List.take_succ_cons, List.take_zero, awant_none, astep, evl, put, ap_none, List.length_nil, Nat.add_zero, upd_app, reduceCtorEq, ↓reduceIte] <;> rfl) ?_)
    refine ops_step _ hcmp rfl ?_
    refine s_false (by simp [evl, put, h0]) (s_skip ?_)
    refine w_gen (fun t => t 0 = v) (by simp [upd_app, put]) ?_
    intro t t0
    refine s_take 2 (by simp only [runL, List.take_succ_cons, List.take_zero, awant_none, astep, evl, put, ap_none, ap_new, List.length_nil, List.length_cons, Nat.add_zero, Nat.zero_add, upd_app, reduceCtorEq, ↓reduceIte, List.map_nil, undef, t0, lit24_0] <;> rfl) (ops_heap fun G hG => ?_)
    have e1 : ∀ k, k < n → G k = g2 k := fun k hk => by rw [hG]; simp [upd_app]; omega
    have hv3 : Src G v 1 l.length (bs l) := hv2.congr fun k hk => e1 k (hdom k hk)
    have o2 : OwnI 5 1 G (.slice (some ⟨n, 0, some 0⟩) 0 1) 0 [] (some n) := .inr ⟨n, rfl, rfl, by rw [hG]; simp [], rfl⟩
    obtain ⟨f3, i3, hf3, o3, hi3, hk3⟩ := own_append (P := Try.prog) (n := n + 1) (T := 24) o2 hv3.cells (by simp) Try.underlying24 tinf5 (by omega) (by omega) (by omega)
    rcases hi3 with ⟨rfl, ha3⟩ | ⟨h, _⟩
    case inr => cases h
    refine ops_step f3 (by simp only [astep, evl, upd_app, stepCall, ↓reduceIte, Nat.reduceEqDiff, hf3]) rfl (ops_heap fun G3 hG3 => ?_)
    rw [← hG3] at o3 hk3
    refine ops_run (by simp only [runL, awant_none, astep, evl, put, ap_none, List.length_nil, Nat.add_zero, upd_app, ↓reduceIte] <;> rfl) ?_
    rcases o3 with ⟨h, _⟩ | ⟨k3, h3, hv4, hg3, hl3⟩
    · cases h
    cases h3
    rw [List.nil_append] at hv4 hg3
    rw [Nat.zero_add] at hv4
    have hbl : (bs l).length = l.length := by simp
    refine w_ret ⟨.inr rfl, by simp, [n], ?_⟩
    have := fin_slice (s2 := s2) (g2 := g2) (n := n) (j := j) (r := srcBlk v) (k := n) (e := 5) (cs := bs l) (m := l.length) (esz := 1) (v' := f3.v) hv4 (Nat.le_refl _) hg3 plain_ints (fun i b hb => by
      have := hs i (hwf i b hb).1
      rw [hk3 i (by omega) (by simp; omega), e1 i this, hb])
    rw [hbl] at this
    simpa [resVal, upd_app, put] using this

set_option maxRecDepth 10000 in
theorem rtold_spec (m : Nat) (hm : m ≤ 2 ^ 39) (g : Heap) (j : Nat) : FnSpec Try.prog 77 [.int .i64 m] g (newE 3 (ints (told m)) [] j) := by
  refine spec_of_body [2] follows Try.func77 rfl (by kernel_rfl) (by simp [Try.f77]) (by kernel_rfl) rfl ?_
  intro g2 s2 n hg hfr hs hn hwf hsv
  refine s_run (by simp only [runL, awant_none, astep, evl, put, ap_none, List.length_nil, Nat.add_zero, undef] <;> rfl) ?_
  refine s_run (by simp only [runL, awant_none, astep, evl, put, ap_none, List.length_nil, Nat.add_zero] <;> rfl) ?_
  refine s_block (fun t g n' => Own 3 g (t 3) (ints (told m)) n n' ∧ Kp n g2 g) ?_ ?_
  · refine w_loop (fun t g n' => ∃ (u : Nat) (a : List Nat), a ++ told u = told m ∧ u ≤ m ∧ t 0 = .int .i64 u ∧ Own 3 g (t 3) (ints a) n n' ∧ Kp n g2 g ∧ n ≤ n')
      (fun t _ _ => match t 0 with | .int _ u => u.toNat | _ => 0) ⟨m, [], rfl, Nat.le_refl _, by simp [upd_app], Own.nil 3 g2 n n, Kp.refl _ _, Nat.le_refl _⟩ ?_
    rintro t g n' ⟨u, a, ha, hu, t0, hO, hk, hnn⟩
    have hal : a.length + (told u).length ≤ m := by rw [← List.length_append, ha]; exact told_len m
    by_cases h0 : u = 0
    · have d : decide ((u : Int) > 0) = false := by simp [h0]
      refine w_assoc (s_run (by simp only [runL, awant_none, astep, evl, put, ap_none, List.length_nil, Nat.add_zero, upd_app, stepBin, abin, ↓reduceIte, t0, d] <;> rfl) ?_)
      refine s_false (by simp [evl]) (s_exit ⟨?_, hk⟩)
      have hO' := hO
      rw [show a = told m by rw [← ha, h0, told_zero, List.append_nil]] at hO'
      simpa [upd_app] using hO'
    · have d : decide ((u : Int) > 0) = true := by simp; omega
      have w1 : ((u : Nat) : Int).tmod 2 = ((u % 2 : Nat) : Int) := rfl
      have w2 : IntKind.i64.wrap (2 - ((u % 2 : Nat) : Int)) = ((2 - u % 2 : Nat) : Int) := by rw [wrap64_of (by omega) (by omega)]; omega
      have w3 : IntKind.i64.wrap (((2 - u % 2 : Nat) : Int) - 1) = (((u - 1) % 2 : Nat) : Int) := by rw [wrap64_of (by omega) (by omega)]; omega
      have w4 : IntKind.i64.wrap ((u : Int) - ((2 - u % 2 : Nat) : Int)) = ((u - (2 - u % 2) : Nat) : Int) := by rw [wrap64_of (by omega) (by omega)]; omega
      have w5 : ((u - (2 - u % 2) : Nat) : Int).tdiv 2 = (((u - (2 - u % 2)) / 2 : Nat) : Int) := rfl
      have w6 : (u - (2 - u % 2)) / 2 = (u - 1) / 2 := by omega
      have w7 : IntKind.i64.wrap (((u - 1) / 2 : Nat) : Int) = (((u - 1) / 2 : Nat) : Int) := wrap_nat (by omega)
      rw [told_pos h0] at hal ha
      simp only [List.length_cons] at hal
      obtain ⟨f, hf, hO', hk'⟩ := hO.push (P := Try.prog) (T := 22) (c := .int .i64 (((u - 1) % 2 : Nat) : Int)) Try.underlying22 tinf3 (by simp; omega) (by omega) hnn
      refine w_assoc (s_run (by simp only [runL, awant_none, astep, evl, put, ap_none, List.length_nil, Nat.add_zero, upd_app, stepBin, abin, ↓reduceIte, t0, d] <;> rfl) ?_)
      refine s_true (by simp [evl]) (s_skip (w_block ?_))
      refine s_run (by simp only [runL, awant_none, astep, evl, put, ap_none, List.length_nil, Nat.add_zero, upd_app, stepBin, abin, reduceCtorEq, ↓reduceIte, ne_eq, not_false_eq_true, and_self, Int.reduceEq, t0, w1, w2] <;> rfl) ?_
      refine s_run (by simp only [runL, awant_none, astep, evl, put, ap_none, ap_new, List.length_nil, List.length_cons, Nat.add_zero, Nat.zero_add, upd_app, stepBin, abin, stepCall, ↓reduceIte, Nat.reduceEqDiff, List.map_cons, List.map_nil, undef, w3, lit22_1, hf] <;> rfl) ?_
      refine region_run (id := 5) (by simp only [runL, awant_none, astep, evl, put, ap_none, List.length_nil, Nat.add_zero, upd_app, stepBin, abin, reduceCtorEq, ↓reduceIte, Nat.reduceEqDiff, ne_eq, not_false_eq_true, and_self, Int.reduceEq, t0, w4, w5, w6, w7] <;> rfl) ?_
      refine ⟨⟨(u - 1) / 2, a ++ [(u - 1) % 2], by rw [← ha]; simp, by omega, by simp [], ?_, hk.trans hk' (Nat.le_refl _), by omega⟩, ?_⟩
      · rw [← ints_app]; simpa [upd_app] using hO'
      · rw [t0]; simp only [upd_app, if_true, Int.toNat_natCast]; omega
  · rintro t g n' ⟨hO, hk⟩
    refine s_run (by simp only [runL, awant_none, astep, evl, put, ap_none, List.length_nil, Nat.add_zero, upd_app, ↓reduceIte] <;> rfl) ?_
    refine w_ret ⟨.inr rfl, by simp, ?_⟩
    have := Own.fin (r := []) (j := j) hO (plain_is _) hs hwf hk
    simpa [resVal, upd_app] using this

set_option maxRecDepth 10000 in
theorem rtell_spec (v : Value) (l : List Nat) (g : Heap) (j : Nat) (hl : l.length ≤ 2 ^ 38) (hb : ∀ x ∈ l, x < 256) (hv : Src g v 1 l.length (bs l)) : FnSpec Try.prog 39 [v] g (newE 3 (ints (tell l 0)) (srcBlk v) j) := by
  refine spec_of_body [2] follows Try.func39 rfl (by kernel_rfl) (by simp [Try.f39]) (by kernel_rfl) rfl ?_
  intro g2 s2 n hg hfr hs hn hwf hsv
  have hv2 : Src g2 v 1 l.length (bs l) := hv.congr fun i hi => hg i (by rw [newE_fp]; exact hi)
  have hlen := hv2.len Try.underlying24
  have hdom : ∀ i ∈ srcBlk v, i < n := fun i hi => by
    obtain ⟨b, hb⟩ := Option.isSome_iff_exists.1 (hv2.dom i hi)
    exact hs i (hwf i b hb).1
  refine s_run (by simp only [runL, awant_none, astep, evl, put, ap_none, List.length_nil, Nat.add_zero, undef] <;> rfl) ?_
  refine s_run (by simp only [runL, awant_none, astep, evl, put, ap_none, List.length_nil, Nat.add_zero] <;> rfl) ?_
  refine s_run (by simp only [runL, awant_none, astep, evl, put, ap_none, List.length_nil, Nat.add_zero] <;> rfl) ?_
  refine w_assoc (s_run (by simp only [runL, awant_none, astep, evl, put, ap_none, List.length_nil, Nat.add_zero] <;> rfl) ?_)
  have hT := tell_len l 0
  refine s_for 0 l.length (fun k t g n' => ∃ (z : Nat) (a : List Nat), a ++ tell (l.drop k) z = tell l 0 ∧ z ≤ k ∧ t 0 = v ∧ t 4 = .int .i64 z ∧ Own 3 g (t 3) (ints a) n n' ∧ Kp n g2 g ∧ n ≤ n') (by omega) (by omega) (by simp [])
    ⟨0, [], by simp, by omega, by simp [upd_app], by simp [upd_app], by simp [upd_app]; exact Own.nil 3 g2 n n, Kp.refl _ _, Nat.le_refl _⟩ ?_ ?_ ?_
  · rintro k t g n' hk t5 ⟨z, a, ha, hz, t0, t4, hO, hkp, hnn⟩
    have d : decide ((k : Int) < (l.length : Int)) = decide (k < l.length) := by simp
    exact ⟨_, (by simp only [runL, awant_none, astep, evl, put, ap_none, List.length_nil, Nat.add_zero, upd_app, stepBin, abin, stepCall, reduceCtorEq, ↓reduceIte, Nat.reduceEqDiff, t5, t0, hlen, d] <;> rfl), by simp [], by simp [upd_app, t5], z, a, ha, hz, by simp [upd_app, t0], by simp [upd_app, t4], by simpa [upd_app] using hO, hkp, hnn⟩
  · rintro k t g n' hk t5 ⟨z, a, ha, hz, t0, t4, hO, hkp, hnn⟩
    have hvg := hkp.src hv2 hdom
    obtain ⟨p, i1, i2, i3⟩ := hvg.at1 (P := Try.prog) (i := k) (c := .int .u8 (byt l k)) (bs_at hk) Try.underlying24 tsize5 aggT5
    have hal : a.length + (tell (l.drop k) z).length ≤ l.length := by rw [← List.length_append, ha]; exact hT
    rw [drop_cons hk, tell] at ha hal
    by_cases h0 : byt l k = 0
    · have d : ((byt l k : Int) == 0) = true := ieq_t (by omega)
      have w1 : IntKind.i64.wrap ((z : Int) + 1) = ((z + 1 : Nat) : Int) := wrap_succ (by omega)
      refine w_assoc (s_run (by simp only [runL, awant_none, astep, evl, put, ap_none, List.length_nil, Nat.add_zero, upd_app, stepBin, abin, ↓reduceIte, Nat.reduceEqDiff, t0, t5, i1, i2, d] <;> rfl) ?_)
      refine s_true (by simp [evl]) (w_assoc (s_run (by simp only [runL, awant_none, astep, evl, put, ap_none, List.length_nil, Nat.add_zero, upd_app, stepBin, abin, ↓reduceIte, Nat.reduceEqDiff, t4, w1] <;> rfl) (s_exit ?_)))
      simp only [rangePost, if_true]
      rw [if_pos h0] at ha
      exact ⟨by simp [upd_app, t5], fun _ _ _ => ⟨z + 1, a, ha, by omega, by simp [upd_app, t0], by simp [upd_app], by simpa [upd_app] using hO, hkp, hnn⟩⟩
    · have d : ((byt l k : Int) == 0) = false := ieq_f (by omega)
      have w0 : IntKind.i64.wrap (byt l k : Int) = (byt l k : Int) := wrap_nat (by have := byt_lt hb k; omega)
      have w1 : IntKind.i64.wrap ((byt l k : Int) + 1) = ((byt l k + 1 : Nat) : Int) := wrap_succ (by have := byt_lt hb k; omega)
      rw [if_neg h0] at ha hal
      simp only [List.length_append, List.length_cons] at hal
      refine w_assoc (s_run (by simp only [runL, awant_none, astep, evl, put, ap_none, List.length_nil, Nat.add_zero, upd_app, stepBin, abin, ↓reduceIte, Nat.reduceEqDiff, t0, t5, i1, i2, d] <;> rfl) ?_)
      refine s_false (by simp [evl]) (s_skip ?_)
      refine w_gen (fun t => t 0 = v ∧ t 5 = .int .i64 k ∧ t 4 = .int .i64 z ∧ Own 3 g (t 3) (ints a) n n') (by simp [upd_app, t0, t5, t4, hO]) ?_
      clear t0 t4 t5 hO
      rintro t ⟨t0, t5, t4, hO⟩
      refine s_drawn #[0, 0, 2, 7, 0, 0, 48, 112, 240, 496, 1008, 2047, 4095] (by decide +kernel) ?_
      refine d_pure 2 (by simp only [runP, List.take_succ_cons, List.take_zero, awant_none, astep, evl, put, upd_app, ↓reduceIte, Nat.reduceEqDiff, List.isEmpty_nil, Bool.and_self, t4] <;> rfl) ?_
      dsimp only
      refine d_call1 (lo := n) (hi := n') 77 _ rfl rfl rfl rfl (rtold_spec z (by omega) g n') (by intro _; rw [newE_j]) (AccB.nil _ _ _) (by simp) (by rw [newE_r]; simp) (fun x hx => by have := newE_wr x hx; omega) (by omega) fun acc ha1 => d_heap fun G1 hG1 => d_num fun N1 hN1 => ?_
      rw [← hN1] at ha1
      have k1 : Kp n' g G1 := by rw [hG1]; exact newE_kp (Kp.refl _ _) (Nat.le_refl _)
      have s1 := newE_src 3 (ints (told z)) [] n' g
      rw [← hG1] at s1
      have b1 : ∀ i ∈ srcBlk (newE 3 (ints (told z)) [] n').v, i < N1 := fun i hi => by have := newE_blk _ _ _ _ i hi; omega
      generalize (newE 3 (ints (told z)) [] n').v = u1 at s1 b1 ⊢
      have hN : n' ≤ N1 := by omega
      obtain ⟨f1, hf1, hO1, kk1⟩ := (hO.keep k1 hN).append (P := Try.prog) (T := 22) s1 Try.underlying22 tinf3 (by simp; omega) (by omega) (by omega)
      obtain ⟨fr1, fw1⟩ := (hO.keep k1 hN).append_fp hf1 (by omega) (Nat.le_refl _)
      refine d_full f1 (by simp only [astep, evl, upd_app, put, stepCall, ↓reduceIte, Nat.reduceEqDiff]; exact hf1) rfl ha1 rfl (fun x hx => by
        rcases fr1 x hx with h | h
        · omega
        · have := b1 x h; omega) fw1 (Nat.le_refl _) fun acc ha2 => d_heap fun G2 hG2 => d_num fun N2 hN2 => ?_
      rw [← hN2] at ha2
      rw [← hG2, ← hN2] at hO1
      rw [← hG2] at kk1
      have kg : Kp n g2 G2 := fun q hq => by rw [kk1 q hq, k1 q (by omega), hkp q hq]
      have hvg2 := kg.src hv2 hdom
      obtain ⟨p, i1, i2, i3⟩ := hvg2.at1 (P := Try.prog) (i := k) (c := .int .u8 (byt l k)) (bs_at hk) Try.underlying24 tsize5 aggT5
      refine d_pure 3 (by simp only [runP, List.take_succ_cons, List.take_zero, awant_none, astep, evl, put, upd_app, reduceCtorEq, ↓reduceIte, Nat.reduceEqDiff, List.isEmpty_nil, Bool.and_self, t0, t5, i1] <;> rfl) ?_
      dsimp only
      refine d_low _ (by simp only [astep, evl, upd_app, ↓reduceIte, i2] <;> rfl) rfl (ha2.le (Nat.le_refl _) (Nat.le_refl _) (by simp)) (by intro x hx; simp at hx; rw [hx]; exact hdom _ i3) rfl rfl (by omega) fun acc ha3 => ?_
      refine d_pure 2 (by simp only [runP, List.take_succ_cons, List.take_zero, awant_none, astep, evl, put, upd_app, stepBin, abin, ↓reduceIte, List.isEmpty_nil, Bool.and_self, conv5_3, w0, w1] <;> rfl) ?_
      dsimp only
      refine d_new _ (by simp only [astep, evl, upd_app, ↓reduceIte, List.map_cons, List.map_nil, undef, lit22_1] <;> rfl) rfl (ha3.le (Nat.le_refl _) (Nat.le_refl _) (by simp)) rfl rfl _ rfl rfl (by omega) fun acc ha4 => ?_
      obtain ⟨f2, hf2, hO2, kk2⟩ := hO1.push (P := Try.prog) (T := 22) (c := .int .i64 ((byt l k + 1 : Nat) : Int)) Try.underlying22 tinf3 (by simp; omega) (by omega) (by omega)
      obtain ⟨fr2, fw2⟩ := hO1.append_fp hf2 (by omega) (by omega)
      refine d_full f2 (by simp only [astep, evl, upd_app, put, stepCall, ↓reduceIte, Nat.reduceEqDiff]; exact hf2) rfl ha4 rfl (fun x hx => by
        rcases fr2 x hx with h | h
        · omega
        · have := srcBlk_own x h; omega) fw2 (Nat.le_refl _) fun acc ha5 => ?_
      refine d_pure 1 (by simp only [runP, List.take_succ_cons, List.take_zero, awant_none, astep, evl, put, ap_new, upd_app, ↓reduceIte, List.isEmpty_nil, Bool.and_self] <;> rfl) ?_
      refine region_run (id := 9) (by simp only [runL, awant_none, astep, evl, put, ap_none, List.length_nil, Nat.add_zero] <;> rfl) ?_
      simp only [rangePost]
      refine ⟨by simp [upd_app, t5], fun _ _ _ => ⟨0, a ++ told z ++ [byt l k + 1], by rw [← ha]; simp, by omega, by simp [upd_app, t0], by simp [upd_app], ?_, fun q hq => ?_, by omega⟩⟩
      · rw [← ints_app, ← ints_app]; simpa [upd_app, put, ap_new] using hO2
      · show (f2.ap (upd G2 N2 _)) q = _
        rw [kk2 q hq, kg q hq]
  · rintro t g n' ⟨z, a, ha, hz, t0, t4, hO, hkp, hnn⟩
    rw [List.drop_length, tell] at ha
    have hal : a.length + (told z).length ≤ l.length := by rw [← List.length_append, ha]; exact hT
    refine s_take 2 (by simp only [runL, List.take_succ_cons, List.take_zero, awant_none, astep, evl, put, ap_none, List.length_nil, Nat.add_zero, upd_app, ↓reduceIte, Nat.reduceEqDiff, t4] <;> rfl) ?_
    refine ops_call 77 _ rfl (rtold_spec z (by omega) g n') (by intro _; rw [newE_j]) (ops_heap fun G1 hG1 => ops_num fun N1 hN1 => ?_)
    have k1 : Kp n' g G1 := by rw [hG1]; exact newE_kp (Kp.refl _ _) (Nat.le_refl _)
    have s1 := newE_src 3 (ints (told z)) [] n' g
    rw [← hG1] at s1
    generalize (newE 3 (ints (told z)) [] n').v = u1 at s1 ⊢
    have hN : n' ≤ N1 := by omega
    obtain ⟨f1, hf1, hO1, kk1⟩ := (hO.keep k1 hN).append (P := Try.prog) (T := 22) s1 Try.underlying22 tinf3 (by simp; omega) (by omega) (by omega)
    refine ops_run (by simp only [runL, awant_none, astep, evl, put, ap_none, List.length_nil, Nat.add_zero, upd_app, stepCall, ↓reduceIte, Nat.reduceEqDiff, hf1] <;> rfl) ?_
    refine w_ret ⟨.inr rfl, by simp, ?_⟩
    rw [ints_app, ha] at hO1
    have := hO1.fin (r := srcBlk v) (j := j) (plain_is _) hs hwf (fun q hq => by rw [kk1 q hq, k1 q (by omega), hkp q hq])
    simpa [resVal, upd_app, put] using this
end Go.Proofs.Ytahinegnblankaa
