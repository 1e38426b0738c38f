import Derived.Test.YtahinegnblankaaP62
namespace Go.Proofs.Ytahinegnblankaa
open Go Abs
set_option linter.unusedSimpArgs false
set_option linter.unusedVariables false

theorem and65535 (a : Int) : ∃ m : Nat, m ≤ 65535 ∧ bits .and .i64 a 65535 = (m : Int) := by
  refine ⟨(BitVec.ofInt 64 a).toNat &&& 65535, Nat.and_le_right, ?_⟩
  have h : (BitVec.ofInt 64 a).toNat &&& 65535 ≤ 65535 := Nat.and_le_right
  have e : bits .and .i64 a 65535 = IntKind.i64.wrap (((BitVec.ofInt 64 a).toNat &&& 65535 : Nat) : Int) := by
    simp only [bits, BitVec.toNat_and]
    rfl
  rw [e, wrap_nat (by omega)]

set_option maxRecDepth 10000 in
theorem lawPTurn_spec (v : Value) (l : List Nat) (x a : Int) (c : Nat) (y : Int) (g : Heap) (hb : ∀ x ∈ l, x < 256) (hc : c < 256) (hv : Src g v 1 l.length (bs l)) : FnSpec Try.prog 21 [v, .int .i64 x, .int .i64 a, .int .u8 c, .int .i64 y] g { v := .bool true, r := srcBlk v } := by
  refine spec_of_body [10] follows Try.func21 rfl (by kernel_rfl) (by simp [Try.f21]) (by kernel_rfl) rfl ?_
  intro g2 s2 n hg hfr hs hn hwf hsv
  have hv2 : Src g2 v 1 l.length (bs l) := hv.congr fun i hi => hg i (by simp [Eff.fp, hi])
  have hlen := hv2.len Try.underlying24
  have hdom : ∀ i ∈ srcBlk v, i < n := fun i hi => by
    obtain ⟨b, hb⟩ := Option.isSome_iff_exists.1 (hv2.dom i hi)
    exact hs i (hwf i b hb).1
  clear hv hg hfr hn
  refine s_run (by simp only [runL, awant_none, astep, evl, put, ap_none, List.length_nil, Nat.add_zero, undef] <;> rfl) ?_
  by_cases ea1 : (l.length : Int) > 60
  · have ed1 : (decide ((l.length : Int) > 60)) = true := decide_eq_true ea1
    refine w_assoc (s_run (by simp only [runL, awant_some, Option.getD_some, List.getElem?_toArray, List.getElem?_cons_succ, List.getElem?_cons_zero, Option.bind_some, b_tf, awant_none, astep, evl, put, ap_none, List.length_nil, Nat.add_zero, upd_app, stepBin, abin, stepPick, stepCall, reduceCtorEq, ↓reduceIte, Nat.reduceEqDiff, undef, hlen, ed1] <;> rfl) ?_)
    refine s_true (by simp [evl]) (w_assoc (s_run (by simp only [runL, awant_none, astep, evl, put, ap_none, List.length_nil, Nat.add_zero] <;> rfl) ?_))
    refine s_ret ⟨.inr rfl, by simp, [], fin_none ?_ trivial (fun _ _ h => h)⟩
    simp [resVal]
  have ed1 : (decide ((l.length : Int) > 60)) = false := decide_eq_false ea1
  by_cases ea2 : x < 0
  · have ed2 : (decide (x < 0)) = true := decide_eq_true ea2
    refine w_assoc (s_run (by simp only [runL, awant_some, Option.getD_some, List.getElem?_toArray, List.getElem?_cons_succ, List.getElem?_cons_zero, Option.bind_some, b_tf, b_ff, awant_none, astep, evl, put, ap_none, List.length_nil, Nat.add_zero, upd_app, stepBin, abin, stepPick, stepCall, reduceCtorEq, ↓reduceIte, Nat.reduceEqDiff, Bool.false_eq_true, undef, hlen, ed1, ed2] <;> rfl) ?_)
    refine s_true (by simp [evl]) (w_assoc (s_run (by simp only [runL, awant_none, astep, evl, put, ap_none, List.length_nil, Nat.add_zero] <;> rfl) ?_))
    refine s_ret ⟨.inr rfl, by simp, [], fin_none ?_ trivial (fun _ _ h => h)⟩
    simp [resVal]
  have ed2 : (decide (x < 0)) = false := decide_eq_false ea2
  by_cases ea3 : x > 1
  · have ed3 : (decide (x > 1)) = true := decide_eq_true ea3
    refine w_assoc (s_run (by simp only [runL, awant_some, Option.getD_some, List.getElem?_toArray, List.getElem?_cons_succ, List.getElem?_cons_zero, Option.bind_some, b_tf, b_ff, awant_none, astep, evl, put, ap_none, List.length_nil, Nat.add_zero, upd_app, stepBin, abin, stepPick, stepCall, reduceCtorEq, ↓reduceIte, Nat.reduceEqDiff, Bool.false_eq_true, undef, hlen, ed1, ed2, ed3] <;> rfl) ?_)
    refine s_true (by simp [evl]) (w_assoc (s_run (by simp only [runL, awant_none, astep, evl, put, ap_none, List.length_nil, Nat.add_zero] <;> rfl) ?_))
    refine s_ret ⟨.inr rfl, by simp, [], fin_none ?_ trivial (fun _ _ h => h)⟩
    simp [resVal]
  have ed3 : (decide (x > 1)) = false := decide_eq_false ea3
  by_cases ea4 : y < 0
  · have ed4 : (decide (y < 0)) = true := decide_eq_true ea4
    refine w_assoc (s_run (by simp only [runL, awant_some, Option.getD_some, List.getElem?_toArray, List.getElem?_cons_succ, List.getElem?_cons_zero, Option.bind_some, b_tf, b_ff, awant_none, astep, evl, put, ap_none, List.length_nil, Nat.add_zero, upd_app, stepBin, abin, stepPick, stepCall, reduceCtorEq, ↓reduceIte, Nat.reduceEqDiff, Bool.false_eq_true, undef, hlen, ed1, ed2, ed3, ed4] <;> rfl) ?_)
    refine s_true (by simp [evl]) (w_assoc (s_run (by simp only [runL, awant_none, astep, evl, put, ap_none, List.length_nil, Nat.add_zero] <;> rfl) ?_))
    refine s_ret ⟨.inr rfl, by simp, [], fin_none ?_ trivial (fun _ _ h => h)⟩
    simp [resVal]
  have ed4 : (decide (y < 0)) = false := decide_eq_false ea4
  by_cases ea5 : y > 2
  · have ed5 : (decide (y > 2)) = true := decide_eq_true ea5
    refine w_assoc (s_run (by simp only [runL, awant_some, Option.getD_some, List.getElem?_toArray, List.getElem?_cons_succ, List.getElem?_cons_zero, Option.bind_some, b_ff, awant_none, astep, evl, put, ap_none, List.length_nil, Nat.add_zero, upd_app, stepBin, abin, stepPick, stepCall, reduceCtorEq, ↓reduceIte, Nat.reduceEqDiff, Bool.false_eq_true, hlen, ed1, ed2, ed3, ed4, ed5] <;> rfl) ?_)
    refine s_true (by simp [evl]) (w_assoc (s_run (by simp only [runL, awant_none, astep, evl, put, ap_none, List.length_nil, Nat.add_zero] <;> rfl) ?_))
    refine s_ret ⟨.inr rfl, by simp, [], fin_none ?_ trivial (fun _ _ h => h)⟩
    simp [resVal]
  have ed5 : (decide (y > 2)) = false := decide_eq_false ea5
  refine w_assoc (s_run (by simp only [runL, awant_some, Option.getD_some, List.getElem?_toArray, List.getElem?_cons_succ, List.getElem?_cons_zero, Option.bind_some, b_ff, awant_none, astep, evl, put, ap_none, List.length_nil, Nat.add_zero, upd_app, stepBin, abin, stepPick, stepCall, reduceCtorEq, ↓reduceIte, Nat.reduceEqDiff, Bool.false_eq_true, hlen, ed1, ed2, ed3, ed4, ed5] <;> rfl) ?_)
  refine s_false (by simp [evl]) (s_skip ?_)
  obtain ⟨o, ho, rfl⟩ : ∃ o : Nat, o ≤ 1 ∧ x = (o : Int) := ⟨x.toNat, by omega, by omega⟩
  refine w_gen (fun t => t 0 = v ∧ t 1 = .int .i64 o ∧ t 2 = .int .i64 a ∧ t 3 = .int .u8 c ∧ t 4 = .int .i64 y) (by simp [upd_app]) ?_
  rintro t ⟨t0, t1, t2, t3, t4⟩
  have hNb := packB_lt (o := o) hb
  have hNl := packB_len o l
  have hN4 := packB_l4 (o := o) hb
  have hshort := fun F R h1 h2 => unpP_short (o := o) (b := l) (F := F) (R := R) (most := 200) (k := 201) hb h1 h2
  have hlong := fun R h1 => unpP_long (o := o) (b := l) (R := R) (most := 200) (k := 201) hb h1
  have hP := rpack_spec v l o g2 n ho (by omega) hb hv2
  obtain ⟨N, hN⟩ : ∃ N, packB o l = N := ⟨_, rfl⟩
  rw [hN] at hNb hNl hN4 hP
  simp only [hN] at hshort hlong
  refine s_take 2 (by simp only [runL, List.take_succ_cons, List.take_zero, awant_none, astep, evl, put, ap_none, List.length_nil, Nat.add_zero, upd_app, ↓reduceIte, Nat.reduceEqDiff, t0, t1] <;> rfl) ?_
  refine ops_call 60 _ rfl hP (by intro _; rfl) (ops_heap fun G1 hG1 => ops_num fun N1 hN1 => ?_)
  have hN1' : N1 = n + 1 := hN1
  subst hN1'
  clear hN1
  have k1 : Kp n g2 G1 := by rw [hG1]; exact kp_ap (Kp.refl _ _) rfl (fun _ => Nat.le_refl _)
  have b1 : G1 n = some ⟨false, 5, bs N⟩ := by rw [hG1]; exact packE_ap _ _ _ _
  refine ops_run (by simp only [runL, List.getElem?_toArray, List.getElem?_cons_succ, List.getElem?_cons_zero, awant_none, astep, evl, put, ap_none, List.length_nil, Nat.add_zero, upd_app, stepExtract, ↓reduceIte, Nat.reduceEqDiff, packE_v] <;> rfl) ?_
  refine w_gen (fun t => t 1 = .int .i64 o ∧ t 2 = .int .i64 a ∧ t 3 = .int .u8 c ∧ t 4 = .int .i64 y ∧ t 11 = .slice (some ⟨n, 0, some N.length⟩) N.length 1) (by simp [upd_app, t1, t2, t3, t4]) ?_
  clear t0 t1 t2 t3 t4
  rintro t ⟨t1, t2, t3, t4, t11⟩
  obtain ⟨q, hq, w1⟩ := and65535 a
  have ln := len24 n N.length (some N.length)
  have w3 : (q : Int).tmod ((N.length : Nat) : Int) = ((q % N.length : Nat) : Int) := rfl
  have w4 : ((N.length : Nat) : Int) ≠ 0 := by omega
  have hk2 : q % N.length < N.length := Nat.mod_lt q (by omega)
  refine s_run (by simp only [runL, awant_none, astep, evl, put, ap_none, List.length_nil, Nat.add_zero, upd_app, stepBin, abin, stepCall, ↓reduceIte, Nat.reduceEqDiff, ne_eq, not_false_eq_true, and_self, t2, t11, ln, w1, w3, w4] <;> rfl) ?_
  generalize q % N.length = k at hk2 ⊢
  refine w_gen (fun t => t 1 = .int .i64 o ∧ t 3 = .int .u8 c ∧ t 4 = .int .i64 y ∧ t 11 = .slice (some ⟨n, 0, some N.length⟩) N.length 1 ∧ t 13 = .int .i64 k) (by simp [upd_app, t1, t3, t4, t11]) ?_
  clear t1 t2 t3 t4 t11
  rintro t ⟨t1, t3, t4, t11, t13⟩
  refine w_assoc (s_run (by simp only [runL, awant_none, astep, evl, put, ap_none, List.length_nil, Nat.add_zero, t4] <;> rfl) ?_)
  have hunp : ∀ F, unpO (o : Int) 200 F = unpP o F 200 201 := fun F => by
    unfold unpO
    rw [if_pos ⟨by omega, by omega⟩, Int.toNat_natCast]
    rfl
  refine s_block (fun t g n' => t 1 = .int .i64 o ∧ t 4 = .int .i64 y ∧ n + 1 ≤ n' ∧ Kp n g2 g ∧ ∃ F, Src g (t 11) 1 F.length (bs F) ∧ (∀ i ∈ srcBlk (t 11), i < n') ∧ (∀ x ∈ F, x < 256) ∧ F.length ≤ 200 ∧ (y = 0 ∨ unpO (o : Int) 200 F = none)) ?_ ?_
  · by_cases y0 : y = 0
    · have e0 : (y == 0) = true := ieq_t y0
      refine s_run (by simp only [runL, awant_none, astep, evl, put, ap_none, List.length_nil, Nat.add_zero, upd_app, stepBin, abin, ↓reduceIte, e0] <;> rfl) ?_
      refine w_true (by simp [evl]) ?_
      have hix := idx24 n N.length k N.length hk2
      have hst := stb (x := c) (m := N.length) b1 rfl hk2
      refine region_run (id := 8) (by simp only [runL, awant_none, astep, evl, put, ap_none, ap_wr, List.length_nil, Nat.add_zero, upd_app, ↓reduceIte, Nat.reduceEqDiff, undef, t11, t13, t3, hix, hst] <;> rfl) ?_
      refine ⟨by simp [upd_app, t1], by simp [upd_app, t4], Nat.le_refl _, fun i hi => by show upd G1 n _ i = g2 i; rw [upd_ne _ _ (by omega), k1 i hi], N.set k c, ?_, fun i hi => ?_, fun z hz => ?_, by simp; omega, .inl y0⟩
      · have : Src (upd G1 n (some ⟨false, 5, bs (N.set k c)⟩)) (.slice (some ⟨n, 0, some N.length⟩) N.length 1) 1 (N.set k c).length (bs (N.set k c)) := by
          have h0 : (upd G1 n (some ⟨false, 5, bs (N.set k c)⟩)) n = some ⟨false, 5, bs (N.set k c)⟩ := by simp
          exact src_bs (m := N.length) h0 (by simp)
        simpa [upd_app, t11] using this
      · have : i ∈ srcBlk (.slice (some ⟨n, 0, some N.length⟩) N.length 1) := by simpa [upd_app, t11] using hi
        have := srcBlk_own (e := 1) i this
        show i < n + 1
        omega
      · rcases List.mem_or_eq_of_mem_set hz with h | rfl
        · exact hNb z h
        · exact hc
    · have e0 : (y == 0) = false := ieq_f y0
      refine s_run (by simp only [runL, awant_none, astep, evl, put, ap_none, List.length_nil, Nat.add_zero, upd_app, stepBin, abin, ↓reduceIte, e0] <;> rfl) ?_
      refine w_false (by simp [evl]) ?_
      by_cases y1 : y = 1
      · have e1 : (y == 1) = true := ieq_t y1
        refine s_run (by simp only [runL, awant_none, astep, evl, put, ap_none, List.length_nil, Nat.add_zero, upd_app, stepBin, abin, ↓reduceIte, Nat.reduceEqDiff, e1] <;> rfl) ?_
        refine w_true (by simp [evl]) ?_
        obtain ⟨c1, c2, c3, _⟩ := src_slV (P := Try.prog) (src_bs (m := N.length) b1 rfl) Try.underlying24 tsize5 none (some (.int .i64 ((k : Nat) : Int))) 0 k rfl rfl (by omega) (by omega)
        have hpt : ((bs N).drop 0).take (k - 0) = bs (N.take k) := by simp
        rw [hpt, Nat.sub_zero] at c2
        generalize slV (.slice (some ⟨n, 0, some N.length⟩) N.length 1) 0 k = u at c1 c2 c3
        refine region_run (id := 10) (by simp only [runL, awant_none, astep, evl, put, ap_none, List.length_nil, Nat.add_zero, upd_app, ↓reduceIte, Nat.reduceEqDiff, Option.map_some, Option.map_none, t11, t13, c1] <;> rfl) ?_
        have hlt : (N.take k).length = k := by simp; omega
        refine ⟨by simp [upd_app, t1], by simp [upd_app, t4], Nat.le_refl _, k1, N.take k, ?_, fun i hi => ?_, fun z hz => hNb z (List.mem_of_mem_take hz), by omega, .inr ?_⟩
        · rw [hlt]
          simpa [upd_app] using c2
        · have := c3 i (by simpa [upd_app] using hi)
          have := srcBlk_own (e := 1) i this
          show i < n + 1
          omega
        · rw [hunp]
          exact hshort (N.take k) (N.drop k) (fun e => by have := congrArg List.length e; simp at this; omega) (List.take_append_drop k N).symm
      · have e1 : (y == 1) = false := ieq_f y1
        refine s_run (by simp only [runL, awant_none, astep, evl, put, ap_none, List.length_nil, Nat.add_zero, upd_app, stepBin, abin, ↓reduceIte, Nat.reduceEqDiff, e1] <;> rfl) ?_
        refine w_false (by simp [evl]) ?_
        have hO : OwnI 5 1 (upd G1 (n + 1) (some ⟨false, 5, [.int .u8 c]⟩)) (.slice (some ⟨n, 0, some N.length⟩) N.length 1) N.length (bs N) (some n) := .inr ⟨n, rfl, by simp, by rw [upd_ne _ _ (by omega)]; exact b1, by simp⟩
        have hsrc : srcCells (.slice (some ⟨n + 1, 0, some 1⟩) 1 1) (upd G1 (n + 1) (some ⟨false, 5, [.int .u8 c]⟩)) 1 = some (1, [.int .u8 c]) := by simp [srcCells, rd]
        obtain ⟨f, i', hf, hO2, hi', hkf⟩ := own_append (P := Try.prog) (n := n + 2) hO hsrc (by simp) Try.underlying24 tinf5 (by omega) (by omega) (by omega)
        have hi2 : i' = some n := by
          rcases hi' with ⟨h, _⟩ | ⟨h, _⟩
          · exact h
          · cases h
        subst hi2
        have hcl : bs N ++ [.int .u8 (c : Int)] = bs (N ++ [c]) := by simp
        rw [hcl] at hO2
        refine region_run (id := 6) (by simp only [runL, awant_none, astep, evl, put, ap_none, ap_new, List.length_nil, List.length_cons, Nat.add_zero, Nat.zero_add, upd_app, stepCall, ↓reduceIte, Nat.reduceEqDiff, List.map_cons, List.map_nil, undef, t11, t3, lit24_1, hf] <;> rfl) ?_
        refine ⟨by simp [upd_app, t1], by simp [upd_app, t4], by show n + 1 ≤ n + 1 + 1 + f.a.length; omega, fun i hi => ?_, N ++ [c], ?_, fun i hi => ?_, fun z hz => ?_, by simp; omega, .inr ?_⟩
        · show f.ap (upd G1 (n + 1) _) i = g2 i
          rw [hkf i (by omega) (by simp; omega), upd_ne _ _ (by omega), k1 i hi]
        · have := hO2.toSrc
          simpa [upd_app] using this
        · rcases hO2 with ⟨h, _⟩ | ⟨q', h, hfv, _⟩
          · cases h
          · cases h
            have hm : i ∈ srcBlk f.v := by simpa [upd_app] using hi
            rw [hfv] at hm
            have := srcBlk_own (e := 1) i hm
            show i < n + 1 + 1 + f.a.length
            omega
        · rcases List.mem_append.1 hz with h | h
          · exact hNb z h
          · simp at h; omega
        · rw [hunp]
          exact hlong [c] (by simp)
  · clear t1 t3 t4 t11 t13 b1 k1 hG1
    rintro t g n' ⟨t1, t4, hn', hkp, F, hsF, hdF, hFb, hFl, hno⟩
    obtain ⟨fv, hfv⟩ : ∃ fv, t 11 = fv := ⟨_, rfl⟩
    rw [hfv] at hsF hdF
    have hS := unpack_spec fv F (o : Nat) 200 g n' (by omega) hFb hsF
    obtain ⟨u, hu, hus, hub⟩ := backE_two (O := unpO (o : Int) 200 F) (r := srcBlk fv) (j := n') g
    have hEj := backE_j (unpO (o : Int) 200 F) (srcBlk fv) n'
    have hEw := backE_w (unpO (o : Int) 200 F) (srcBlk fv) n'
    have hR := fun G J s => runpack_spec fv F (o : Nat) 200 G J (by omega) (by omega) hFb s
    rw [unpR_eq (show (200 : Int) ≤ 100000 by omega)] at hR
    generalize unpO (o : Int) 200 F = O at hS hu hus hub hEj hEw hR hno
    generalize backE O (srcBlk fv) n' = E at hS hu hus hub hEj hEw
    refine s_take 2 (by simp only [runL, List.take_succ_cons, List.take_zero, awant_none, astep, evl, put, ap_none, List.length_nil, Nat.add_zero, upd_app, ↓reduceIte, Nat.reduceEqDiff, hfv, t1] <;> rfl) ?_
    refine ops_call 61 E rfl hS (fun _ => hEj) (ops_heap fun G2 hG2 => ops_num fun N2 hN2 => ?_)
    have hG2' : G2 = E.ap g := hG2
    have hN2' : N2 = n' + E.a.length := hN2
    have k2 : Kp n' g G2 := by rw [hG2']; exact kp_ap (Kp.refl _ _) hEw (fun _ => by rw [hEj]; exact Nat.le_refl _)
    rw [← hG2'] at hus
    clear hG2 hG2' hN2
    refine ops_run (by simp only [runL, List.getElem?_toArray, List.getElem?_cons_succ, List.getElem?_cons_zero, awant_none, astep, evl, put, ap_none, List.length_nil, Nat.add_zero, upd_app, stepExtract, ↓reduceIte, Nat.reduceEqDiff, hu] <;> rfl) ?_
    refine w_gen (fun t => t 1 = .int .i64 o ∧ t 4 = .int .i64 y ∧ t 11 = fv ∧ t 14 = u ∧ t 15 = .bool O.isSome) (by simp [upd_app, t1, t4, hfv]) ?_
    clear t1 t4 hfv
    rintro t ⟨t1, t4, t11, t14, t15⟩
    obtain ⟨w, hw, hws⟩ := rbackE_two (O := O) (r := srcBlk fv) (j := N2) G2
    have hFj := rbackE_j O (srcBlk fv) N2
    have hFw := rbackE_w O (srcBlk fv) N2
    have hR2 := hR G2 N2 (hsF.congr fun i hi => k2 i (hdF i hi))
    generalize rbackE O (srcBlk fv) N2 = E2 at hR2 hw hws hFj hFw
    refine s_take 2 (by simp only [runL, List.take_succ_cons, List.take_zero, awant_none, astep, evl, put, ap_none, List.length_nil, Nat.add_zero, upd_app, ↓reduceIte, Nat.reduceEqDiff, t11, t1] <;> rfl) ?_
    refine ops_call 63 E2 rfl hR2 (fun _ => hFj) (ops_heap fun G3 hG3 => ?_)
    have hG3' : G3 = E2.ap G2 := hG3
    have k3 : Kp N2 G2 G3 := by rw [hG3']; exact kp_ap (Kp.refl _ _) hFw (fun _ => by rw [hFj]; exact Nat.le_refl _)
    rw [← hG3'] at hws
    clear hG3 hG3'
    have hus3 : Src G3 u 1 (O.getD []).length (bs (O.getD [])) := hus.congr fun i hi => k3 i (by have := hub i hi; omega)
    have kk : Kp n g2 G3 := fun i hi => by rw [k3 i (by omega), k2 i (by omega), hkp i hi]
    refine ops_run (by simp only [runL, List.getElem?_toArray, List.getElem?_cons_succ, List.getElem?_cons_zero, awant_none, astep, evl, put, ap_none, List.length_nil, Nat.add_zero, upd_app, stepExtract, ↓reduceIte, Nat.reduceEqDiff, hw] <;> rfl) ?_
    refine w_gen (fun t => t 4 = .int .i64 y ∧ t 14 = u ∧ t 15 = .bool O.isSome ∧ t 16 = w ∧ t 17 = .bool O.isSome) (by simp [upd_app, t4, t14, t15]) ?_
    clear t1 t4 t11 t14 t15
    rintro t ⟨t4, t14, t15, t16, t17⟩
    obtain ⟨ra, sa, _⟩ := src_str hus3
    obtain ⟨rb, sb, _⟩ := src_str hws
    have e1 : ((nstr (O.getD [])).toList == (nstr (O.getD [])).toList) = true := beq_self_eq_true _
    have e2 : (O.isSome == O.isSome) = true := beq_self_eq_true _
    by_cases y0 : y = 0
    · have e0 : (y == 0) = true := ieq_t y0
      refine s_take 19 (by simp only [runL, awant_some, List.getElem?_toArray, List.getElem?_cons_succ, List.getElem?_cons_zero, Option.bind_some, b_tt, b_tf, List.take_succ_cons, List.take_zero, awant_none, astep, evl, put, ap_none, List.length_nil, Nat.add_zero, upd_app, stepBin, abin, stepPick, ↓reduceIte, Nat.reduceEqDiff, undef, t4, t14, t15, t16, t17, Try.underlying4, sa, sb, e1, e2, e0] <;> rfl) ?_
      refine g_call 62 _ (by simp only [awant_some, List.getElem?_toArray, List.getElem?_cons_succ, List.getElem?_cons_zero, Option.bind_some, b_tt, upd_app, ↓reduceIte] <;> rfl) rfl (pknown_spec G3) (by simp) ?_
      refine ops_run (by simp only [runL, awant_none, astep, evl, put, ap_none, List.length_nil, Nat.add_zero, upd_app, stepPick, ↓reduceIte, Nat.reduceEqDiff] <;> rfl) ?_
      exact w_ret ⟨.inr rfl, by simp, [], fin_plain hs hwf kk (by simp [resVal]) trivial⟩
    · have e0 : (y == 0) = false := ieq_f y0
      have hOn : O = none := by
        rcases hno with h | h
        · exact absurd h y0
        · exact h
      subst hOn
      have e3 : (false == false) = true := rfl
      refine s_take 19 (by simp only [runL, awant_some, List.getElem?_toArray, List.getElem?_cons_succ, List.getElem?_cons_zero, Option.bind_some, b_tt, Bool.not_false, List.take_succ_cons, List.take_zero, awant_none, astep, evl, put, ap_none, List.length_nil, Nat.add_zero, upd_app, stepBin, abin, stepUn, stepPick, ↓reduceIte, Nat.reduceEqDiff, Bool.false_eq_true, t4, t14, t15, t16, t17, Try.underlying4, sa, sb, e1, e0, Option.isSome_none, e3] <;> rfl) ?_
      refine g_call 62 _ (by simp only [awant_some, List.getElem?_toArray, List.getElem?_cons_succ, List.getElem?_cons_zero, Option.bind_some, b_tt, upd_app, ↓reduceIte] <;> rfl) rfl (pknown_spec G3) (by simp) ?_
      refine ops_run (by simp only [runL, awant_none, astep, evl, put, ap_none, List.length_nil, Nat.add_zero, upd_app, stepPick, ↓reduceIte, Nat.reduceEqDiff] <;> rfl) ?_
      exact w_ret ⟨.inr rfl, by simp, [], fin_plain hs hwf kk (by simp [resVal]) trivial⟩
end Go.Proofs.Ytahinegnblankaa
