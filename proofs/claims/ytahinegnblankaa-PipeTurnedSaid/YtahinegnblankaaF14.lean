import Derived.Test.YtahinegnblankaaF13
namespace Go.Proofs.Ytahinegnblankaa
open Go Abs
set_option linter.unusedSimpArgs false
set_option linter.unusedVariables false

abbrev row0 : List Nat := List.range 256

theorem out_set (d : List Nat) (n k x : Nat) (hd : d.length = k) (hk : k < n) : (bs (d ++ List.replicate (n - k) 0)).set k (.int .u8 (x : Int)) = bs (d ++ [x] ++ List.replicate (n - (k + 1)) 0) := by
  rw [bs_set]
  congr 1
  rw [List.set_append_right _ _ (by omega), hd, Nat.sub_self, show n - k = (n - (k + 1)) + 1 by omega, List.replicate_succ]
  simp

theorem out_at (d : List Nat) (n k : Nat) (hd : d.length = k) (hk : k < n) : (bs (d ++ List.replicate (n - k) 0))[k]? = some (.int .u8 0) := by
  simp [List.getElem?_append_right, hd, List.getElem?_replicate]; omega

set_option maxRecDepth 10000 in
theorem move_spec (v : Value) (l : List Nat) (g : Heap) (j : Nat) (hl : l.length ≤ 2 ^ 38) (hb : ∀ x ∈ l, x < 256) (hv : Src g v 1 l.length (bs l)) : FnSpec Try.prog 26 [v] g { v := .slice (some ⟨j, 0, some l.length⟩) l.length 1, r := srcBlk v, j := j, a := [⟨false, 5, bs (move l row0)⟩] } := by
  refine spec_of_body [2] follows Try.func26 rfl (by kernel_rfl) (by simp [Try.f26]) (by kernel_rfl) rfl ?_
  intro g2 s2 n hg hfr hs hn hwf hsv
  have hv2 : Src g2 v 1 l.length (bs l) := hv.congr fun i hi => hg i (by simp [Eff.fp, hi])
  have hlen := hv2.len Try.underlying24
  have hdom : ∀ i ∈ srcBlk v, i < n := fun i hi => by
    obtain ⟨b, hb⟩ := Option.isSome_iff_exists.1 (hv2.dom i hi)
    exact hs i (hwf i b hb).1
  refine s_run (by simp only [runL, awant_none, astep, evl, put, ap_none, List.length_nil, Nat.add_zero, undef] <;> rfl) ?_
  refine s_take 0 (by simp only [runL, List.take_zero] <;> rfl) ?_
  refine ops_call 67 _ rfl (row_spec g2 n) (by intro _; rfl) (ops_heap fun G1 hG1 => ?_)
  have k1 : Kp n g2 G1 := by rw [hG1]; exact kp_ap (Kp.refl _ _) rfl (fun _ => Nat.le_refl _)
  have b1 : G1 n = some ⟨false, 5, bs row0⟩ := by rw [hG1]; simp [ap_new]
  refine ops_run (by simp only [runL, awant_none, astep, evl, put, ap_none, List.length_nil, List.length_cons, Nat.add_zero, Nat.zero_add, upd_app, ↓reduceIte] <;> rfl) ?_
  refine s_run (by simp only [runL, Option.getD_some, List.getElem?_cons_zero, awant_none, astep, evl, put, ap_none, ap_new, List.length_nil, List.length_cons, Nat.add_zero, Nat.zero_add, upd_app, stepCall, reduceCtorEq, ↓reduceIte, hlen, mkBytes l.length (n + 1) (by omega)] <;> rfl) (w_heap fun G2 hG2 => ?_)
  have k2 : Kp (n + 1) G1 G2 := by rw [hG2]; exact kp_upd (Kp.refl _ _) (Nat.le_refl _)
  have b2 : G2 (n + 1) = some ⟨false, 5, bs (List.replicate l.length 0)⟩ := by rw [hG2]; simp []
  refine w_assoc (s_run (by simp only [runL, Option.getD_some, List.getElem?_cons_zero, awant_none, astep, evl, put, ap_none, List.length_nil, Nat.add_zero, upd_app, stepCall, reduceCtorEq, ↓reduceIte, hlen] <;> rfl) ?_)
  refine s_rng l.length (fun k t g n' => ∃ (d r : List Nat), d.length = k ∧ d ++ move (l.drop k) r = move l row0 ∧ Full r ∧ t 12 = v ∧ t 3 = .slice (some ⟨n, 0, some 256⟩) 256 1 ∧ t 4 = .slice (some ⟨n + 1, 0, some l.length⟩) l.length 1 ∧ g n = some ⟨false, 5, bs r⟩ ∧ g (n + 1) = some ⟨false, 5, bs (d ++ List.replicate (l.length - k) 0)⟩ ∧ Kp n g2 g) (by omega) (by simp []) (by simp [upd_app])
    (fun x => ⟨[], row0, rfl, by simp, full_row, by simp [upd_app], by simp [upd_app], by simp [upd_app], k2.at (by omega) b1, by simpa using b2, k1.trans k2 (by omega)⟩) (by decide) ?_ ?_
  · rintro k t g n' hk t14 t13 ⟨d, r, hd, ho, hF, t12, t3, t4, hr, hout, hkp⟩
    have hvg := hkp.src hv2 hdom
    obtain ⟨pa, i1, i2, _⟩ := hvg.at1 (P := Try.prog) (i := k) (c := .int .u8 (byt l k)) (bs_at hk) Try.underlying24 tsize5 aggT5
    rw [drop_cons hk, move] at ho
    have hbk := byt_lt hb k
    generalize byt l k = c at i2 ho hbk
    have hci := hF.mem c hbk
    have hik := hF.idx hbk
    refine s_run (by simp only [runL, awant_none, astep, evl, put, ap_none, List.length_nil, Nat.add_zero, upd_app, ↓reduceIte, Nat.reduceEqDiff, t12, t14, i1, i2] <;> rfl) ?_
    refine w_gen (fun t => t 14 = .int .i64 k ∧ t 13 = .int .i64 l.length ∧ t 12 = v ∧ t 3 = .slice (some ⟨n, 0, some 256⟩) 256 1 ∧ t 4 = .slice (some ⟨n + 1, 0, some l.length⟩) l.length 1 ∧ t 5 = .int .i64 k ∧ t 6 = .int .u8 c) (by simp [upd_app, t14, t13, t12, t3, t4]) ?_
    clear t14 t13 t12 t3 t4
    rintro t ⟨t14, t13, t12, t3, t4, t5, t6⟩
    refine s_take 2 (by simp only [runL, List.take_succ_cons, List.take_zero, awant_none, astep, evl, put, ap_none, List.length_nil, Nat.add_zero, upd_app, ↓reduceIte, Nat.reduceEqDiff, t3, t6] <;> rfl) ?_
    have hsr := src_bs (m := 256) hr hF.len.symm
    refine ops_call 68 _ rfl (index_spec _ r c g hF.lt hci hsr) (by intro h; exact (h rfl).elim) ?_
    refine ops_run (by simp only [runL, awant_none, astep, evl, put, ap_none, List.length_nil, Nat.add_zero, upd_app, ↓reduceIte, Nat.reduceEqDiff] <;> rfl) ?_
    have w1 : IntKind.u8.wrap ((idx r c : Nat) : Int) = ((idx r c : Nat) : Int) := wrap8_of hik
    obtain ⟨j1, j2, j3⟩ := own_at (P := Try.prog) (T := 24) hout (out_at d l.length k hd hk) Try.underlying24 tsize5 aggT5
    have hol : (bs (d ++ List.replicate (l.length - k) 0)).length = l.length := by simp; omega
    rw [hol] at j1 j3
    have hset := out_set d l.length k (idx r c) hd hk
    refine s_run (by simp only [runL, awant_none, astep, evl, put, ap_none, ap_wr, List.length_nil, Nat.add_zero, upd_app, ↓reduceIte, Nat.reduceEqDiff, undef, t4, t5, conv3_5, w1, j1, j3, hset] <;> rfl) (w_heap fun G3 hG3 => ?_)
    have hr3 : G3 n = some ⟨false, 5, bs r⟩ := by rw [hG3]; simp [upd_app, hr]
    have ho3 : G3 (n + 1) = some ⟨false, 5, bs (d ++ [idx r c] ++ List.replicate (l.length - (k + 1)) 0)⟩ := by rw [hG3]; simp []
    have hk3 : Kp n g2 G3 := by rw [hG3]; exact kp_upd hkp (by omega)
    refine region_take (id := 8) 2 (by simp only [runL, List.take_succ_cons, List.take_zero, awant_none, astep, evl, put, ap_none, List.length_nil, Nat.add_zero, upd_app, ↓reduceIte, Nat.reduceEqDiff, t3] <;> rfl) ?_
    have hmv := moves_spec n r (idx r c) G3 n' (by rw [hF.len]; omega) (by rw [hF.len]; exact hik) hr3
    rw [hF.len] at hmv
    refine ops_call 69 _ rfl hmv (by intro h; exact (h rfl).elim) (ops_heap fun G4 hG4 => ?_)
    refine ops_run (by simp only [runL, put, List.length_nil, Nat.add_zero] <;> rfl) ?_
    simp only [rangePost]
    refine ⟨by simp [upd_app, t14], by simp [upd_app, t13], fun _ _ _ => ⟨d ++ [idx r c], mv r (idx r c), by simp [hd], by rw [← ho]; simp, hF.mv hik, by simp [upd_app, t12], by simp [upd_app, t3], by simp [upd_app, t4], ?_, ?_, ?_⟩⟩
    · show G4 n = _
      rw [hG4]; simp [ap_wr]
    · show G4 (n + 1) = _
      rw [hG4]; simp [ap_wr, upd_app]; simpa using ho3
    · show Kp n g2 G4
      rw [hG4]; exact fun q hq => by simp [ap_wr, upd_app, show q ≠ n by omega, hk3 q hq]
  · rintro t g n' ⟨d, r, hd, ho, hF, t12, t3, t4, hr, hout, hkp⟩
    rw [List.drop_length, move, List.append_nil] at ho
    rw [Nat.sub_self, List.replicate_zero, List.append_nil, ho] at hout
    refine s_run (by simp only [runL, awant_none, astep, evl, put, ap_none, List.length_nil, Nat.add_zero, upd_app, ↓reduceIte, t4] <;> rfl) ?_
    have hml : (bs (move l row0)).length = l.length := by simp [move_len]
    refine w_ret ⟨.inr rfl, by simp, [n + 1], ?_⟩
    have := fin_slice (s2 := s2) (g2 := g2) (n := n) (j := j) (r := srcBlk v) (k := n + 1) (e := 5) (cs := bs (move l row0)) (m := l.length) (esz := 1) (v' := .slice (some ⟨n + 1, 0, some l.length⟩) l.length 1) (by rw [hml]) (by omega) hout plain_ints (fun i b hb => hkp.at (hs i (hwf i b hb).1) hb)
    rw [hml] at this
    simpa [resVal, upd_app] using this

set_option maxRecDepth 10000 in
theorem fback_spec (v : Value) (l : List Nat) (g : Heap) (j : Nat) (hl : l.length ≤ 2 ^ 38) (hb : ∀ x ∈ l, x < 256) (hv : Src g v 1 l.length (bs l)) : FnSpec Try.prog 27 [v] g { v := .slice (some ⟨j, 0, some l.length⟩) l.length 1, r := srcBlk v, j := j, a := [⟨false, 5, bs (back l row0)⟩] } := by
  refine spec_of_body [2] follows Try.func27 rfl (by kernel_rfl) (by simp [Try.f27]) (by kernel_rfl) rfl ?_
  intro g2 s2 n hg hfr hs hn hwf hsv
  have hv2 : Src g2 v 1 l.length (bs l) := hv.congr fun i hi => hg i (by simp [Eff.fp, hi])
  have hlen := hv2.len Try.underlying24
  have hdom : ∀ i ∈ srcBlk v, i < n := fun i hi => by
    obtain ⟨b, hb⟩ := Option.isSome_iff_exists.1 (hv2.dom i hi)
    exact hs i (hwf i b hb).1
  refine s_run (by simp only [runL, awant_none, astep, evl, put, ap_none, List.length_nil, Nat.add_zero, undef] <;> rfl) ?_
  refine s_take 0 (by simp only [runL, List.take_zero] <;> rfl) ?_
  refine ops_call 67 _ rfl (row_spec g2 n) (by intro _; rfl) (ops_heap fun G1 hG1 => ?_)
  have k1 : Kp n g2 G1 := by rw [hG1]; exact kp_ap (Kp.refl _ _) rfl (fun _ => Nat.le_refl _)
  have b1 : G1 n = some ⟨false, 5, bs row0⟩ := by rw [hG1]; simp [ap_new]
  refine ops_run (by simp only [runL, awant_none, astep, evl, put, ap_none, List.length_nil, List.length_cons, Nat.add_zero, Nat.zero_add, upd_app, ↓reduceIte] <;> rfl) ?_
  refine s_run (by simp only [runL, Option.getD_some, List.getElem?_cons_zero, awant_none, astep, evl, put, ap_none, ap_new, List.length_nil, List.length_cons, Nat.add_zero, Nat.zero_add, upd_app, stepCall, reduceCtorEq, ↓reduceIte, hlen, mkBytes l.length (n + 1) (by omega)] <;> rfl) (w_heap fun G2 hG2 => ?_)
  have k2 : Kp (n + 1) G1 G2 := by rw [hG2]; exact kp_upd (Kp.refl _ _) (Nat.le_refl _)
  have b2 : G2 (n + 1) = some ⟨false, 5, bs (List.replicate l.length 0)⟩ := by rw [hG2]; simp []
  refine w_assoc (s_run (by simp only [runL, Option.getD_some, List.getElem?_cons_zero, awant_none, astep, evl, put, ap_none, List.length_nil, Nat.add_zero, upd_app, stepCall, reduceCtorEq, ↓reduceIte, hlen] <;> rfl) ?_)
  refine s_rng l.length (fun k t g n' => ∃ (d r : List Nat), d.length = k ∧ d ++ back (l.drop k) r = back l row0 ∧ Full r ∧ t 11 = v ∧ t 3 = .slice (some ⟨n, 0, some 256⟩) 256 1 ∧ t 4 = .slice (some ⟨n + 1, 0, some l.length⟩) l.length 1 ∧ g n = some ⟨false, 5, bs r⟩ ∧ g (n + 1) = some ⟨false, 5, bs (d ++ List.replicate (l.length - k) 0)⟩ ∧ Kp n g2 g) (by omega) (by simp []) (by simp [upd_app])
    (fun x => ⟨[], row0, rfl, by simp, full_row, by simp [upd_app], by simp [upd_app], by simp [upd_app], k2.at (by omega) b1, by simpa using b2, k1.trans k2 (by omega)⟩) (by decide) ?_ ?_
  · rintro k t g n' hk t13 t12 ⟨d, r, hd, ho, hF, t11, t3, t4, hr, hout, hkp⟩
    have hvg := hkp.src hv2 hdom
    obtain ⟨pa, i1, i2, _⟩ := hvg.at1 (P := Try.prog) (i := k) (c := .int .u8 (byt l k)) (bs_at hk) Try.underlying24 tsize5 aggT5
    rw [drop_cons hk, back] at ho
    have hbk := byt_lt hb k
    generalize byt l k = c at i2 ho hbk
    refine s_run (by simp only [runL, awant_none, astep, evl, put, ap_none, List.length_nil, Nat.add_zero, upd_app, ↓reduceIte, Nat.reduceEqDiff, t11, t13, i1, i2] <;> rfl) ?_
    refine w_gen (fun t => t 13 = .int .i64 k ∧ t 12 = .int .i64 l.length ∧ t 11 = v ∧ t 3 = .slice (some ⟨n, 0, some 256⟩) 256 1 ∧ t 4 = .slice (some ⟨n + 1, 0, some l.length⟩) l.length 1 ∧ t 5 = .int .i64 k ∧ t 6 = .int .u8 c) (by simp [upd_app, t13, t12, t11, t3, t4]) ?_
    clear t13 t12 t11 t3 t4
    rintro t ⟨t13, t12, t11, t3, t4, t5, t6⟩
    have hsr := src_bs (m := 256) hr hF.len.symm
    obtain ⟨pb, m1, m2, _⟩ := hsr.at1 (P := Try.prog) (i := c) (c := .int .u8 (byt r c)) (bs_at (by rw [hF.len]; exact hbk)) Try.underlying24 tsize5 aggT5
    obtain ⟨j1, j2, j3⟩ := own_at (P := Try.prog) (T := 24) hout (out_at d l.length k hd hk) Try.underlying24 tsize5 aggT5
    have hol : (bs (d ++ List.replicate (l.length - k) 0)).length = l.length := by simp; omega
    rw [hol] at j1 j3
    have hset := out_set d l.length k (byt r c) hd hk
    refine s_run (by simp only [runL, awant_none, astep, evl, put, ap_none, ap_wr, List.length_nil, Nat.add_zero, upd_app, ↓reduceIte, Nat.reduceEqDiff, undef, t3, t4, t5, t6, m1, m2, j1, j3, hset] <;> rfl) (w_heap fun G3 hG3 => ?_)
    have hr3 : G3 n = some ⟨false, 5, bs r⟩ := by rw [hG3]; simp [upd_app, hr]
    have ho3 : G3 (n + 1) = some ⟨false, 5, bs (d ++ [byt r c] ++ List.replicate (l.length - (k + 1)) 0)⟩ := by rw [hG3]; simp []
    have hk3 : Kp n g2 G3 := by rw [hG3]; exact kp_upd hkp (by omega)
    have w0 : IntKind.i64.wrap (c : Int) = (c : Int) := wrap_nat (by omega)
    refine region_take (id := 7) 3 (by simp only [runL, List.take_succ_cons, List.take_zero, awant_none, astep, evl, put, ap_none, List.length_nil, Nat.add_zero, upd_app, ↓reduceIte, Nat.reduceEqDiff, t3, t6, conv5_3, w0] <;> rfl) ?_
    have hmv := moves_spec n r c G3 n' (by rw [hF.len]; omega) (by rw [hF.len]; exact hbk) hr3
    rw [hF.len] at hmv
    refine ops_call 69 _ rfl hmv (by intro h; exact (h rfl).elim) (ops_heap fun G4 hG4 => ?_)
    refine ops_run (by simp only [runL, put, List.length_nil, Nat.add_zero] <;> rfl) ?_
    simp only [rangePost]
    refine ⟨by simp [upd_app, t13], by simp [upd_app, t12], fun _ _ _ => ⟨d ++ [byt r c], mv r c, by simp [hd], by rw [← ho]; simp, hF.mv hbk, by simp [upd_app, t11], by simp [upd_app, t3], by simp [upd_app, t4], ?_, ?_, ?_⟩⟩
    · show G4 n = _
      rw [hG4]; simp [ap_wr]
    · show G4 (n + 1) = _
      rw [hG4]; simp [ap_wr, upd_app]; simpa using ho3
    · show Kp n g2 G4
      rw [hG4]; exact fun q hq => by simp [ap_wr, upd_app, show q ≠ n by omega, hk3 q hq]
  · rintro t g n' ⟨d, r, hd, ho, hF, t11, t3, t4, hr, hout, hkp⟩
    rw [List.drop_length, back, List.append_nil] at ho
    rw [Nat.sub_self, List.replicate_zero, List.append_nil, ho] at hout
    refine s_run (by simp only [runL, awant_none, astep, evl, put, ap_none, List.length_nil, Nat.add_zero, upd_app, ↓reduceIte, t4] <;> rfl) ?_
    have hml : (bs (back l row0)).length = l.length := by simp [back_len]
    refine w_ret ⟨.inr rfl, by simp, [n + 1], ?_⟩
    have := fin_slice (s2 := s2) (g2 := g2) (n := n) (j := j) (r := srcBlk v) (k := n + 1) (e := 5) (cs := bs (back l row0)) (m := l.length) (esz := 1) (v' := .slice (some ⟨n + 1, 0, some l.length⟩) l.length 1) (by rw [hml]) (by omega) hout plain_ints (fun i b hb => hkp.at (hs i (hwf i b hb).1) hb)
    rw [hml] at this
    simpa [resVal, upd_app] using this
end Go.Proofs.Ytahinegnblankaa
