import Derived.Test.YtahinegnblankaaF14
namespace Go.Proofs.Ytahinegnblankaa
open Go Abs
set_option linter.unusedSimpArgs false
set_option linter.unusedVariables false

set_option maxRecDepth 10000 in
theorem rrow_spec (g : Heap) (j : Nat) : FnSpec Try.prog 70 [] g { v := .slice (some ⟨j, 0, some 256⟩) 256 1, j := j, a := [⟨false, 5, bs row0⟩] } := by
  refine spec_of_body [0] follows Try.func70 rfl (by kernel_rfl) (by simp [Try.f70]) (by kernel_rfl) rfl ?_
  intro g2 s2 n hg hfr hs hn hwf hsv
  refine s_run (by simp only [runL, awant_none, astep, evl, put, ap_none, List.length_nil, Nat.add_zero, undef] <;> rfl) ?_
  refine s_run (by simp only [runL, awant_none, astep, evl, put, ap_none, List.length_nil, Nat.add_zero] <;> rfl) ?_
  refine w_assoc (s_run (by simp only [runL, awant_none, astep, evl, put, ap_none, List.length_nil, Nat.add_zero] <;> rfl) ?_)
  refine s_for 0 256 (fun k t g n' => Own 5 g (t 1) (bs (List.range k)) n n' ∧ Kp n g2 g ∧ n ≤ n') (by omega) (by omega) (by simp []) ⟨by simp [upd_app]; exact Own.nil 5 g2 n n, Kp.refl _ _, Nat.le_refl _⟩ ?_ ?_ ?_
  · rintro k t g n' hk t2 ⟨hO, hkp, hnn⟩
    have dl : decide ((k : Int) < 256) = decide (k < 256) := by simp; omega
    exact ⟨_, (by simp only [runL, awant_none, astep, evl, put, ap_none, List.length_nil, Nat.add_zero, upd_app, stepBin, abin, ↓reduceIte, t2, dl] <;> rfl), by simp [], by simp [upd_app, t2], by simpa [upd_app] using hO, hkp, hnn⟩
  · rintro k t g n' hk t2 ⟨hO, hkp, hnn⟩
    have w1 : IntKind.u8.wrap (k : Int) = (k : Int) := wrap8_of hk
    obtain ⟨f, hf, hO', hk'⟩ := hO.push (P := Try.prog) (T := 24) (c := .int .u8 (k : Nat)) Try.underlying24 tinf5 (by simp; omega) (by omega) hnn
    refine region_run (id := 5) (by simp only [runL, awant_none, astep, evl, put, ap_none, ap_new, List.length_nil, List.length_cons, Nat.add_zero, Nat.zero_add, upd_app, stepCall, ↓reduceIte, Nat.reduceEqDiff, List.map_cons, List.map_nil, undef, t2, conv3_5, w1, lit24_1, hf] <;> rfl) ?_
    simp only [rangePost]
    refine ⟨by simp [upd_app, t2], fun _ _ _ => ⟨?_, fun q hq => by rw [hk' q hq, hkp q hq], by omega⟩⟩
    rw [List.range_succ, ← bs_app]
    simpa [upd_app] using hO'
  · rintro t g n' ⟨hO, hkp, hnn⟩
    refine s_run (by simp only [runL, awant_none, astep, evl, put, ap_none, List.length_nil, Nat.add_zero, upd_app, ↓reduceIte] <;> rfl) ?_
    refine w_ret ⟨.inr rfl, by simp, ?_⟩
    have := hO.fin (r := []) (j := j) (plain_bs _) hs hwf hkp
    rw [newE_own (by simp)] at this
    have hl : (bs row0).length = 256 := by simp
    rw [hl] at this
    simpa [resVal, upd_app] using this

set_option maxRecDepth 10000 in
theorem first_spec (v : Value) (r : List Nat) (k : Nat) (g : Heap) (j : Nat) (hl : r.length ≤ 2 ^ 38) (hk : k < r.length) (hv : Src g v 1 r.length (bs r)) : FnSpec Try.prog 71 [v, .int .i64 k] g { v := .slice (some ⟨j, 0, some r.length⟩) r.length 1, r := srcBlk v, j := j, a := [⟨false, 5, bs (mv r k)⟩] } := by
  refine spec_of_body [4] follows Try.func71 rfl (by kernel_rfl) (by simp [Try.f71]) (by kernel_rfl) rfl ?_
  intro g2 s2 n hg hfr hs hn hwf hsv
  have hv2 : Src g2 v 1 r.length (bs r) := hv.congr fun i hi => hg i (by simp [Eff.fp, hi])
  have hdom : ∀ i ∈ srcBlk v, i < n := fun i hi => by
    obtain ⟨b, hb⟩ := Option.isSome_iff_exists.1 (hv2.dom i hi)
    exact hs i (hwf i b hb).1
  obtain ⟨pa, i1, i2, i3⟩ := hv2.at1 (P := Try.prog) (i := k) (c := .int .u8 (byt r k)) (bs_at hk) Try.underlying24 tsize5 aggT5
  obtain ⟨a1, a2, a3, _⟩ := src_slV (P := Try.prog) hv2 Try.underlying24 tsize5 none (some (.int .i64 (k : Int))) 0 k rfl rfl (by omega) (by omega)
  obtain ⟨b1, b2, b3, _⟩ := src_slV (P := Try.prog) hv2 Try.underlying24 tsize5 (some (.int .i64 ((k + 1 : Nat) : Int))) none (k + 1) r.length rfl rfl (by omega) (Nat.le_refl _)
  have a2' : Src g2 (slV v 0 k) 1 (bs (r.take k)).length (bs (r.take k)) := by
    rw [List.length_map, List.length_take, Nat.min_eq_left (by omega)]; simpa using a2
  have b2' : Src g2 (slV v (k + 1) r.length) 1 (bs (r.drop (k + 1))).length (bs (r.drop (k + 1))) := by
    rw [List.length_map, List.length_drop]
    have e : ((bs r).drop (k + 1)).take (r.length - (k + 1)) = bs (r.drop (k + 1)) := by rw [List.take_of_length_le (by simp)]; exact List.map_drop.symm
    rw [e] at b2; exact b2
  have w1 : IntKind.i64.wrap ((k : Int) + 1) = ((k + 1 : Nat) : Int) := wrap_succ (by omega)
  refine s_run (by simp only [runL, awant_none, astep, evl, put, ap_none, List.length_nil, Nat.add_zero, undef] <;> rfl) ?_
  refine w_gen (fun t => t 0 = v ∧ t 1 = .int .i64 k) (by simp [upd_app]) ?_
  rintro t ⟨t0, t1⟩
  refine s_drawn #[0, 0, 3, 7, 15, 0, 0, 96, 255, 0, 0, 1024, 3584, 8191, 16383] (by decide +kernel) ?_
  refine d_pure 3 (by simp only [runP, List.take_succ_cons, List.take_zero, awant_none, astep, evl, put, upd_app, ↓reduceIte, Nat.reduceEqDiff, List.isEmpty_nil, Bool.and_self, t0, t1, i1] <;> rfl) ?_
  dsimp only
  refine d_low (lo := n) (hi := n) _ (by simp only [astep, evl, upd_app, ↓reduceIte, i2] <;> rfl) rfl (AccB.nil _ _ _) (by intro x hx; simp at hx; rw [hx]; exact hdom _ i3) rfl rfl (Nat.le_refl _) fun acc h1 => ?_
  refine d_new _ (by simp only [astep, evl, put, upd_app, ↓reduceIte, List.map_cons, List.map_nil, undef, lit24_1] <;> rfl) rfl (h1.le (Nat.le_refl _) (Nat.le_refl _) (by simp)) rfl rfl _ rfl rfl (Nat.le_refl _) fun acc h2 => ?_
  refine d_pure 3 (by simp only [runP, List.take_succ_cons, List.take_zero, awant_none, astep, evl, put, ap_new, upd_app, reduceCtorEq, ↓reduceIte, Nat.reduceEqDiff, Option.map_some, Option.map_none, List.isEmpty_nil, Bool.and_self, t0, t1, a1] <;> rfl) ?_
  dsimp only
  refine d_heap fun G1 hG1 => ?_
  have k1 : Kp n g2 G1 := by rw [hG1]; exact kp_upd (Kp.refl _ _) (Nat.le_refl _)
  have o1 : OwnB 5 G1 (.slice (some ⟨n, 0, some 1⟩) 1 1) (bs [byt r k]) n := ⟨rfl, by rw [hG1]; simp []⟩
  obtain ⟨f1, hf1, hfa1, o2, hk2⟩ := o1.append (P := Try.prog) (T := 24) (j := n + 1) (k1.src a2' (fun i hi => hdom i (a3 i hi))) Try.underlying24 tinf5 (by simp; omega) (by omega)
  obtain ⟨fr1, fw1⟩ := append_fp_some hf1
  refine d_full f1 (by simp only [astep, evl, upd_app, stepCall, ↓reduceIte, Nat.reduceEqDiff]; exact hf1) rfl (h2.le (Nat.le_refl _) (Nat.le_refl _) (by simp)) rfl (fun x hx => by
    rcases fr1 x hx with h | h
    · simp only at h; omega
    · have := hdom x (a3 x h); omega) (fun x hx => by have := fw1 x hx; simp only at this; omega) (by omega) fun acc h3 => ?_
  simp only [hfa1, List.length_nil, Nat.add_zero] at h3 ⊢
  refine d_heap fun G2 hG2 => ?_
  rw [← hG2] at o2 hk2
  refine d_pure 4 (by simp only [runP, List.take_succ_cons, List.take_zero, awant_none, astep, evl, put, upd_app, stepBin, abin, reduceCtorEq, ↓reduceIte, Nat.reduceEqDiff, Option.map_some, Option.map_none, List.isEmpty_nil, Bool.and_self, t0, t1, w1, b1] <;> rfl) ?_
  dsimp only
  have kb : Kp n g2 G2 := fun q hq => by rw [hk2 q (by omega), k1 q hq]
  obtain ⟨f2, hf2, hfa2, o3, hk3⟩ := o2.append (P := Try.prog) (T := 24) (j := n + 1) (kb.src b2' (fun i hi => hdom i (b3 i hi))) Try.underlying24 tinf5 (by simp; omega) (by omega)
  have fw2 : (∀ x ∈ f2.r, x = n ∨ x ∈ srcBlk (slV v (k + 1) r.length)) ∧ ∀ x ∈ f2.wr, x = n := by
    rw [o2.1] at hf2
    exact append_fp_some hf2
  refine d_full f2 (by simp only [astep, evl, upd_app, stepCall, ↓reduceIte, Nat.reduceEqDiff]; exact hf2) rfl (h3.le (Nat.le_refl _) (Nat.le_refl _) (by simp)) rfl (fun x hx => by
    rcases fw2.1 x hx with h | h
    · omega
    · have := hdom x (b3 x h); omega) (fun x hx => by have := fw2.2 x hx; omega) (by omega) fun acc h4 => ?_
  simp only [hfa2, List.length_nil, Nat.add_zero] at h4 ⊢
  refine d_heap fun G3 hG3 => ?_
  rw [← hG3] at o3 hk3
  refine d_pure 1 (by simp only [runP, List.take_succ_cons, List.take_zero, awant_none, astep, evl, put, upd_app, ↓reduceIte, List.isEmpty_nil, Bool.and_self] <;> rfl) ?_
  have hcell : bs [byt r k] ++ bs (r.take k) ++ bs (r.drop (k + 1)) = bs (mv r k) := by simp [mv]
  rw [hcell] at o3
  obtain ⟨o4, o5⟩ := o3
  have hml : (bs (mv r k)).length = r.length := by simp [mv_len hk]
  refine w_ret ⟨.inr rfl, by simp, [n], ?_⟩
  have := fin_slice (s2 := s2) (g2 := g2) (n := n) (j := j) (r := srcBlk v) (k := n) (e := 5) (cs := bs (mv r k)) (m := r.length) (esz := 1) (v' := f2.v) (by rw [o4, hml]) (Nat.le_refl _) o5 plain_ints (fun i b hb => by
    have := hs i (hwf i b hb).1
    rw [hk3 i (by omega), kb i this]; exact hb)
  rw [hml] at this
  simpa [resVal, upd_app, put] using this

/-- A new row stays where out is pushed to. -/
theorem Own.push' {P : Program} {g : Heap} {n n' : Nat} {T e : TypeId} {zs : List Value} {bytes : Nat} {v c : Value} {l : List Value} (h : Own e g v l n n') (ht : P.underlying T = some (.slice e)) (hti : tinf P e = some (zs, 1, bytes)) (hb1 : l.length + 1 ≤ 1099511627776) (hb2 : bytes ≤ 100) (hn : n ≤ n') :
    ∃ f, stepAppend P T T v (.slice (some ⟨n', 0, some 1⟩) 1 1) (upd g n' (some ⟨false, e, [c]⟩)) (n' + 1) = some f ∧ Own e (f.ap (upd g n' (some ⟨false, e, [c]⟩))) f.v (l ++ [c]) n (n' + 1 + f.a.length) ∧ Kp n g (f.ap (upd g n' (some ⟨false, e, [c]⟩))) ∧
      (∀ q, q < n' → q ∉ srcBlk v → f.ap (upd g n' (some ⟨false, e, [c]⟩)) q = g q) ∧ (∀ q ∈ srcBlk f.v, q ∈ srcBlk v ∨ n' < q) := by
  obtain ⟨f, hf, hO, hk⟩ := h.push (P := P) (c := c) ht hti hb1 hb2 hn
  refine ⟨f, hf, hO, hk, fun q hq hv => ?_, fun q hq => ?_⟩
  · have hw := h.append_wr hf
    rw [ap_out (fun hx => by
      rcases hw q hx with h1 | h1
      · exact hv h1
      · omega), upd_ne _ _ (by omega)]
  · -- the slice that comes out lies in the old block or a new one
    obtain ⟨i, h1, h2⟩ := h
    rcases h1 with ⟨_, rfl, h3, h4⟩ | ⟨p, rfl, rfl, h3, h4⟩
    · have hl : l = [] := h4
      subst hl
      simp only [stepAppend, if_true, ht, hti, srcCells] at hf
      simp [rd] at hf
      obtain ⟨_, hf⟩ := hf
      right
      rw [← hf] at hq
      have := srcBlk_own q hq
      omega
    · have hs := srcBlk_own (k := p) (m := l.length) (o := 0) (sp := some l.length) (e := 1)
      simp only [stepAppend, if_true, ht, hti] at hf
      have hl0 := (h2 p rfl).2.2
      have hpn := (h2 p rfl).2.1
      have hr : rd (upd g n' (some ⟨false, e, [c]⟩)) ⟨p, 0, some l.length⟩ = some ⟨false, e, l⟩ := by simp [rd, upd_app, show p ≠ n' by omega, h3]
      simp [srcCells, rd, upd_app, show p ≠ n' by omega, h3] at hf
      obtain ⟨_, hf⟩ := hf
      left
      rw [← hf] at hq
      have := srcBlk_own q hq
      simp only [srcBlk]
      rw [if_neg hl0]
      simp [this]

set_option maxRecDepth 10000 in
theorem rmove_spec (v : Value) (l : List Nat) (g : Heap) (j : Nat) (hl : l.length ≤ 2 ^ 38) (hb : ∀ x ∈ l, x < 256) (hv : Src g v 1 l.length (bs l)) : FnSpec Try.prog 28 [v] g (newE 5 (bs (move l row0)) (srcBlk v) j) := by
  refine spec_of_body [2] follows Try.func28 rfl (by kernel_rfl) (by simp [Try.f28]) (by kernel_rfl) rfl ?_
  intro g2 s2 n hg hfr hs hn hwf hsv
  have hv2 : Src g2 v 1 l.length (bs l) := hv.congr fun i hi => hg i (by rw [newE_fp]; exact hi)
  have hlen := hv2.len Try.underlying24
  have hdom : ∀ i ∈ srcBlk v, i < n := fun i hi => by
    obtain ⟨b, hb⟩ := Option.isSome_iff_exists.1 (hv2.dom i hi)
    exact hs i (hwf i b hb).1
  refine s_run (by simp only [runL, awant_none, astep, evl, put, ap_none, List.length_nil, Nat.add_zero, undef] <;> rfl) ?_
  refine s_take 0 (by simp only [runL, List.take_zero] <;> rfl) ?_
  refine ops_call 70 _ rfl (rrow_spec g2 n) (by intro _; rfl) (ops_heap fun G1 hG1 => ?_)
  have k1 : Kp n g2 G1 := by rw [hG1]; exact kp_ap (Kp.refl _ _) rfl (fun _ => Nat.le_refl _)
  have b1 : G1 n = some ⟨false, 5, bs row0⟩ := by rw [hG1]; simp [ap_new]
  refine ops_run (by simp only [runL, awant_none, astep, evl, put, ap_none, List.length_nil, List.length_cons, Nat.add_zero, Nat.zero_add, upd_app, ↓reduceIte] <;> rfl) ?_
  refine s_run (by simp only [runL, awant_none, astep, evl, put, ap_none, List.length_nil, Nat.add_zero] <;> rfl) ?_
  refine w_assoc (s_run (by simp only [runL, awant_none, astep, evl, put, ap_none, List.length_nil, Nat.add_zero] <;> rfl) ?_)
  have hml := move_len l row0
  refine s_for 0 l.length (fun k t g n' => ∃ (d r : List Nat), d.length = k ∧ d ++ move (l.drop k) r = move l row0 ∧ Full r ∧ t 0 = v ∧ Src g (t 3) 1 r.length (bs r) ∧ (∀ i ∈ srcBlk (t 3), i < n' ∧ i ∉ srcBlk (t 4)) ∧ Own 5 g (t 4) (bs d) n n' ∧ Kp n g2 g ∧ n ≤ n') (by omega) (by omega) (by simp [])
    ⟨[], row0, rfl, by simp, full_row, by simp [upd_app], by simp only [upd_app]; simpa using src_bs (m := 256) b1 (by simp), by simp [upd_app, srcBlk], by simp [upd_app]; exact Own.nil 5 G1 n _, k1, by simp⟩ ?_ ?_ ?_
  · rintro k t g n' hk t5 ⟨d, r, hd, ho, hF, t0, hS, hdis, hO, hkp, hnn⟩
    have dl : decide ((k : Int) < (l.length : Int)) = decide (k < l.length) := by simp
    exact ⟨_, (by simp only [runL, awant_none, astep, evl, put, ap_none, List.length_nil, Nat.add_zero, upd_app, stepBin, abin, stepCall, reduceCtorEq, ↓reduceIte, Nat.reduceEqDiff, t5, t0, hlen, dl] <;> rfl), by simp [], by simp [upd_app, t5], d, r, hd, ho, hF, by simp [upd_app, t0], by simpa [upd_app] using hS, by simpa [upd_app] using hdis, by simpa [upd_app] using hO, hkp, hnn⟩
  · rintro k t g n' hk t5 ⟨d, r, hd, ho, hF, t0, hS, hdis, hO, hkp, hnn⟩
    have hvg := hkp.src hv2 hdom
    obtain ⟨pa, i1, i2, _⟩ := hvg.at1 (P := Try.prog) (i := k) (c := .int .u8 (byt l k)) (bs_at hk) Try.underlying24 tsize5 aggT5
    rw [drop_cons hk, move] at ho
    have hbk := byt_lt hb k
    generalize byt l k = c at i2 ho hbk
    have hci := hF.mem c hbk
    have hik := hF.idx hbk
    refine s_run (by simp only [runL, awant_none, astep, evl, put, ap_none, List.length_nil, Nat.add_zero] <;> rfl) ?_
    refine w_gen (fun t => t 5 = .int .i64 k ∧ t 0 = v ∧ Src g (t 3) 1 r.length (bs r) ∧ (∀ i ∈ srcBlk (t 3), i < n' ∧ i ∉ srcBlk (t 4)) ∧ Own 5 g (t 4) (bs d) n n' ∧ t 6 = .int .i64 0) (by simp only [upd_app]; simp [t5, t0, hS, hO]; exact hdis) ?_
    clear t5 t0 hS hdis hO
    rintro t ⟨t5, t0, hS, hdis, hO, t6⟩
    refine s_block (fun t' g' n'' => t' 5 = .int .i64 k ∧ t' 0 = v ∧ t' 3 = t 3 ∧ t' 4 = t 4 ∧ t' 6 = .int .i64 (idx r c) ∧ g' = g ∧ n'' = n') ?_ ?_
    · refine w_loop (fun t' g' n'' => ∃ q, q ≤ idx r c ∧ t' 5 = .int .i64 k ∧ t' 0 = v ∧ t' 3 = t 3 ∧ t' 4 = t 4 ∧ t' 6 = .int .i64 q ∧ g' = g ∧ n'' = n') (fun t' _ _ => match t' 6 with | .int _ q => 256 - q.toNat | _ => 0) ⟨0, by omega, t5, t0, rfl, rfl, t6, rfl, rfl⟩ ?_
      rintro t' g' n'' ⟨q, hq, q5, q0, q3, q4, q6, rfl, rfl⟩
      have hq256 : q < r.length := by rw [hF.len]; omega
      obtain ⟨pb, m1, m2, _⟩ := hS.at1 (P := Try.prog) (i := q) (c := .int .u8 (byt r q)) (bs_at hq256) Try.underlying24 tsize5 aggT5
      by_cases he : byt r q = c
      · have hqi : q = idx r c := by
          rcases Nat.lt_or_ge q (idx r c) with h | h
          · exact absurd he (idx_before h)
          · omega
        have d1 : ((byt r q : Int) != (c : Int)) = false := ine_f (by omega)
        refine w_assoc (s_draw #[0, 0, 3, 7, 0, 0, 48, 112, 255] (by decide +kernel) (by simp only [runR, awant_none, astep, evl, put, upd_app, stepBin, abin, reduceCtorEq, ↓reduceIte, Nat.reduceEqDiff, List.isEmpty_nil, Bool.and_self, q3, q0, q5, q6, m1, m2, i1, i2, d1] <;> rfl) ?_)
        refine s_false (by simp [evl]) (s_exit ?_)
        exact ⟨by simp [upd_app, q5], by simp [upd_app, q0], by simp [upd_app, q3], by simp [upd_app, q4], by simp [upd_app, q6, hqi], rfl, rfl⟩
      · have d1 : ((byt r q : Int) != (c : Int)) = true := ine_t (by omega)
        have hne : q ≠ idx r c := fun e => he (by rw [e]; exact idx_byt hci)
        have w1 : IntKind.i64.wrap ((q : Int) + 1) = ((q + 1 : Nat) : Int) := wrap_succ (by omega)
        refine w_assoc (s_draw #[0, 0, 3, 7, 0, 0, 48, 112, 255] (by decide +kernel) (by simp only [runR, awant_none, astep, evl, put, upd_app, stepBin, abin, reduceCtorEq, ↓reduceIte, Nat.reduceEqDiff, List.isEmpty_nil, Bool.and_self, q3, q0, q5, q6, m1, m2, i1, i2, d1] <;> rfl) ?_)
        refine s_true (by simp [evl]) (s_skip (w_block ?_))
        refine region_run (id := 8) (by simp only [runL, awant_none, astep, evl, put, ap_none, List.length_nil, Nat.add_zero, upd_app, stepBin, abin, ↓reduceIte, Nat.reduceEqDiff, q6, w1] <;> rfl) ?_
        refine ⟨⟨q + 1, by omega, by simp [upd_app, q5], by simp [upd_app, q0], by simp [upd_app, q3], by simp [upd_app, q4], by simp [], rfl, rfl⟩, ?_⟩
        rw [q6]
        simp only [upd_app, if_true, Int.toNat_natCast]
        omega
    · rintro t' g' n'' ⟨q5, q0, q3, q4, q6, rfl, rfl⟩
      rw [← q3] at hS hdis
      rw [← q4] at hdis hO
      clear t5 t0 t6
      have w1 : IntKind.u8.wrap ((idx r c : Nat) : Int) = ((idx r c : Nat) : Int) := wrap8_of hik
      obtain ⟨f, hf, hO', hk', hq', hb'⟩ := hO.push' (P := Try.prog) (T := 24) (c := .int .u8 (idx r c : Nat)) Try.underlying24 tinf5 (by simp; omega) (by omega) hnn
      refine s_run (by simp only [runL, awant_none, astep, evl, put, ap_none, ap_new, List.length_nil, List.length_cons, Nat.add_zero, Nat.zero_add, upd_app, stepCall, ↓reduceIte, Nat.reduceEqDiff, List.map_cons, List.map_nil, undef, q6, conv3_5, w1, lit24_1, hf] <;> rfl) (w_heap fun G3 hG3 => ?_)
      rw [← hG3] at hO' hk' hq'
      have hS3 : Src G3 (t' 3) 1 r.length (bs r) := hS.congr fun i hi => hq' i (hdis i hi).1 (hdis i hi).2
      refine w_gen (fun u => u 5 = .int .i64 k ∧ u 0 = v ∧ u 3 = t' 3 ∧ u 4 = f.v ∧ u 6 = .int .i64 (idx r c)) (by simp [upd_app, q5, q0, q6]) ?_
      rintro u ⟨u5, u0, u3, u4, u6⟩
      refine region_take (id := 10) 2 (by simp only [runL, List.take_succ_cons, List.take_zero, awant_none, astep, evl, put, ap_none, List.length_nil, Nat.add_zero, upd_app, ↓reduceIte, Nat.reduceEqDiff, u3, u6] <;> rfl) ?_
      refine ops_call 71 _ rfl (first_spec (t' 3) r (idx r c) G3 (n'' + 1 + f.a.length) (by rw [hF.len]; omega) (by rw [hF.len]; exact hik) hS3) (by intro _; rfl) (ops_heap fun G4 hG4 => ?_)
      have k4 : Kp (n'' + 1 + f.a.length) G3 G4 := by rw [hG4]; exact kp_ap (Kp.refl _ _) rfl (fun _ => Nat.le_refl _)
      have b4 : G4 (n'' + 1 + f.a.length) = some ⟨false, 5, bs (mv r (idx r c))⟩ := by rw [hG4]; simp [ap_new]
      have hrl : (mv r (idx r c)).length = r.length := mv_len (by rw [hF.len]; exact hik)
      refine ops_run (by simp only [runL, awant_none, astep, evl, put, ap_none, List.length_nil, List.length_cons, Nat.add_zero, Nat.zero_add, upd_app, ↓reduceIte] <;> rfl) ?_
      simp only [rangePost]
      refine ⟨by simp [upd_app, u5], fun _ _ _ => ⟨d ++ [idx r c], mv r (idx r c), by simp [hd], by rw [← ho]; simp, hF.mv hik, by simp [upd_app, u0], ?_, ?_, ?_, fun q hq => by show G4 q = g2 q; rw [k4 q (by omega), hk' q hq, hkp q hq], by first | omega | (simp; omega)⟩⟩
      · simp only [upd_app]
        have := src_bs (m := r.length) b4 hrl.symm
        simpa using this
      · simp only [upd_app]
        intro i hi
        have h1 := srcBlk_own i hi
        try simp only [upd_app] at h1 ⊢
        refine ⟨by first | omega | (simp; omega), fun h2 => ?_⟩
        have h3 : i ∈ srcBlk f.v := by simpa [u4] using h2
        have := hO'.blk i h3
        omega
      · have hO4 := hO'.keep k4 (Nat.le_succ _)
        rw [← bs_app]
        simpa [upd_app, put, u4] using hO4
  · rintro t g n' ⟨d, r, hd, ho, hF, t0, hS, hdis, hO, hkp, hnn⟩
    rw [List.drop_length, move, List.append_nil] at ho
    subst ho
    refine s_run (by simp only [runL, awant_none, astep, evl, put, ap_none, List.length_nil, Nat.add_zero, upd_app, ↓reduceIte] <;> rfl) ?_
    refine w_ret ⟨.inr rfl, by simp, ?_⟩
    have := hO.fin (r := srcBlk v) (j := j) (plain_bs _) hs hwf hkp
    simpa [resVal, upd_app] using this

set_option maxRecDepth 10000 in
theorem rback_spec (v : Value) (l : List Nat) (g : Heap) (j : Nat) (hl : l.length ≤ 2 ^ 38) (hb : ∀ x ∈ l, x < 256) (hv : Src g v 1 l.length (bs l)) : FnSpec Try.prog 29 [v] g (newE 5 (bs (back l row0)) (srcBlk v) j) := by
  refine spec_of_body [2] follows Try.func29 rfl (by kernel_rfl) (by simp [Try.f29]) (by kernel_rfl) rfl ?_
  intro g2 s2 n hg hfr hs hn hwf hsv
  have hv2 : Src g2 v 1 l.length (bs l) := hv.congr fun i hi => hg i (by rw [newE_fp]; exact hi)
  have hlen := hv2.len Try.underlying24
  have hdom : ∀ i ∈ srcBlk v, i < n := fun i hi => by
    obtain ⟨b, hb⟩ := Option.isSome_iff_exists.1 (hv2.dom i hi)
    exact hs i (hwf i b hb).1
  refine s_run (by simp only [runL, awant_none, astep, evl, put, ap_none, List.length_nil, Nat.add_zero, undef] <;> rfl) ?_
  refine s_take 0 (by simp only [runL, List.take_zero] <;> rfl) ?_
  refine ops_call 70 _ rfl (rrow_spec g2 n) (by intro _; rfl) (ops_heap fun G1 hG1 => ?_)
  have k1 : Kp n g2 G1 := by rw [hG1]; exact kp_ap (Kp.refl _ _) rfl (fun _ => Nat.le_refl _)
  have b1 : G1 n = some ⟨false, 5, bs row0⟩ := by rw [hG1]; simp [ap_new]
  refine ops_run (by simp only [runL, awant_none, astep, evl, put, ap_none, List.length_nil, List.length_cons, Nat.add_zero, Nat.zero_add, upd_app, ↓reduceIte] <;> rfl) ?_
  refine s_run (by simp only [runL, awant_none, astep, evl, put, ap_none, List.length_nil, Nat.add_zero] <;> rfl) ?_
  refine w_assoc (s_run (by simp only [runL, awant_none, astep, evl, put, ap_none, List.length_nil, Nat.add_zero] <;> rfl) ?_)
  have hml := back_len l row0
  refine s_for 0 l.length (fun k t g n' => ∃ (d r : List Nat), d.length = k ∧ d ++ back (l.drop k) r = back l row0 ∧ Full r ∧ t 0 = v ∧ Src g (t 3) 1 r.length (bs r) ∧ (∀ i ∈ srcBlk (t 3), i < n' ∧ i ∉ srcBlk (t 4)) ∧ Own 5 g (t 4) (bs d) n n' ∧ Kp n g2 g ∧ n ≤ n') (by omega) (by omega) (by simp [])
    ⟨[], row0, rfl, by simp, full_row, by simp [upd_app], by simp only [upd_app]; simpa using src_bs (m := 256) b1 (by simp), by simp [upd_app, srcBlk], by simp [upd_app]; exact Own.nil 5 G1 n _, k1, by simp⟩ ?_ ?_ ?_
  · rintro k t g n' hk t5 ⟨d, r, hd, ho, hF, t0, hS, hdis, hO, hkp, hnn⟩
    have dl : decide ((k : Int) < (l.length : Int)) = decide (k < l.length) := by simp
    exact ⟨_, (by simp only [runL, awant_none, astep, evl, put, ap_none, List.length_nil, Nat.add_zero, upd_app, stepBin, abin, stepCall, reduceCtorEq, ↓reduceIte, Nat.reduceEqDiff, t5, t0, hlen, dl] <;> rfl), by simp [], by simp [upd_app, t5], d, r, hd, ho, hF, by simp [upd_app, t0], by simpa [upd_app] using hS, by simpa [upd_app] using hdis, by simpa [upd_app] using hO, hkp, hnn⟩
  · rintro k t g n' hk t5 ⟨d, r, hd, ho, hF, t0, hS, hdis, hO, hkp, hnn⟩
    have hvg := hkp.src hv2 hdom
    obtain ⟨pa, i1, i2, _⟩ := hvg.at1 (P := Try.prog) (i := k) (c := .int .u8 (byt l k)) (bs_at hk) Try.underlying24 tsize5 aggT5
    rw [drop_cons hk, back] at ho
    have hbk := byt_lt hb k
    have hlk : byt l k < 256 := hbk
    obtain ⟨c, hc⟩ : ∃ c, c = byt l k := ⟨_, rfl⟩
    rw [← hc] at i2 ho hbk
    obtain ⟨pb, m1, m2, _⟩ := hS.at1 (P := Try.prog) (i := c) (c := .int .u8 (byt r c)) (bs_at (by rw [hF.len]; exact hbk)) Try.underlying24 tsize5 aggT5
    obtain ⟨f, hf, hO', hk', hq', hb'⟩ := hO.push' (P := Try.prog) (T := 24) (c := .int .u8 (byt r c : Nat)) Try.underlying24 tinf5 (by simp; omega) (by omega) hnn
    refine s_run (by simp only [runL, awant_none, astep, evl, put, ap_none, ap_new, List.length_nil, List.length_cons, Nat.add_zero, Nat.zero_add, upd_app, stepCall, reduceCtorEq, ↓reduceIte, Nat.reduceEqDiff, List.map_cons, List.map_nil, undef, t0, t5, i1, i2, m1, m2, lit24_1, hf] <;> rfl) (w_heap fun G3 hG3 => ?_)
    rw [← hG3] at hO' hk' hq'
    have hS3 : Src G3 (t 3) 1 r.length (bs r) := hS.congr fun i hi => hq' i (hdis i hi).1 (hdis i hi).2
    refine w_gen (fun u => u 5 = .int .i64 k ∧ u 0 = v ∧ u 3 = t 3 ∧ u 4 = f.v) (by simp [upd_app, t5, t0]) ?_
    rintro u ⟨u5, u0, u3, u4⟩
    have kg : Kp n g2 G3 := fun q hq => by rw [hk' q hq, hkp q hq]
    obtain ⟨pa', j1, j2, _⟩ := (kg.src hv2 hdom).at1 (P := Try.prog) (i := k) (c := .int .u8 c) (by rw [hc]; exact bs_at hk) Try.underlying24 tsize5 aggT5
    have w0 : IntKind.i64.wrap (c : Int) = (c : Int) := wrap_nat (by omega)
    refine region_take (id := 7) 6 (by simp only [runL, List.take_succ_cons, List.take_zero, awant_none, astep, evl, put, ap_none, List.length_nil, Nat.add_zero, upd_app, reduceCtorEq, ↓reduceIte, Nat.reduceEqDiff, u0, u3, u5, j1, j2, conv5_3, w0] <;> rfl) ?_
    refine ops_call 71 _ rfl (first_spec (t 3) r c G3 (n' + 1 + f.a.length) (by rw [hF.len]; omega) (by rw [hF.len]; exact hbk) hS3) (by intro _; rfl) (ops_heap fun G4 hG4 => ?_)
    have k4 : Kp (n' + 1 + f.a.length) G3 G4 := by rw [hG4]; exact kp_ap (Kp.refl _ _) rfl (fun _ => Nat.le_refl _)
    have b4 : G4 (n' + 1 + f.a.length) = some ⟨false, 5, bs (mv r c)⟩ := by rw [hG4]; simp [ap_new]
    have hrl : (mv r c).length = r.length := mv_len (by rw [hF.len]; exact hbk)
    refine ops_run (by simp only [runL, awant_none, astep, evl, put, ap_none, List.length_nil, List.length_cons, Nat.add_zero, Nat.zero_add, upd_app, ↓reduceIte] <;> rfl) ?_
    simp only [rangePost]
    refine ⟨by simp [upd_app, u5], fun _ _ _ => ⟨d ++ [byt r c], mv r c, by simp [hd], by rw [← ho]; simp, hF.mv hbk, by simp [upd_app, u0], ?_, ?_, ?_, fun q hq => by show G4 q = g2 q; rw [k4 q (by omega), hk' q hq, hkp q hq], by first | omega | (simp; omega)⟩⟩
    · simp only [upd_app]
      have := src_bs (m := r.length) b4 hrl.symm
      simpa using this
    · simp only [upd_app]
      intro i hi
      have h1 := srcBlk_own i hi
      try simp only [upd_app] at h1 ⊢
      refine ⟨by first | omega | (simp; omega), fun h2 => ?_⟩
      have h3 : i ∈ srcBlk f.v := by simpa [u4] using h2
      have := hO'.blk i h3
      omega
    · have hO4 := hO'.keep k4 (Nat.le_succ _)
      rw [← bs_app]
      simpa [upd_app, put, u4] using hO4
  · rintro t g n' ⟨d, r, hd, ho, hF, t0, hS, hdis, hO, hkp, hnn⟩
    rw [List.drop_length, back, List.append_nil] at ho
    subst ho
    refine s_run (by simp only [runL, awant_none, astep, evl, put, ap_none, List.length_nil, Nat.add_zero, upd_app, ↓reduceIte] <;> rfl) ?_
    refine w_ret ⟨.inr rfl, by simp, ?_⟩
    have := hO.fin (r := srcBlk v) (j := j) (plain_bs _) hs hwf hkp
    simpa [resVal, upd_app] using this
end Go.Proofs.Ytahinegnblankaa
