import Derived.Test.YtdpkhijbikbhnaaGreatT9
namespace Go.Proofs.YtdpkhijbikbhnaaGreat
open Go Abs Plain
set_option linter.unusedSimpArgs false
set_option linter.unusedVariables false

theorem srcL {g : Heap} {v : Value} {l : List Nat} (h : Src g v 1 l.length (ints l)) : Src g v 1 (ints l).length (ints l) := by rw [List.length_map]; exact h
theorem ints_drop (l : List Nat) (i k : Nat) : ((ints l).drop i).take k = ints ((l.drop i).take k) := by simp [ints]
/-- A part of a row of numbers. -/
theorem sliceN {g : Heap} {v : Value} {l : List Nat} (h : Src g v 1 l.length (ints l)) (lo hi : Option Value) (a b : Nat) (hl : boundOf lo 0 = some (a : Int)) (hh : boundOf hi (l.length : Int) = some (b : Int)) (h1 : a ≤ b) (h2 : b ≤ l.length) :
    stepSlice Tryz.prog 23 v lo hi = some { v := slV v a b } ∧ Src g (slV v a b) 1 ((l.drop a).take (b - a)).length (ints ((l.drop a).take (b - a))) ∧ ∀ i ∈ srcBlk (slV v a b), i ∈ srcBlk v := by
  obtain ⟨e1, e2, e3, _⟩ := src_slV (P := Tryz.prog) h Tryz.underlying23 tsize3 lo hi a b hl hh h1 h2
  refine ⟨e1, ?_, e3⟩
  rw [ints_drop] at e2
  have : ((l.drop a).take (b - a)).length = b - a := by simp; omega
  rw [this]; exact e2
theorem sliceLo {g : Heap} {v : Value} {l : List Nat} (h : Src g v 1 l.length (ints l)) {a : Nat} (ha : a ≤ l.length) :
    stepSlice Tryz.prog 23 v (some (.int .i64 (a : Int))) none = some { v := slV v a l.length } ∧ Src g (slV v a l.length) 1 (l.drop a).length (ints (l.drop a)) ∧ ∀ i ∈ srcBlk (slV v a l.length), i ∈ srcBlk v := by
  have := sliceN h (some (.int .i64 (a : Int))) none a l.length (by simp [boundOf]) (by simp [boundOf]) ha (Nat.le_refl _)
  rwa [List.take_of_length_le (by simp)] at this
theorem sliceHi {g : Heap} {v : Value} {l : List Nat} (h : Src g v 1 l.length (ints l)) {b : Nat} (hb : b ≤ l.length) :
    stepSlice Tryz.prog 23 v none (some (.int .i64 (b : Int))) = some { v := slV v 0 b } ∧ Src g (slV v 0 b) 1 (l.take b).length (ints (l.take b)) ∧ ∀ i ∈ srcBlk (slV v 0 b), i ∈ srcBlk v := by
  have := sliceN h none (some (.int .i64 (b : Int))) 0 b (by simp [boundOf]) (by simp [boundOf]) (Nat.zero_le _) hb
  simpa using this
theorem OwnB.toOwn {e : TypeId} {g : Heap} {v : Value} {l : List Value} {k n n' : Nat} (h : OwnB e g v l k) (h0 : l.length ≠ 0) (h1 : n ≤ k) (h2 : k < n') : Own e g v l n n' :=
  ⟨some k, .inr ⟨k, rfl, h.1, h.2, by simp⟩, fun q hq => by cases hq; exact ⟨h1, h2, h0⟩⟩

theorem ordL_len (s : List Nat) : ∀ i, (ordL s i).length = i
  | 0 => rfl
  | i + 1 => by
    have ih := ordL_len s i
    have := ipos_le s (ordL s i) i (ordL s i).length
    rw [ordL, insL]
    simp
    omega
theorem ordL_mem {s : List Nat} {i : Nat} (hi : i ≤ s.length) {k : Nat} (hk : k < i) : byt (ordL s i) k < i := by
  have hl := ordL_len s i
  have hm : byt (ordL s i) k ∈ ordL s i := by rw [byt_eq (by omega)]; exact List.getElem_mem (by omega)
  simpa using (ordL_ok i hi).1.mem_iff.1 hm

set_option maxRecDepth 20000 in
theorem order_spec (v : Value) (s : List Nat) (g : Heap) (j : Nat) (hl : s.length ≤ 2 ^ 30) (hv : Src g v 1 s.length (ints s)) : FnSpec Tryz.prog 17 [v] g (newE 3 (ints (ordL s s.length)) (srcBlk v) j) := by
  refine spec_of_body [2] follows Tryz.func17 rfl (by kernel_rfl) (by simp [Tryz.f17]) (by kernel_rfl) rfl ?_
  intro g2 s2 n hg hfr hs hn hwf hsv
  have hv2 : Src g2 v 1 s.length (ints s) := hv.congr fun i hi => hg i (by rw [newE_fp]; exact hi)
  have hvd := dom_of hs hwf hv2
  have hlen := hv2.len Tryz.underlying23
  clear hg hfr hn hv
  refine s_run (by simp only [runL, awant_none, astep, evl, put, ap_none, List.length_nil, Nat.add_zero, undef] <;> rfl) ?_
  refine s_run (by simp only [runL, awant_none, astep, evl, put, ap_none, List.length_nil, Nat.add_zero] <;> rfl) ?_
  refine w_assoc (s_run (by simp only [runL, awant_none, astep, evl, put, ap_none, List.length_nil, Nat.add_zero] <;> rfl) ?_)
  refine s_for 0 s.length (fun k t g n' => t 0 = v ∧ Own 3 g (t 3) (ints (ordL s k)) n n' ∧ Kp n g2 g ∧ n ≤ n') (by omega) (by omega) (by simp []) ⟨by simp [upd_app], by simp [upd_app]; exact Own.nil _ _ _ _, Kp.refl _ _, Nat.le_refl _⟩ ?_ ?_ ?_
  · rintro k t g m hk t4 ⟨t0, hO, hkp, hnn⟩
    have dl : decide ((k : Int) < (s.length : Int)) = decide (k < s.length) := by simp
    exact ⟨_, (by simp only [runL, awant_none, astep, evl, put, ap_none, List.length_nil, Nat.add_zero, upd_app, stepBin, abin, stepCall, reduceCtorEq, ↓reduceIte, Nat.reduceEqDiff, t4, t0, hlen, dl] <;> rfl), by simp [], by simp [upd_app, t4], by simp [upd_app, t0], by simpa [upd_app] using hO, hkp, hnn⟩
  · rintro k t g m hk t4 ⟨t0, hO, hkp, hnn⟩
    have hol := ordL_len s k
    have hle := ipos_le s (ordL s k) k k
    have hmem := fun q (hq : q < k) => ordL_mem (s := s) (show k ≤ s.length by omega) hq
    have hord : ordL s (k + 1) = (ordL s k).take (ipos s (ordL s k) k k) ++ k :: (ordL s k).drop (ipos s (ordL s k) k k) := by rw [ordL, insL, hol]
    obtain ⟨o, ho⟩ : ∃ o, ordL s k = o := ⟨_, rfl⟩
    rw [ho] at hO hol hle hmem hord
    have hvg := hkp.src hv2 hvd
    have hos : Src g (t 3) 1 o.length (ints o) := by have := hO.src; simpa using this
    have hlo := hos.len Tryz.underlying23
    obtain ⟨z, hz⟩ : ∃ z, t 3 = z := ⟨_, rfl⟩
    rw [hz] at hos hlo hO
    refine s_run (by simp only [runL, awant_none, astep, evl, put, ap_none, List.length_nil, Nat.add_zero, upd_app, stepCall, ↓reduceIte, hz, hlo] <;> rfl) ?_
    refine w_gen (fun t => t 0 = v ∧ t 3 = z ∧ t 4 = .int .i64 k ∧ t 5 = .int .i64 o.length) (by simp [upd_app, t0, t4, hz]) ?_
    clear t0 t4 hz
    rintro t ⟨t0, t3, t4, t5⟩
    obtain ⟨a1, a2, a3⟩ := sliceLo hvg (show k ≤ s.length by omega)
    refine s_block (fun t g' n' => g' = g ∧ n' = m ∧ t 0 = v ∧ t 3 = z ∧ t 4 = .int .i64 k ∧ t 5 = .int .i64 (ipos s o k k : Nat)) ?_ ?_
    · refine w_loop (fun t g' n' => g' = g ∧ n' = m ∧ t 0 = v ∧ t 3 = z ∧ t 4 = .int .i64 k ∧ ∃ q : Nat, t 5 = .int .i64 q ∧ q ≤ k ∧ ipos s o k q = ipos s o k k) (fun t _ _ => match t 5 with | .int _ k => k.toNat | _ => 0) ⟨rfl, rfl, t0, t3, t4, k, by rw [t5, hol], Nat.le_refl _, rfl⟩ ?_
      clear t0 t3 t4 t5
      rintro t g' n' ⟨hgg, hnn', t0, t3, t4, q, t5, hq, hip⟩
      subst hgg hnn'
      have hμ : (match t 5 with | .int _ k => k.toNat | _ => 0) = q := by rw [t5]; rfl
      by_cases h0 : q = 0
      · have d1 : decide ((q : Int) > 0) = false := decide_eq_false (by omega)
        refine w_assoc (s_draw #[0, 1, 3, 7, 7, 31, 7, 7, 7, 263, 903, 1927, 4039, 8191, 16383, 32767] (by decide +kernel) (by simp only [runR, awant_some, List.getElem?_toArray, List.getElem?_cons_succ, List.getElem?_cons_zero, Option.bind_some, b_ft, awant_none, astep, evl, put, upd_app, stepBin, abin, stepPick, ↓reduceIte, Nat.reduceEqDiff, Bool.false_eq_true, undef, List.isEmpty_nil, Bool.and_self, t5, d1] <;> rfl) ?_)
        refine s_false (by simp [evl]) (s_exit ?_)
        have : ipos s o k k = 0 := by rw [← hip, h0]; rfl
        exact ⟨rfl, rfl, by simp [upd_app, t0], by simp [upd_app, t3], by simp [upd_app, t4], by simp [upd_app, t5, this, h0]⟩
      · have d1 : decide ((q : Int) > 0) = true := decide_eq_true (by omega)
        have w1 : IntKind.i64.wrap ((q : Int) - 1) = ((q - 1 : Nat) : Int) := wrap_sub1 (by omega) (by omega)
        obtain ⟨p, i1, l1, _⟩ := srcN hos (show q - 1 < o.length by omega)
        have hy := hmem (q - 1) (by omega)
        have hlx : ipos s o k q = if lx (s.drop k) (s.drop (byt o (q - 1))) then ipos s o k (q - 1) else q := by
          conv => lhs; rw [show q = (q - 1) + 1 by omega]
          rw [ipos, nth_byt, show q - 1 + 1 = q by omega]
        generalize byt o (q - 1) = y at *
        obtain ⟨b1, b2, b3⟩ := sliceLo hvg (show y ≤ s.length by omega)
        have hw := words_spec (slV v k s.length) (slV v y s.length) (s.drop k) (s.drop y) g' (by simp; omega) (by simp; omega) a2 b2
        refine w_assoc (s_drawn #[0, 1, 3, 7, 7, 31, 7, 7, 7, 263, 903, 1927, 4039, 8191, 16383, 32767] (by decide +kernel) ?_)
        refine d_readsB 13 (by simp) (by simp only [runR, awant_some, List.getElem?_toArray, List.getElem?_cons_succ, List.getElem?_cons_zero, Option.bind_some, b_tt, List.take_succ_cons, List.take_zero, awant_none, astep, evl, put, upd_app, stepBin, abin, reduceCtorEq, ↓reduceIte, Nat.reduceEqDiff, Option.map_some, Option.map_none, List.isEmpty_nil, Bool.and_self, t0, t3, t4, t5, d1, a1, w1, i1, l1, b1] <;> rfl) fun c1 hc1 => ?_
        refine d_rcall 26 _ rfl rfl rfl (by simp only [awant_some, List.getElem?_toArray, List.getElem?_cons_succ, List.getElem?_cons_zero, Option.bind_some, b_tt, upd_app, ↓reduceIte, Nat.reduceEqDiff] <;> rfl) hw rfl rfl hc1 fun c2 hc2 => ?_
        have hneg := wcmp_neg (s.drop k) (s.drop y)
        cases hb : lx (s.drop k) (s.drop y) with
        | true =>
          rw [hb] at hneg hlx
          refine d_readsB 2 hc2 (by simp only [runR, awant_some, List.getElem?_toArray, List.getElem?_cons_succ, List.getElem?_cons_zero, Option.bind_some, b_tt, List.take_succ_cons, List.take_zero, awant_none, astep, evl, put, upd_app, stepBin, abin, stepPick, ↓reduceIte, Nat.reduceEqDiff, List.isEmpty_nil, Bool.and_self, hneg] <;> rfl) fun c3 hc3 => ?_
          refine s_true (by simp [evl]) (s_skip (w_block ?_))
          rw [hμ]
          refine w_gen (fun t => t 0 = v ∧ t 3 = z ∧ t 4 = .int .i64 k ∧ t 5 = .int .i64 q) (by simp [upd_app, t0, t3, t4, t5]) ?_
          clear t0 t3 t4 t5 hμ
          rintro t ⟨t0, t3, t4, t5⟩
          refine region_run (id := 7) (by simp only [runL, awant_none, astep, evl, put, ap_none, List.length_nil, Nat.add_zero, upd_app, stepBin, abin, ↓reduceIte, t5, w1] <;> rfl) ?_
          refine ⟨⟨rfl, rfl, by simp [upd_app, t0], by simp [upd_app, t3], by simp [upd_app, t4], q - 1, by simp [], by omega, ?_⟩, ?_⟩
          · rw [← hip, hlx]; rfl
          · simp only [upd_app]
            show ((q - 1 : Nat) : Int).toNat < _
            rw [Int.toNat_natCast]
            omega
        | false =>
          rw [hb] at hneg hlx
          refine d_readsB 2 hc2 (by simp only [runR, awant_some, List.getElem?_toArray, List.getElem?_cons_succ, List.getElem?_cons_zero, Option.bind_some, b_tt, List.take_succ_cons, List.take_zero, awant_none, astep, evl, put, upd_app, stepBin, abin, stepPick, ↓reduceIte, Nat.reduceEqDiff, List.isEmpty_nil, Bool.and_self, hneg] <;> rfl) fun c3 hc3 => ?_
          refine s_false (by simp [evl]) (s_exit ?_)
          have : ipos s o k k = q := by rw [← hip, hlx]; rfl
          exact ⟨rfl, rfl, by simp [upd_app, t0], by simp [upd_app, t3], by simp [upd_app, t4], by simp [upd_app, t5, this]⟩
    · clear t0 t3 t4 t5
      rintro t g' n' ⟨hgg, hnn', t0, t3, t4, t5⟩
      subst hgg hnn'
      generalize ipos s o k k = q at *
      obtain ⟨c1, c2, c3⟩ := sliceHi hos (show q ≤ o.length by omega)
      obtain ⟨e1, e2, e3⟩ := sliceLo hos (show q ≤ o.length by omega)
      have hzd : ∀ i ∈ srcBlk z, i < n' := fun i hi => (hO.blk i hi).2
      refine region_drawn #[0, 0, 0, 6, 15, 0, 32, 127, 0, 0, 768, 2047, 4095] (by decide +kernel) ?_
      refine d_new _ (by simp only [astep, evl, List.map_nil, undef, litI_0] <;> rfl) rfl (AccB.nil n' n' _) rfl rfl _ rfl rfl (Nat.le_refl _) fun acc h1 => ?_
      refine d_pure 3 (by simp only [runP, List.take_succ_cons, List.take_zero, awant_none, astep, evl, put, ap_new, upd_app, ↓reduceIte, Nat.reduceEqDiff, Option.map_some, Option.map_none, List.isEmpty_nil, Bool.and_self, t3, t5, c1] <;> rfl) ?_
      dsimp only
      refine d_heap fun G1 hG1 => ?_
      have k1 : Kp n' g' G1 := by rw [hG1]; exact kp_upd (Kp.refl _ _) (Nat.le_refl _)
      have o1 : OwnB 3 G1 (.slice (some ⟨n', 0, some 0⟩) 0 1) [] n' := ⟨rfl, by rw [hG1]; simp []⟩
      obtain ⟨f1, hf1, hfa1, o2, hk2⟩ := o1.append (P := Tryz.prog) (T := 23) (j := n' + 1) (srcL (k1.src c2 (fun i hi => hzd i (c3 i hi)))) Tryz.underlying23 tinf3 (by simp; omega) (by omega)
      obtain ⟨fr1, fw1⟩ := append_fp_some hf1
      refine d_full f1 (by simp only [astep, evl, upd_app, stepCall, ↓reduceIte, Nat.reduceEqDiff]; exact hf1) rfl (h1.le (Nat.le_refl _) (Nat.le_refl _) (by simp)) rfl (fun x hx => by
        rcases fr1 x hx with h | h
        · simp only at h; omega
        · have := hzd x (c3 x h); omega) (fun x hx => by have := fw1 x hx; simp only at this; omega) (by omega) fun acc h2 => ?_
      simp only [hfa1, List.length_nil, Nat.add_zero] at h2 ⊢
      refine d_heap fun G2 hG2 => ?_
      rw [← hG2] at o2 hk2
      refine d_pure 1 (by simp only [runP, List.take_succ_cons, List.take_zero, awant_none, astep, evl, put, upd_app, ↓reduceIte, Nat.reduceEqDiff, List.isEmpty_nil, Bool.and_self, t4] <;> rfl) ?_
      dsimp only
      refine d_new _ (by simp only [astep, evl, upd_app, ↓reduceIte, List.map_cons, List.map_nil, undef, litI_1] <;> rfl) rfl (h2.le (Nat.le_refl _) (Nat.le_refl _) (by simp)) rfl rfl _ rfl rfl (by omega) fun acc h3 => ?_
      refine d_heap fun G3 hG3 => ?_
      have b3 : G3 (n' + 1) = some ⟨false, 3, ints [k]⟩ := by rw [hG3]; simp [ap_new]
      have k3 : Kp (n' + 1) G2 G3 := by rw [hG3]; exact kp_upd (Kp.refl _ _) (Nat.le_refl _)
      have o3 := o2.keep (k3 n' (by omega))
      obtain ⟨f2, hf2, hfa2, o4, hk4⟩ := o3.append (P := Tryz.prog) (T := 23) (j := n' + 1 + 1) (y := .slice (some ⟨n' + 1, 0, some 1⟩) 1 1) (srcL (src_ints (m := 1) b3 rfl)) Tryz.underlying23 tinf3 (by simp; omega) (by omega)
      obtain ⟨fr2, fw2⟩ : (∀ x ∈ f2.r, x = n' ∨ x ∈ srcBlk (.slice (some ⟨n' + 1, 0, some 1⟩) 1 1)) ∧ ∀ x ∈ f2.wr, x = n' := by
        rw [o3.1] at hf2
        exact append_fp_some hf2
      refine d_full f2 (by simp only [astep, evl, upd_app, put, stepCall, ↓reduceIte, Nat.reduceEqDiff]; exact hf2) rfl (h3.le (Nat.le_refl _) (Nat.le_refl _) (by simp)) rfl (fun x hx => by
        rcases fr2 x hx with h | h
        · omega
        · have := srcBlk_own x h; omega) (fun x hx => by have := fw2 x hx; omega) (by omega) fun acc h4 => ?_
      simp only [hfa2, List.length_nil, Nat.add_zero] at h4 ⊢
      refine d_heap fun G4 hG4 => ?_
      rw [← hG4] at o4 hk4
      refine d_pure 3 (by simp only [runP, List.take_succ_cons, List.take_zero, awant_none, astep, evl, put, upd_app, ↓reduceIte, Nat.reduceEqDiff, Option.map_some, Option.map_none, List.isEmpty_nil, Bool.and_self, t3, t5, e1] <;> rfl) ?_
      dsimp only
      have k4 : Kp n' g' G4 := fun x hx => by rw [hk4 x (by omega), k3 x (by omega), hk2 x (by omega), k1 x hx]
      obtain ⟨f3, hf3, hfa3, o5, hk5⟩ := o4.append (P := Tryz.prog) (T := 23) (j := n' + 1 + 1) (srcL (k4.src e2 (fun i hi => hzd i (e3 i hi)))) Tryz.underlying23 tinf3 (by simp; omega) (by omega)
      obtain ⟨fr3, fw3⟩ : (∀ x ∈ f3.r, x = n' ∨ x ∈ srcBlk (slV z q o.length)) ∧ ∀ x ∈ f3.wr, x = n' := by
        rw [o4.1] at hf3
        exact append_fp_some hf3
      refine d_full f3 (by simp only [astep, evl, upd_app, stepCall, ↓reduceIte, Nat.reduceEqDiff]; exact hf3) rfl (h4.le (Nat.le_refl _) (Nat.le_refl _) (by simp)) rfl (fun x hx => by
        rcases fr3 x hx with h | h
        · omega
        · have := hzd x (e3 x h); omega) (fun x hx => by have := fw3 x hx; omega) (by omega) fun acc h5 => ?_
      simp only [hfa3, List.length_nil, Nat.add_zero] at h5 ⊢
      refine d_heap fun G5 hG5 => ?_
      rw [← hG5] at o5 hk5
      refine d_pure 1 (by simp only [runP, List.take_succ_cons, List.take_zero, awant_none, astep, evl, put, upd_app, ↓reduceIte, List.isEmpty_nil, Bool.and_self] <;> rfl) ?_
      dsimp only
      have hcell : [] ++ ints (o.take q) ++ ints [k] ++ ints (o.drop q) = ints (ordL s (k + 1)) := by rw [hord]; simp [ints]
      rw [hcell] at o5
      refine ⟨by simp [upd_app, t4], fun _ _ _ => ⟨by simp [upd_app, t0], ?_, fun x hx => ?_, by omega⟩⟩
      · have := o5.toOwn (n := n) (n' := n' + 1 + 1) (by simp [ordL_len]) (by omega) (by omega)
        simpa [upd_app, put] using this
      · rw [hk5 x (by omega), k4 x (by omega), hkp x hx]
  · rintro t g m ⟨t0, hO, hkp, hnn⟩
    refine s_run (by simp only [runL, awant_none, astep, evl, put, ap_none, List.length_nil, Nat.add_zero, upd_app, ↓reduceIte] <;> rfl) ?_
    refine w_ret ⟨.inr rfl, by simp, ?_⟩
    have := hO.fin (r := srcBlk v) (j := j) (plain_is _) hs hwf hkp
    simpa [resVal, upd_app] using this

set_option maxRecDepth 10000 in
theorem bytes_spec (v : Value) (l : List Nat) (g : Heap) (j : Nat) (hl : l.length ≤ 2 ^ 30) (hb : ∀ x ∈ l, x < 256) (hv : Src g v 1 l.length (bs l)) : FnSpec Tryz.prog 11 [v] g (newE 3 (ints (ordL l l.length)) (srcBlk v) j) := by
  refine spec_of_body [2] follows Tryz.func11 rfl (by kernel_rfl) (by simp [Tryz.f11]) (by kernel_rfl) rfl ?_
  intro g2 s2 n hg hfr hs hn hwf hsv
  have hv2 : Src g2 v 1 l.length (bs l) := hv.congr fun i hi => hg i (by rw [newE_fp]; exact hi)
  have hvd := dom_of hs hwf hv2
  clear hg hfr hn hv
  refine s_run (by simp only [runL, awant_none, astep, evl, put, ap_none, List.length_nil, Nat.add_zero, undef] <;> rfl) ?_
  refine s_take 1 (by simp only [runL, Option.getD_some, List.getElem?_cons_zero, List.take_succ_cons, List.take_zero, awant_none, astep, evl, put, ap_none, List.length_nil, Nat.add_zero, upd_app, reduceCtorEq, ↓reduceIte] <;> rfl) ?_
  refine ops_call 18 _ rfl (numbers_spec v l g2 n (by omega) hb hv2) (fun _ => newE_j _ _ _ _) ?_
  refine ops_heap fun G1 hG1 => ?_
  have hsr := newE_src 3 (ints l) (srcBlk v) n g2
  have k1 : Kp n g2 G1 := by rw [hG1]; exact newE_kp (Kp.refl _ _) (Nat.le_refl _)
  rw [← hG1] at hsr
  obtain ⟨N, hN⟩ : ∃ N, n + (newE 3 (ints l) (srcBlk v) n).a.length = N := ⟨_, rfl⟩
  rw [hN]
  refine ops_call 17 _ rfl (order_spec _ l G1 N hl (by simpa [evl, upd_app, put] using hsr)) (fun _ => newE_j _ _ _ _) ?_
  refine ops_heap fun G2 hG2 => ?_
  refine ops_run (by simp only [runL, awant_none, astep, evl, put, ap_none, List.length_nil, Nat.add_zero, upd_app, ↓reduceIte] <;> rfl) ?_
  have k2 : Kp n g2 G2 := by rw [hG2]; exact newE_kp k1 (by omega)
  refine w_ret ⟨.inr rfl, by simp, ?_⟩
  have hO := newE_Own (e := 3) (cs := ints (ordL l l.length)) (r := srcBlk (newE 3 (ints l) (srcBlk v) n).v) (j := N) (n := n) G1 (by omega)
  have e : G2 = (newE 3 (ints (ordL l l.length)) (srcBlk (newE 3 (ints l) (srcBlk v) n).v) N).ap G1 := by rw [hG2]; simp [evl, put]
  rw [← e] at hO
  have := hO.fin (r := srcBlk v) (j := j) (plain_is _) hs hwf k2
  simpa [resVal, upd_app, put, evl] using this
end Go.Proofs.YtdpkhijbikbhnaaGreat
