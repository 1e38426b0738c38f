import Derived.Test.YtdpkhijbikbhnaaT4
namespace Go.Proofs.Ytdpkhijbikbhnaa
open Go Abs Plain
set_option linter.unusedSimpArgs false
set_option linter.unusedVariables false

theorem dom_of {s2 : Nat → Prop} {g2 : Heap} {n : Nat} {v : Value} {e m : Nat} {cs : List Value} (hs : ∀ i, s2 i → i < n) (hwf : ∀ i b, g2 i = some b → s2 i ∧ ∀ c ∈ b.cells, SV1 s2 c) (h : Src g2 v e m cs) : ∀ i ∈ srcBlk v, i < n := fun i hi => by
  obtain ⟨b, hb⟩ := Option.isSome_iff_exists.1 (h.dom i hi)
  exact hs i (hwf i b hb).1
theorem ldN {q i m e : Nat} {ro : Bool} {c : List Nat} {g : Heap} (h : g q = some ⟨ro, e, ints c⟩) (hm : c.length = m) (hi : i < c.length) : stepLoad Try.prog 3 (.pointer (some ⟨q, i, some m⟩)) g = some { v := .int .i64 (byt c i : Nat), r := [q] } := ld_at h (by simp [hm]) (ints_at hi) aggT3
theorem stN {q i m x : Nat} {c : List Nat} {g : Heap} (h : g q = some ⟨false, 3, ints c⟩) (hm : c.length = m) (hi : i < c.length) : stepStore Try.prog 3 (.pointer (some ⟨q, i, some m⟩)) (.int .i64 (x : Int)) g = some { v := undef, r := [q], w := [(q, ⟨false, 3, ints (c.set i x)⟩)] } := by
  rw [st_at (d := undef) h (by simp [hm]) (by simpa using hi) tsize3 rfl rfl, ints_set]
theorem kp_own {n : Nat} {g g' : Heap} {b : Option Blk} {k : Nat} (h : Kp n g g') (hk : n ≤ k) : Kp n g (upd g' k b) := kp_upd h hk
/-- An answer that is one new slice. -/
theorem sl_fin {s2 : Nat → Prop} {g2 g' : Heap} {n k : Nat} {e : TypeId} {rs : List Tmp} {a : Tmp} {l : List Value} {r : List Nat} {j m : Nat} {t : Nat → Value} (hrs : rs = [a]) (h4 : t a = .slice (some ⟨k, 0, some m⟩) m 1) (hm : m = l.length) (hn : n ≤ k) (hg : g' k = some ⟨false, e, l⟩) (hp : ∀ c ∈ l, plain c = true) (hs : ∀ i, s2 i → i < n) (hwf : ∀ i b, g2 i = some b → s2 i ∧ ∀ c ∈ b.cells, SV1 s2 c) (hk : Kp n g2 g') :
    (Exit.ret = .normal ∨ Exit.ret = .ret) ∧ (rs.length ≠ 1 → ∀ r ∈ rs, isTup (t r) = false) ∧ ∃ ids, Abs.Fin { v := .slice (some ⟨j, 0, some m⟩) m 1, r := r, j := j, a := [⟨false, e, l⟩] } ids s2 g2 n g' (resVal rs t) := by
  subst hrs hm
  exact ⟨.inr rfl, fun h => absurd rfl h, [k], fin_slice (by simp [resVal, h4]) hn hg hp (fun i b hb => hk.at (hs i (hwf i b hb).1) hb)⟩

section
variable {s A : List Nat}
def outQ (s A : List Nat) (k : Nat) : List Nat := (List.range A.length).map fun r => if r ≠ 0 ∧ nth A r < k then al s A (nth A r) else 0
theorem outQ_len (k : Nat) : (outQ s A k).length = A.length := by simp [outQ]
theorem outQ_set (h : SA s A) {k : Nat} (hk : k < s.length) (hr : 0 < A.idxOf k) : (outQ s A k).set (A.idxOf k) (al s A k) = outQ s A (k + 1) := by
  apply List.ext_getElem
  · simp [outQ]
  · intro i h1 h2
    have hi : i < A.length := by rw [outQ_len] at h2; exact h2
    rw [List.getElem_set]
    simp only [outQ, List.getElem_map, List.getElem_range]
    by_cases e : A.idxOf k = i
    · subst e
      have := nth_idx (h.mem hk)
      rw [if_pos rfl, if_pos ⟨by omega, by omega⟩, this]
    · rw [if_neg e]
      have hne : nth A i ≠ k := fun e2 => e (by rw [← e2]; exact idx_nth h.nd hi)
      have : (i ≠ 0 ∧ nth A i < k + 1) ↔ (i ≠ 0 ∧ nth A i < k) := by omega
      simp only [this]
theorem outQ_skip (h : SA s A) {k : Nat} (hk : k < s.length) (hr : A.idxOf k = 0) : outQ s A k = outQ s A (k + 1) := by
  unfold outQ
  refine List.map_congr_left fun i hi => ?_
  have hi' : i < A.length := by simpa using hi
  by_cases e : i = 0
  · rw [if_neg (by omega), if_neg (by omega)]
  · have hne : nth A i ≠ k := fun e2 => e (by have := idx_nth h.nd hi'; rw [e2, hr] at this; exact this.symm)
    have : (i ≠ 0 ∧ nth A i < k + 1) ↔ (i ≠ 0 ∧ nth A i < k) := by omega
    simp only [this]
theorem outQ_all (h : SA s A) : outQ s A s.length = lcpL s A := by
  unfold outQ lcpL
  refine List.map_congr_left fun i hi => ?_
  have hi' : i < A.length := by simpa using hi
  have hlt := h.lt hi'
  by_cases e : i = 0
  · rw [if_neg (by omega), if_pos e]
  · rw [if_pos ⟨e, hlt⟩, if_neg e, al, idx_nth h.nd hi', cp_comm]
end

set_option maxRecDepth 10000 in
theorem quick_spec (v w u : Value) (s A : List Nat) (g : Heap) (j : Nat) (hl : s.length ≤ 2 ^ 38) (hS : SA s A) (hv : Src g v 1 s.length (bs s)) (hw : Src g w 1 A.length (ints A)) (hu : Src g u 1 A.length (ints (rkL A))) :
    FnSpec Try.prog 27 [v, w, u] g { v := .slice (some ⟨j, 0, some A.length⟩) A.length 1, r := srcBlk v ++ srcBlk w ++ srcBlk u, j := j, a := [⟨false, 3, ints (lcpL s A)⟩] } := by
  refine spec_of_body [6] follows Try.func27 rfl (by kernel_rfl) (by simp [Try.f27]) (by kernel_rfl) rfl ?_
  intro g2 s2 n hg hfr hs hn hwf hsv
  have hv2 : Src g2 v 1 s.length (bs s) := hv.congr fun i hi => hg i (by simp [Eff.fp, hi])
  have hvd : ∀ i ∈ srcBlk v, i < n := dom_of hs hwf hv2
  have hw2 : Src g2 w 1 A.length (ints A) := hw.congr fun i hi => hg i (by simp [Eff.fp, hi])
  have hwd : ∀ i ∈ srcBlk w, i < n := dom_of hs hwf hw2
  have hu2 : Src g2 u 1 A.length (ints (rkL A)) := hu.congr fun i hi => hg i (by simp [Eff.fp, hi])
  have hud : ∀ i ∈ srcBlk u, i < n := dom_of hs hwf hu2
  have hlv := hv2.len Try.underlying30
  have hlw := hw2.len Try.underlying22
  have hlu := hu2.len Try.underlying22
  have hAl := hS.len
  clear hg hfr hn hv hw hu
  refine s_run (by simp only [runL, awant_none, astep, evl, put, ap_none, List.length_nil, Nat.add_zero, undef] <;> rfl) ?_
  refine s_run (by simp only [runL, Option.getD_some, List.getElem?_cons_succ, List.getElem?_cons_zero, awant_none, astep, evl, put, ap_none, ap_new, List.length_nil, List.length_cons, Nat.add_zero, Nat.zero_add, upd_app, stepCall, ↓reduceIte, Nat.reduceEqDiff, hlw, mkInts A.length n (by omega)] <;> rfl) (w_heap fun G1 hG1 => ?_)
  refine s_run (by simp only [runL, awant_none, astep, evl, put, ap_none, List.length_nil, Nat.add_zero] <;> rfl) ?_
  refine w_assoc (s_run (by simp only [runL, Option.getD_some, List.getElem?_cons_succ, List.getElem?_cons_zero, awant_none, astep, evl, put, ap_none, List.length_nil, Nat.add_zero, upd_app, stepCall, ↓reduceIte, Nat.reduceEqDiff, hlu] <;> rfl) ?_)
  have b1 : G1 n = some ⟨false, 3, ints (outQ s A 0)⟩ := by
    have : outQ s A 0 = List.replicate A.length 0 := by unfold outQ; rw [List.eq_replicate_iff]; simp
    rw [hG1, this]; simp []
  have k1 : Kp n g2 G1 := by rw [hG1]; exact kp_upd (Kp.refl _ _) (Nat.le_refl _)
  refine s_rng A.length (fun k t g n' => t 0 = v ∧ t 1 = w ∧ t 7 = .slice (some ⟨n, 0, some A.length⟩) A.length 1 ∧ t 15 = u ∧ (∃ m : Nat, t 8 = .int .i64 m ∧ m ≤ s.length ∧ (k < s.length → 0 < A.idxOf k → m ≤ al s A k)) ∧ g n = some ⟨false, 3, ints (outQ s A k)⟩ ∧ Kp n g2 g) (by omega) (by simp []) (by simp [upd_app])
    (fun _ => ⟨by simp [upd_app], by simp [upd_app], by simp [upd_app], by simp [upd_app], ⟨0, by simp [upd_app], by omega, by omega⟩, b1, k1⟩) (by decide) ?_ ?_
  · clear b1 k1 hG1
    rintro k t g n' hk t17 t16 ⟨t0, t1, t7, t15, ⟨m, t8, hm, hml⟩, b1, hkp⟩
    have hks : k < s.length := by omega
    have hml := hml hks
    have hu3 : Src g u 1 (rkL A).length (ints (rkL A)) := by rw [rkL_len]; exact hkp.src hu2 hud
    obtain ⟨p, i1, l1, _⟩ := srcN hu3 (show k < (rkL A).length by rw [rkL_len]; omega)
    rw [rkL_at hk] at l1
    refine s_run (by simp only [runL, awant_none, astep, evl, put, ap_none, List.length_nil, Nat.add_zero, upd_app, ↓reduceIte, Nat.reduceEqDiff, t15, t17, i1, l1] <;> rfl) ?_
    refine w_gen (fun t => t 0 = v ∧ t 1 = w ∧ t 7 = .slice (some ⟨n, 0, some A.length⟩) A.length 1 ∧ t 15 = u ∧ t 8 = .int .i64 m ∧ t 9 = .int .i64 k ∧ t 10 = .int .i64 (A.idxOf k : Nat) ∧ t 17 = .int .i64 k ∧ t 16 = .int .i64 A.length) (by simp [upd_app, t0, t1, t7, t8, t15, t16, t17]) ?_
    clear t0 t1 t7 t8 t15 t16 t17
    rintro t ⟨t0, t1, t7, t15, t8, t9, t10, t17, t16⟩
    have hrl := List.idxOf_lt_length_of_mem (hS.mem hks)
    by_cases h0 : A.idxOf k = 0
    · have e0 : (((A.idxOf k : Nat) : Int) == 0) = true := ieq_t (by omega)
      refine w_assoc (s_run (by simp only [runL, awant_none, astep, evl, put, ap_none, List.length_nil, Nat.add_zero, upd_app, stepBin, abin, ↓reduceIte, t10, e0] <;> rfl) ?_)
      refine s_true (by simp [evl]) (w_assoc (s_run (by simp only [runL, awant_none, astep, evl, put, ap_none, List.length_nil, Nat.add_zero] <;> rfl) ?_))
      refine s_exit ?_
      simp only [rngPost]
      refine ⟨by simp [upd_app, t17], by simp [upd_app, t16], fun _ _ _ => ⟨by simp [upd_app, t0], by simp [upd_app, t1], by simp [upd_app, t7], by simp [upd_app, t15], ⟨0, by simp [upd_app], by omega, by omega⟩, ?_, hkp⟩⟩
      rw [← outQ_skip hS hks h0]; exact b1
    have e0 : (((A.idxOf k : Nat) : Int) == 0) = false := ieq_f (by omega)
    refine w_assoc (s_run (by simp only [runL, awant_none, astep, evl, put, ap_none, List.length_nil, Nat.add_zero, upd_app, stepBin, abin, ↓reduceIte, t10, e0] <;> rfl) ?_)
    refine s_false (by simp [evl]) (s_skip ?_)
    have w1 : IntKind.i64.wrap (((A.idxOf k : Nat) : Int) - 1) = ((A.idxOf k - 1 : Nat) : Int) := wrap_sub1 (by omega) (by omega)
    obtain ⟨q, i2, l2, _⟩ := srcN (hkp.src hw2 hwd) (show A.idxOf k - 1 < A.length by omega)
    have hyl := hS.lt (show A.idxOf k - 1 < A.length by omega)
    have hal : al s A k = cp (s.drop k) (s.drop (byt A (A.idxOf k - 1))) := by rw [al, nth_byt]
    rw [nth_byt] at hyl
    have hC := hS
    refine s_run (by simp only [runL, awant_none, astep, evl, put, ap_none, List.length_nil, Nat.add_zero, upd_app, stepBin, abin, ↓reduceIte, Nat.reduceEqDiff, t1, t10, w1, i2, l2] <;> rfl) ?_
    have hset := outQ_set hS hks (by omega)
    have hka : k + 1 < s.length → 0 < A.idxOf (k + 1) → al s A k - 1 ≤ al s A (k + 1) := fun h1 h2 => kasai hS h1 (by omega) h2
    generalize hR : A.idxOf k = R at *
    generalize byt A (R - 1) = y at *
    generalize hCC : al s A k = C at *
    have hcl : C ≤ s.length - k := by
      have := cp_le (s.drop k) (s.drop y)
      rw [List.length_drop] at this
      omega
    refine w_gen (fun t => t 0 = v ∧ t 1 = w ∧ t 7 = .slice (some ⟨n, 0, some A.length⟩) A.length 1 ∧ t 15 = u ∧ t 8 = .int .i64 m ∧ t 9 = .int .i64 k ∧ t 10 = .int .i64 R ∧ t 11 = .int .i64 y ∧ t 17 = .int .i64 k ∧ t 16 = .int .i64 A.length) (by simp [upd_app, t0, t1, t7, t8, t9, t10, t15, t16, t17]) ?_
    clear t0 t1 t7 t8 t9 t10 t15 t16 t17
    rintro t ⟨t0, t1, t7, t15, t8, t9, t10, t11, t17, t16⟩
    refine s_block (fun t g' n' => g' = g ∧ t 0 = v ∧ t 1 = w ∧ t 7 = .slice (some ⟨n, 0, some A.length⟩) A.length 1 ∧ t 15 = u ∧ t 8 = .int .i64 C ∧ t 9 = .int .i64 k ∧ t 10 = .int .i64 R ∧ t 11 = .int .i64 y ∧ t 17 = .int .i64 k ∧ t 16 = .int .i64 A.length) ?_ ?_
    · refine w_loop (fun t g' n' => g' = g ∧ t 0 = v ∧ t 1 = w ∧ t 7 = .slice (some ⟨n, 0, some A.length⟩) A.length 1 ∧ t 15 = u ∧ t 9 = .int .i64 k ∧ t 10 = .int .i64 R ∧ t 11 = .int .i64 y ∧ t 17 = .int .i64 k ∧ t 16 = .int .i64 A.length ∧ ∃ m : Nat, t 8 = .int .i64 m ∧ m ≤ C) (fun t _ _ => match t 8 with | .int _ k => C - k.toNat | _ => 0) ⟨rfl, t0, t1, t7, t15, t9, t10, t11, t17, t16, m, t8, hml (by omega)⟩ ?_
      clear t0 t1 t7 t8 t9 t10 t11 t15 t16 t17 hm hml
      rintro t g' n'' ⟨hgg, t0, t1, t7, t15, t9, t10, t11, t17, t16, m, t8, hm⟩
      subst g'
      have hlook := cp_look (s := s) (n := m) (i := k) (j := y) (by rw [← hal]; exact hm)
      rw [← hal] at hlook
      have hmx := max_nat k y
      have w1 : IntKind.i64.wrap (((max k y : Nat) : Int) + ((m : Nat) : Int)) = ((max k y + m : Nat) : Int) := wrap_add (by omega)
      have hμ : (match t 8 with | .int _ k => C - k.toNat | _ => 0) = C - m := by rw [t8]; rfl
      have hvg := hkp.src hv2 hvd
      by_cases h1 : max k y + m < s.length
      · have d1 : decide (((max k y + m : Nat) : Int) < (s.length : Int)) = true := decide_eq_true (by omega)
        have w2 : IntKind.i64.wrap (((k : Nat) : Int) + ((m : Nat) : Int)) = ((k + m : Nat) : Int) := wrap_add (by omega)
        have w3 : IntKind.i64.wrap (((y : Nat) : Int) + ((m : Nat) : Int)) = ((y + m : Nat) : Int) := wrap_add (by omega)
        obtain ⟨p, i1, l1, _⟩ := srcB hvg (show k + m < s.length by omega)
        obtain ⟨q, i2, l2, _⟩ := srcB hvg (show y + m < s.length by omega)
        by_cases h2 : byt s (k + m) = byt s (y + m)
        · have e1 : (((byt s (k + m) : Nat) : Int) == ((byt s (y + m) : Nat) : Int)) = true := ieq_t (by rw [h2])
          refine w_assoc (s_draw #[0, 0, 3, 0, 15, 0, 32, 127, 255, 511, 511, 511, 3583, 8191, 16383, 511, 511, 511, 197119, 492031, 1016319, 2097151, 4194303] (by decide +kernel) (by simp only [runR, awant_some, List.getElem?_toArray, List.getElem?_cons_succ, List.getElem?_cons_zero, Option.bind_some, b_tt, awant_none, astep, evl, put, upd_app, stepBin, abin, stepPick, stepCall, reduceCtorEq, ↓reduceIte, Nat.reduceEqDiff, List.isEmpty_nil, Bool.and_self, t0, t9, t11, t8, hmx, w1, hlv, d1, w2, w3, i1, l1, i2, l2, e1] <;> rfl) ?_)
          refine s_true (by simp [evl]) (s_skip (w_block ?_))
          have hlt : m < C := hlook.2 ⟨h1, h2⟩
          have w4 : IntKind.i64.wrap (((m : Nat) : Int) + 1) = ((m + 1 : Nat) : Int) := wrap_succ (by omega)
          refine w_gen (fun t => t 0 = v ∧ t 1 = w ∧ t 7 = .slice (some ⟨n, 0, some A.length⟩) A.length 1 ∧ t 15 = u ∧ t 8 = .int .i64 m ∧ t 9 = .int .i64 k ∧ t 10 = .int .i64 R ∧ t 11 = .int .i64 y ∧ t 17 = .int .i64 k ∧ t 16 = .int .i64 A.length) (by simp [upd_app, t0, t1, t7, t8, t9, t10, t11, t15, t16, t17]) ?_
          rw [hμ]
          clear t0 t1 t7 t8 t9 t10 t11 t15 t16 t17 hμ
          rintro t ⟨t0, t1, t7, t15, t8, t9, t10, t11, t17, t16⟩
          refine region_run (id := 10) (by simp only [runL, awant_none, astep, evl, put, ap_none, List.length_nil, Nat.add_zero, upd_app, stepBin, abin, ↓reduceIte, t8, w4] <;> rfl) ?_
          refine ⟨⟨rfl, by simp [upd_app, t0], by simp [upd_app, t1], by simp [upd_app, t7], by simp [upd_app, t15], by simp [upd_app, t9], by simp [upd_app, t10], by simp [upd_app, t11], by simp [upd_app, t17], by simp [upd_app, t16], m + 1, by simp [], by omega⟩, ?_⟩
          simp only [upd_app]
          show C - ((m + 1 : Nat) : Int).toNat < _
          rw [Int.toNat_natCast]
          omega
        · have e1 : (((byt s (k + m) : Nat) : Int) == ((byt s (y + m) : Nat) : Int)) = false := ieq_f (by omega)
          refine w_assoc (s_draw #[0, 0, 3, 0, 15, 0, 32, 127, 255, 511, 511, 511, 3583, 8191, 16383, 511, 511, 511, 197119, 492031, 1016319, 2097151, 4194303] (by decide +kernel) (by simp only [runR, awant_some, List.getElem?_toArray, List.getElem?_cons_succ, List.getElem?_cons_zero, Option.bind_some, b_tt, awant_none, astep, evl, put, upd_app, stepBin, abin, stepPick, stepCall, reduceCtorEq, ↓reduceIte, Nat.reduceEqDiff, List.isEmpty_nil, Bool.and_self, t0, t9, t11, t8, hmx, w1, hlv, d1, w2, w3, i1, l1, i2, l2, e1] <;> rfl) ?_)
          refine s_false (by simp [evl]) (s_exit ?_)
          have : m = C := by
            apply Classical.byContradiction
            intro hne
            exact h2 (hlook.1 (by omega)).2
          subst this
          exact ⟨rfl, by simp [upd_app, t0], by simp [upd_app, t1], by simp [upd_app, t7], by simp [upd_app, t15], by simp [upd_app, t8], by simp [upd_app, t9], by simp [upd_app, t10], by simp [upd_app, t11], by simp [upd_app, t17], by simp [upd_app, t16]⟩
      · have d1 : decide (((max k y + m : Nat) : Int) < (s.length : Int)) = false := decide_eq_false (by omega)
        refine w_assoc (s_draw #[0, 0, 3, 0, 15, 0, 32, 127, 255, 511, 511, 511, 3583, 8191, 16383, 511, 511, 511, 197119, 492031, 1016319, 2097151, 4194303] (by decide +kernel) (by simp only [runR, awant_some, List.getElem?_toArray, List.getElem?_cons_succ, List.getElem?_cons_zero, Option.bind_some, b_ft, awant_none, astep, evl, put, upd_app, stepBin, abin, stepPick, stepCall, reduceCtorEq, ↓reduceIte, Nat.reduceEqDiff, Bool.false_eq_true, undef, List.isEmpty_nil, Bool.and_self, t0, t9, t11, t8, hmx, w1, hlv, d1] <;> rfl) ?_)
        refine s_false (by simp [evl]) (s_exit ?_)
        have : m = C := by
          apply Classical.byContradiction
          intro hne
          exact h1 (hlook.1 (by omega)).1
        subst this
        exact ⟨rfl, by simp [upd_app, t0], by simp [upd_app, t1], by simp [upd_app, t7], by simp [upd_app, t15], by simp [upd_app, t8], by simp [upd_app, t9], by simp [upd_app, t10], by simp [upd_app, t11], by simp [upd_app, t17], by simp [upd_app, t16]⟩
    · clear t0 t1 t7 t8 t9 t10 t11 t15 t16 t17
      rintro t g' n'' ⟨hgg, t0, t1, t7, t15, t8, t9, t10, t11, t17, t16⟩
      subst g'
      have iy := idxI n A.length R A.length hrl
      have s1 := stN (x := C) b1 (outQ_len k) (by rw [outQ_len]; exact hrl)
      rw [hset] at s1
      refine s_run (by simp only [runL, awant_none, astep, evl, put, ap_none, ap_wr, List.length_nil, Nat.add_zero, upd_app, ↓reduceIte, Nat.reduceEqDiff, undef, t7, t8, t10, iy, s1] <;> rfl) ?_
      have w1 : IntKind.i64.wrap (((C : Nat) : Int) - 1) = ((C : Nat) : Int) - 1 := wrap64_of (by omega) (by omega)
      have hmx : stepMax (.int .i64 (((C : Nat) : Int) - 1)) (.int .i64 0) = some { v := .int .i64 ((C - 1 : Nat) : Int) } := by
        show some ({ v := .int .i64 (if ((C : Nat) : Int) - 1 < 0 then 0 else ((C : Nat) : Int) - 1) } : Eff) = _
        split
        · rw [show C - 1 = 0 by omega]; rfl
        · rw [show ((C : Nat) : Int) - 1 = ((C - 1 : Nat) : Int) by omega]
      refine region_run (id := 12) (by simp only [runL, awant_none, astep, evl, put, ap_none, List.length_nil, Nat.add_zero, upd_app, stepBin, abin, stepCall, ↓reduceIte, Nat.reduceEqDiff, t8, w1, hmx] <;> rfl) ?_
      simp only [rngPost]
      refine ⟨by simp [upd_app, t17], by simp [upd_app, t16], fun _ _ _ => ⟨by simp [upd_app, t0], by simp [upd_app, t1], by simp [upd_app, t7], by simp [upd_app, t15], ⟨C - 1, by simp [upd_app], by omega, hka⟩, by simp [], kp_upd hkp (Nat.le_refl _)⟩⟩
  · clear b1 k1 hG1
    rintro t g n' ⟨t0, t1, t7, t15, _, b1, hkp⟩
    rw [hAl, outQ_all hS] at b1
    refine s_run (by simp only [runL, awant_none, astep, evl, put, ap_none, List.length_nil, Nat.add_zero, upd_app, ↓reduceIte, t7] <;> rfl) ?_
    exact w_ret (sl_fin (k := n) rfl (by simp []) (by simp [lcpL_len]) (Nat.le_refl _) b1 (plain_is _) hs hwf hkp)
end Go.Proofs.Ytdpkhijbikbhnaa
