import Derived.Test.YtahinegnblankaaP30
namespace Go.Proofs.Ytahinegnblankaa
open Go Abs
set_option linter.unusedSimpArgs false
set_option linter.unusedVariables false

theorem carE_ap {p : Nat} {sl : Option Nat} {b : List Nat} {m r : Nat} {g : Heap} (h : Wr p sl b m r g) : Wr p sl (addN b 1) m r ((carE p sl b).ap g) ∧ (carE p sl b).a = [] ∧ ∀ i, sl ≠ some i → (carE p sl b).ap g i = g i := by
  cases sl with
  | none =>
    have := h.h0 rfl
    subst this
    refine ⟨⟨?_, by simp, fun _ => rfl⟩, rfl, fun _ _ => rfl⟩
    exact h.hp
  | some q =>
    have hne : p ≠ q := fun e => h.ne (by rw [e])
    refine ⟨⟨?_, ?_, by simp⟩, rfl, fun i hi => ?_⟩
    · simp [carE, Eff.ap, setAll, addAll, upd_app, hne, h.hp, addN_len]
    · intro q' e; cases e; simp [carE, Eff.ap, setAll, addAll]
    · have : i ≠ q := fun e => hi (by rw [e])
      simp [carE, Eff.ap, setAll, addAll, upd_app, this]

theorem all4_carry' {b : List Nat} {n a mm : Nat} (hn : n < 2 ^ 32) (ha : a < 2 ^ 32) (h : mm + 2 ^ 32 = n + a) : all4 (addN b 1) mm = addN (all4 b n) a := by
  rw [← all4_carry hn ha (by omega), show n + a - 2 ^ 32 = mm by omega]

/-- The range as the writer's block holds it: less and less is left of 32 bits. -/
def rleft (p : Nat) (g : Heap) : Nat := match g p with
  | some b => match b.cells[2]? with
    | some (Value.int _ x) => 2 ^ 32 - x.toNat
    | _ => 0
  | none => 0
theorem rleft_wr {p : Nat} {sl : Option Nat} {b : List Nat} {m r : Nat} {g : Heap} (h : Wr p sl b m r g) : rleft p g = 2 ^ 32 - r := by simp [rleft, h.hp]

set_option maxRecDepth 10000 in
/-- The range is set and widened. -/
theorem put_tail {p r lo sz tot j part : Nat} {sl : Option Nat} {b b1 N : List Nat} {m m1 : Nat} {s2 : Nat → Prop} {g2 g : Heap} {n n' : Nat} {t : Nat → Value} (ok : PutOk r lo sz tot) (hpart : part = r / tot) (hW0 : Wr p sl b m r g2)
    (t0 : t 0 = ptr3 p) (t2 : t 2 = .int .i64 (sz : Nat)) (t9 : t 9 = .int .u64 (part : Nat)) (hW : Wr p sl b1 m1 r g) (hm1 : m1 < 2 ^ 32) (hN : N = all4 b1 m1) (hl : b1.length ≤ 2 ^ 38) (hnn : n ≤ n')
    (hs : ∀ i, s2 i → i < n) (hwf : ∀ i b, g2 i = some b → s2 i ∧ ∀ c ∈ b.cells, SV1 s2 c) (hfr : Fresh (putE p sl (N ++ List.replicate (sh (part * sz)) 0) (part * sz * 256 ^ sh (part * sz)) j) s2) (hold : ∀ i, i < n → i ≠ p → sl ≠ some i → g i = g2 i) :
    awp Try.prog (Try.f33.body.getD .skip |> cr |> cr |> cr |> cr |> cr) (fun e t' g' _ => (e = .normal ∨ e = .ret) ∧ (([8] : List Tmp).length ≠ 1 → ∀ r ∈ ([8] : List Tmp), isTup (t' r) = false) ∧ ∃ ids, Abs.Fin (putE p sl (N ++ List.replicate (sh (part * sz)) 0) (part * sz * 256 ^ sh (part * sz)) j) ids s2 g2 n g' (resVal [8] t')) t g n' := by
  show awp Try.prog (.seq (.seq _ _) _) _ t g n'
  have hpn : p < n := hs p (hwf p _ hW0.hp).1
  have hsln : ∀ q, sl = some q → q < n := fun q e => hs q (hwf q _ (hW0.hq q e)).1
  have hR1 := ok.size
  have hle := ok.le
  have hr2 := ok.r2
  have hsm := ok.sum
  have ht1 := ok.t1
  rw [← hpart] at hR1 hle
  have hR2 : part * sz < 2 ^ 32 := by omega
  generalize hRR : part * sz = R at *
  have ws : IntKind.u64.wrap ((sz : Nat) : Int) = (sz : Nat) := wrapU (by omega)
  have wm : IntKind.u64.wrap (((part : Nat) : Int) * ((sz : Nat) : Int)) = ((R : Nat) : Int) := by rw [← hRR, show ((part : Nat) : Int) * ((sz : Nat) : Int) = ((part * sz : Nat) : Int) by simp, wrapU (by omega)]
  refine w_assoc (s_run (by simp only [runL, awant_none, astep, evl, put, ap_none, ap_wr, List.length_nil, Nat.add_zero, upd_app, stepBin, abin, ↓reduceIte, Nat.reduceEqDiff, undef, t0, t2, t9, nchk, fld84_2, conv3_41, ws, wm, hW.st2] <;> rfl) (w_heap fun G1 hG1 => ?_))
  have W1 : Wr p sl b1 m1 R G1 := hW.upd m1 R (by rw [hG1]; simp []) (fun i h => by rw [hG1]; simp [upd_app, h])
  have o1 : ∀ i, i < n → i ≠ p → sl ≠ some i → G1 i = g2 i := fun i h1 h2 h3 => by rw [hG1, upd_ne _ _ h2]; exact hold i h1 h2 h3
  refine s_block (fun t g' _ => ∃ sl' bk nk, Wr p sl' bk nk (R * 256 ^ sh R) g' ∧ all4 bk nk = N ++ List.replicate (sh R) 0 ∧ nk < 2 ^ 32 ∧ (sl' = sl ∨ (sl = none ∧ bk ≠ [] ∧ ∃ k, sl' = some k ∧ n ≤ k)) ∧ ∀ i, i < n → i ≠ p → sl ≠ some i → g' i = g2 i) ?_ ?_
  · refine w_loop (fun t g' n'' => ∃ k sl' bk nk, k ≤ sh R ∧ t 0 = ptr3 p ∧ n ≤ n'' ∧ Wr p sl' bk nk (R * 256 ^ k) g' ∧ all4 bk nk = N ++ List.replicate k 0 ∧ nk < 2 ^ 32 ∧ (sl' = sl ∨ (sl = none ∧ bk ≠ [] ∧ ∃ i, sl' = some i ∧ n ≤ i ∧ i < n'')) ∧ ∀ i, i < n → i ≠ p → sl ≠ some i → g' i = g2 i)
      (fun _ g' _ => rleft p g') ⟨0, sl, b1, m1, by omega, by simp [upd_app, t0], hnn, by simpa using W1, by simp [hN], hm1, .inl rfl, o1⟩ ?_
    clear t0 t2 t9
    rintro t g' n'' ⟨k, sl', bk, nk, hk, t0, hn'', hWk, hNk, hnk, hsl, hf⟩
    have hrk := sh_mul hR1 hR2 hk
    have hlk : bk.length = b1.length + k := by
      have := congrArg List.length hNk
      rw [all4_len, hN, List.length_append, all4_len, List.length_replicate] at this
      omega
    have hsh := sh_le R
    by_cases hlt : k < sh R
    · have hsm2 : R * 256 ^ k < 16777216 := (sh_lt hR1).2 hlt
      have d1 : decide (((R * 256 ^ k : Nat) : Int) < 16777216) = true := decide_eq_true (by omega)
      refine w_assoc (s_run (by simp only [runL, awant_none, astep, evl, put, ap_none, List.length_nil, Nat.add_zero, upd_app, stepBin, abin, ↓reduceIte, t0, nchk, fld84_2, hWk.ld2, d1] <;> rfl) ?_)
      refine s_true (by simp [evl]) (s_skip (w_seq (w_block ?_)))
      refine put_body (k := k) (R := R) (n0 := n) (by simp [upd_app, t0]) hWk hnk (by omega) (by omega) (fun i e => ?_) (by omega) fun t' g3 n3 sl3 t0' W3 hn3 hsl3 hf3 => ?_
      · rcases hsl with e' | ⟨_, _, i', e', _, h2⟩
        · rw [e'] at e; have := hsln i e; omega
        · rw [e'] at e; cases e; exact h2
      have ws8 : IntKind.u64.wrap (((R * 256 ^ k : Nat) : Int) * 2 ^ (min 8 IntKind.u64.bits)) = ((R * 256 ^ (k + 1) : Nat) : Int) := by
        rw [shl64_8 _ (by omega), Nat.pow_succ, Nat.mul_assoc]
      refine region_run (id := 10) (by simp only [runL, awant_none, astep, evl, put, ap_none, ap_wr, List.length_nil, Nat.add_zero, upd_app, stepBin, abin, ↓reduceIte, Nat.reduceEqDiff, Int.reduceLE, Int.reduceToNat, undef, t0', nchk, fld84_2, W3.ld2, ws8, W3.st2] <;> rfl) ?_
      have W4 : Wr p sl3 (bk ++ [nk / 2 ^ 24]) (nk % 2 ^ 24 * 256) (R * 256 ^ (k + 1)) (upd g3 p (some ⟨false, 84, [wv sl3 (bk ++ [nk / 2 ^ 24]).length, .int .u64 (nk % 2 ^ 24 * 256 : Nat), .int .u64 (R * 256 ^ (k + 1) : Nat)]⟩)) := W3.upd _ _ (by simp) (fun i h => by simp [upd_app, h])
      refine ⟨⟨k + 1, sl3, bk ++ [nk / 2 ^ 24], nk % 2 ^ 24 * 256, hlt, by simp [upd_app, t0'], by omega, W4, ?_, by omega, ?_, fun i h1 h2 h3 => ?_⟩, ?_⟩
      · rw [all4_shift hnk, hNk, List.append_assoc, List.replicate_succ']
      · rcases hsl with e' | ⟨e', hb, i', e'', h1, h2⟩
        · rcases hsl3 with e3 | ⟨e3, i3, e4, h3, h4⟩
          · exact .inl (by rw [e3, e'])
          · exact .inr ⟨by rw [← e', e3], by simp, i3, e4, by omega, h4⟩
        · rcases hsl3 with e3 | ⟨e3, _⟩
          · exact .inr ⟨e', by simp, i', by rw [e3, e''], h1, by omega⟩
          · rw [e''] at e3; cases e3
      · show upd g3 p _ i = g2 i
        rw [upd_ne _ _ h2, hf3 i (by omega) h2 (fun e => ?_)]
        · exact hf i h1 h2 h3
        · rcases hsl with e' | ⟨_, _, i', e', h4, _⟩
          · exact h3 (by rw [← e', e])
          · rw [e'] at e; cases e; omega
      · rw [rleft_wr hWk]
        have e4 := rleft_wr W4
        have hk1 := sh_mul hR1 hR2 (show k + 1 ≤ sh R by omega)
        have : R * 256 ^ (k + 1) = R * 256 ^ k * 256 := by rw [Nat.pow_succ, Nat.mul_assoc]
        have : 0 < R * 256 ^ k := Nat.mul_pos (by omega) (Nat.pow_pos (by omega))
        show rleft p (upd g3 p _) < _
        rw [e4]
        omega
    · have hke : k = sh R := by omega
      have d1 : decide (((R * 256 ^ k : Nat) : Int) < 16777216) = false := decide_eq_false (fun h => hlt ((sh_lt hR1).1 (by omega)))
      refine w_assoc (s_run (by simp only [runL, awant_none, astep, evl, put, ap_none, List.length_nil, Nat.add_zero, upd_app, stepBin, abin, ↓reduceIte, t0, nchk, fld84_2, hWk.ld2, d1] <;> rfl) ?_)
      refine s_false (by simp [evl]) (s_exit ?_)
      subst hke
      refine ⟨sl', bk, nk, hWk, hNk, hnk, ?_, hf⟩
      rcases hsl with e' | ⟨e', hb, i', e'', h1, _⟩
      · exact .inl e'
      · exact .inr ⟨e', hb, i', e'', h1⟩
  · rintro t g' n'' ⟨sl', bk, nk, hWk, hNk, hnk, hsl, hf⟩
    refine s_run (by simp only [runL, awant_none, astep, evl, put, ap_none, List.length_nil, Nat.add_zero] <;> rfl) ?_
    refine w_ret ⟨.inr rfl, by simp, ?_⟩
    exact put_fin hW0 hWk hNk hnk hsl hs hwf hfr (by simp [resVal]) hf

set_option maxRecDepth 10000 in
theorem put_yes (p : Nat) (sl : Option Nat) (b : List Nat) (m r lo sz tot : Nat) (g : Heap) (j : Nat) (h : Wr p sl b m r g) (hb : ∀ x ∈ b, x < 256) (hm : m < 2 ^ 32) (ok : PutOk r lo sz tot) (hl : b.length ≤ 2 ^ 37) :
    FnSpec Try.prog 33 [ptr3 p, .int .i64 lo, .int .i64 sz, .int .i64 tot] g (putE p sl (putN (all4 b m) r lo sz tot) (putR r sz tot) j) := by
  refine spec_of_body [8] follows Try.func33 rfl (by kernel_rfl) (by simp [Try.f33]) (by kernel_rfl) rfl ?_
  intro g2 s2 n hg hfr hs hn hwf hsv
  have h2 : Wr p sl b m r g2 := h.congr (hg p (by unfold putE; split <;> (try split) <;> simp [Eff.fp])) (fun q e => hg q (by subst e; simp [putE, Eff.fp]))
  have hsm := ok.sum
  have ht1 := ok.t1
  have hs1 := ok.s1
  have hr2 := ok.r2
  refine s_run (by simp only [runL, awant_none, astep, evl, put, ap_none, List.length_nil, Nat.add_zero, undef] <;> rfl) ?_
  refine w_assoc (s_take 6 (by simp only [runL, awant_some, Option.getD_some, List.getElem?_toArray, List.getElem?_cons_succ, List.getElem?_cons_zero, Option.bind_some, b_ff, List.take_succ_cons, List.take_zero, awant_none, astep, evl, put, ap_none, List.length_nil, Nat.add_zero, upd_app, stepBin, abin, reduceCtorEq, ↓reduceIte, Nat.reduceEqDiff, Try.underlying33, Option.isNone_some] <;> rfl) ?_)
  refine g_call 72 _ (by simp only [awant_some, List.getElem?_toArray, List.getElem?_cons_succ, List.getElem?_cons_zero, Option.bind_some, b_ff, upd_app, ↓reduceIte, Nat.reduceEqDiff] <;> rfl) rfl (isSpan_spec (lo : Int) (sz : Int) (tot : Int) (by omega) (by omega) g2) (by simp) ?_
  refine ops_run (by simp only [runL, awant_some, List.getElem?_toArray, List.getElem?_cons_succ, List.getElem?_cons_zero, Option.bind_some, b_ff, Bool.not_true, awant_none, astep, evl, put, ap_none, List.length_nil, Nat.add_zero, upd_app, stepUn, stepPick, ↓reduceIte, Nat.reduceEqDiff, Bool.false_eq_true, spn_t ok] <;> rfl) ?_
  refine s_false (by simp [evl]) (s_skip ?_)
  refine w_gen (fun t => t 0 = ptr3 p ∧ t 1 = .int .i64 (lo : Nat) ∧ t 2 = .int .i64 (sz : Nat) ∧ t 3 = .int .i64 (tot : Nat)) (by simp [upd_app]) ?_
  rintro t ⟨t0, t1, t2, t3⟩
  have z0 : (((tot : Nat) : Int) = 0) = False := eq_false (by omega)
  have wt : IntKind.u64.wrap ((tot : Nat) : Int) = (tot : Nat) := wrapU (by omega)
  have hple := ok.part.2
  have hle := ok.le
  have wq : IntKind.u64.wrap (((r : Nat) : Int).tdiv ((tot : Nat) : Int)) = ((r / tot : Nat) : Int) := by
    rw [show ((r : Nat) : Int).tdiv ((tot : Nat) : Int) = ((r / tot : Nat) : Int) from rfl, wrapU (by omega)]
  refine s_run (by simp only [runL, awant_none, astep, evl, put, ap_none, List.length_nil, Nat.add_zero, upd_app, stepBin, abin, ↓reduceIte, Nat.reduceEqDiff, ne_eq, not_false_eq_true, and_self, t0, t3, nchk, fld84_2, h2.ld2, conv3_41, wt, z0, wq] <;> rfl) ?_
  have hN : putN (all4 b m) r lo sz tot = addN (all4 b m) (r / tot * lo) ++ List.replicate (sh (r / tot * sz)) 0 := rfl
  have hR : putR r sz tot = r / tot * sz * 256 ^ sh (r / tot * sz) := rfl
  rw [hN, hR] at hfr ⊢
  clear hN hR
  obtain ⟨part, hpart⟩ : ∃ part, r / tot = part := ⟨_, rfl⟩
  rw [hpart] at hfr hple hle ⊢
  clear wq
  have hlt : part * lo < 2 ^ 32 := by omega
  have wl : IntKind.u64.wrap ((lo : Nat) : Int) = (lo : Nat) := wrapU (by omega)
  have wm : IntKind.u64.wrap (((part : Nat) : Int) * ((lo : Nat) : Int)) = ((part * lo : Nat) : Int) := by rw [show ((part : Nat) : Int) * ((lo : Nat) : Int) = ((part * lo : Nat) : Int) by simp, wrapU (by omega)]
  have wa : IntKind.u64.wrap (((m : Nat) : Int) + ((part * lo : Nat) : Int)) = ((m + part * lo : Nat) : Int) := by rw [show ((m : Nat) : Int) + ((part * lo : Nat) : Int) = ((m + part * lo : Nat) : Int) by simp, wrapU (by omega)]
  refine s_run (by simp only [runL, awant_none, astep, evl, put, ap_none, ap_wr, List.length_nil, Nat.add_zero, upd_app, stepBin, abin, reduceCtorEq, ↓reduceIte, Nat.reduceEqDiff, undef, t0, t1, nchk, fld84_1, h2.ld1, conv3_41, wl, wm, wa, h2.st1] <;> rfl) (w_heap fun G1 hG1 => ?_)
  have W1 : Wr p sl b (m + part * lo) r G1 := h2.upd _ _ (by rw [hG1]; simp []) (fun i h => by rw [hG1]; simp [upd_app, h])
  have o1 : ∀ i, i ≠ p → G1 i = g2 i := fun i h => by rw [hG1]; simp [upd_app, h]
  refine w_gen (fun t => t 0 = ptr3 p ∧ t 2 = .int .i64 (sz : Nat) ∧ t 9 = .int .u64 (part : Nat)) (by simp [upd_app, t0, t2]) ?_
  clear t0 t1 t2 t3
  rintro t ⟨t0, t2, t9⟩
  by_cases hc : m + part * lo < 2 ^ 32
  · have d1 : decide ((((m + part * lo) / 2 ^ 32 : Nat) : Int) > 0) = false := decide_eq_false (by omega)
    refine w_assoc (s_run (by simp only [runL, awant_none, astep, evl, put, ap_none, List.length_nil, Nat.add_zero, upd_app, stepBin, abin, ↓reduceIte, Int.reduceLE, Int.reduceToNat, t0, nchk, fld84_1, W1.ld1, shr64_32, d1] <;> rfl) ?_)
    refine s_false (by simp [evl]) (s_skip ?_)
    exact put_tail ok hpart.symm h2 (by simp [upd_app, t0]) (by simp [upd_app, t2]) (by simp [upd_app, t9]) W1 hc (all4_add hb hm hc).symm (by omega) (by omega) hs hwf hfr (fun i h1 h2 h3 => o1 i h2)
  · have d1 : decide ((((m + part * lo) / 2 ^ 32 : Nat) : Int) > 0) = true := decide_eq_true (by omega)
    obtain ⟨mm, hmm⟩ : ∃ mm, mm + 2 ^ 32 = m + part * lo := ⟨m + part * lo - 2 ^ 32, by omega⟩
    have w3 : bits .and .u64 ((m + part * lo : Nat) : Int) 4294967295 = ((mm : Nat) : Int) := by rw [and32 _ (by omega), show (m + part * lo) % 2 ^ 32 = mm by omega]
    refine w_assoc (s_run (by simp only [runL, awant_none, astep, evl, put, ap_none, List.length_nil, Nat.add_zero, upd_app, stepBin, abin, ↓reduceIte, Int.reduceLE, Int.reduceToNat, t0, nchk, fld84_1, W1.ld1, shr64_32, d1] <;> rfl) ?_)
    refine s_true (by simp [evl]) (w_assoc (s_run (by simp only [runL, awant_none, astep, evl, put, ap_none, ap_wr, List.length_nil, Nat.add_zero, upd_app, stepBin, abin, reduceCtorEq, ↓reduceIte, Nat.reduceEqDiff, undef, t0, nchk, fld84_1, W1.ld1, w3, W1.st1] <;> rfl) (w_heap fun G2 hG2 => ?_)))
    have W2 : Wr p sl b mm r G2 := W1.upd _ _ (by rw [hG2]; simp []) (fun i h => by rw [hG2]; simp [upd_app, h])
    have o2 : ∀ i, i ≠ p → G2 i = g2 i := fun i h => by rw [hG2]; simp [upd_app, h, o1 i h]
    obtain ⟨W3, ha3, o3⟩ := carE_ap W2
    refine s_take 1 (by simp only [runL, List.take_succ_cons, List.take_zero, awant_none, astep, evl, put, ap_none, List.length_nil, Nat.add_zero, upd_app, reduceCtorEq, ↓reduceIte, t0] <;> rfl) ?_
    refine ops_call 73 _ rfl (carries_spec p sl b _ r G2 W2 hb (by omega)) (fun h => (h ha3).elim) (ops_heap fun G3 hG3 => ops_num fun N3 hN3 => ?_)
    rw [← hG3] at W3 o3
    refine ops_run (by simp only [runL, put] <;> rfl) ?_
    exact put_tail ok hpart.symm h2 (by simp [upd_app, t0]) (by simp [upd_app, t2]) (by simp [upd_app, t9]) W3 (by omega) (all4_carry' hm (by omega) hmm).symm (by rw [addN_len]; omega) (by rw [hN3, ha3]; simp) hs hwf hfr (fun i h1 h2 h3 => by show G3 i = g2 i; rw [o3 i h3, o2 i h2])
end Go.Proofs.Ytahinegnblankaa
