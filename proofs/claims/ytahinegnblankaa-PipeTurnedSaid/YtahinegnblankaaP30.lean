import Derived.Test.YtahinegnblankaaP29
namespace Go.Proofs.Ytahinegnblankaa
open Go Abs
set_option linter.unusedSimpArgs false
set_option linter.unusedVariables false

section
variable {P : Program} {ops : Array Oper} {bf : Array Nat} {K : (Nat → Value) → Heap → Nat → Prop} {o : Oper} {rest : List Oper} {idx : Nat} {acc : List FP} {t : Nat → Value} {g : Heap} {n : Nat}
/-- An operation that reads, what was done before at hand. -/
theorem d_rd (f : Eff) (h : astep P o.op (evl t) g n = some f) (hw : awant ops o t = some true) (h1 : f.w = []) (h2 : f.a = []) (hp : ∀ p ∈ acc, (bf.getD idx 0).testBit p.1 = true ∨ ∀ x ∈ p.2.2, x ∉ f.r)
    (hk : awpD P ops bf K rest (idx + 1) ((idx, f.r, []) :: acc) (put t o.dst f.v) g n) : awpD P ops bf K (o :: rest) idx acc t g n := by
  have hwr : f.wr = [] := by simp [Eff.wr, h1, h2]
  refine d_step f h hw (fun p hpa => ?_) ?_
  · rcases hp p hpa with h | h
    · exact .inl h
    · exact .inr ⟨fun x hx => ⟨h x hx, by rw [hwr]; simp⟩, by rw [hwr]; simp⟩
  · have e : f.ap g = g := by simp [Eff.ap, h1, h2, setAll, addAll]
    rw [e, h2, hwr]
    exact hk
end

abbrev wrB (sl : Option Nat) (N : List Nat) (r : Nat) : Blk := ⟨false, 84, [wv sl (N.length - 4), .int .u64 (tl4 N : Nat), .int .u64 (r : Nat)]⟩
def putS (sl : Option Nat) (N : List Nat) (j : Nat) : Option Nat := match sl with
  | some q => some q
  | none => if N.length = 4 then none else some j
def putE (p : Nat) (sl : Option Nat) (N : List Nat) (r j : Nat) : Eff := match sl with
  | some q => { v := .bool true, r := [p, q], w := [(p, wrB (some q) N r), (q, ⟨false, 5, bs (hd4 N)⟩)], j := j }
  | none => if N.length = 4 then { v := .bool true, r := [p], w := [(p, wrB none N r)], j := j } else { v := .bool true, r := [p], w := [(p, wrB (some j) N r)], j := j, a := [⟨false, 5, bs (hd4 N)⟩] }

section
variable {p : Nat} {sl : Option Nat} {b N : List Nat} {m r r' j : Nat} {g : Heap}
theorem putE_v : (putE p sl N r j).v = .bool true := by unfold putE; split <;> (try split) <;> rfl
theorem putE_j : (putE p sl N r j).j = j := by unfold putE; split <;> (try split) <;> rfl
theorem putE_a : (putE p sl N r j).a.length ≤ 1 := by unfold putE; split <;> (try split) <;> simp
theorem putE_r : ∀ i ∈ (putE p sl N r j).r, i = p ∨ sl = some i := by
  unfold putE
  split
  · simp [eq_comm]
  · split <;> simp
theorem putE_wr : ∀ i ∈ (putE p sl N r j).wr, i = p ∨ sl = some i ∨ (i = j ∧ (putE p sl N r j).a.length = 1) := by
  unfold putE
  split
  · simp [Eff.wr, eq_comm]
  · split <;> simp [Eff.wr]
theorem putE_ap (h : Wr p sl b m r g) (hp : p < j) (hN : 4 ≤ N.length) : Wr p (putS sl N j) (hd4 N) (tl4 N) r' ((putE p sl N r' j).ap g) ∧ (∀ i, i < j → i ≠ p → sl ≠ some i → (putE p sl N r' j).ap g i = g i) ∧ (putS sl N j = sl ∨ (sl = none ∧ putS sl N j = some j ∧ (putE p sl N r' j).a.length = 1)) := by
  cases sl with
  | some q =>
    have hne : p ≠ q := fun e => h.ne (by rw [e])
    refine ⟨⟨?_, ?_, by simp [putS]⟩, ?_, .inl rfl⟩
    · simp [putE, putS, Eff.ap, setAll, addAll, upd_app, hne, hd4_len]
    · intro q' e; simp [putS] at e; subst e; simp [putE, Eff.ap, setAll, addAll]
    · intro i h1 h2 h3
      have h4 : i ≠ q := fun e => h3 (by rw [e])
      simp [putE, Eff.ap, setAll, addAll, upd_app, h2, h4]
  | none =>
    by_cases h4 : N.length = 4
    · refine ⟨⟨?_, ?_, ?_⟩, ?_, .inl (by simp [putS, h4])⟩
      · simp [putE, putS, h4, Eff.ap, setAll, addAll, hd4_len]
      · intro q' e; simp [putS, h4] at e
      · intro _; exact List.eq_nil_of_length_eq_zero (by rw [hd4_len]; omega)
      · intro i h1 h2 h3; simp [putE, h4, Eff.ap, setAll, addAll, upd_app, h2]
    · refine ⟨⟨?_, ?_, ?_⟩, ?_, .inr ⟨rfl, by simp [putS, h4], by simp [putE, h4]⟩⟩
      · simp [putE, putS, h4, Eff.ap, setAll, addAll, upd_app, hd4_len, show p ≠ j by omega]
      · intro q' e; simp [putS, h4] at e; subst e; simp [putE, h4, Eff.ap, setAll, addAll]
      · intro e; simp [putS, h4] at e
      · intro i h1 h2 h3; simp [putE, h4, Eff.ap, setAll, addAll, upd_app, h2, show i ≠ j by omega]
end

/-- How a body that put ends. -/
theorem put_fin {p : Nat} {sl sl' : Option Nat} {b b' : List Nat} {m r m' r' j : Nat} {N : List Nat} {s2 : Nat → Prop} {g2 g' : Heap} {n : Nat} {v' : Value} (h : Wr p sl b m r g2) (h' : Wr p sl' b' m' r' g') (hN : all4 b' m' = N) (hm' : m' < 2 ^ 32)
    (hsl : sl' = sl ∨ (sl = none ∧ b' ≠ [] ∧ ∃ k, sl' = some k ∧ n ≤ k)) (hs : ∀ i, s2 i → i < n) (hwf : ∀ i b, g2 i = some b → s2 i ∧ ∀ c ∈ b.cells, SV1 s2 c) (hfr : Fresh (putE p sl N r' j) s2) (hv : v' = .bool true) (hold : ∀ i, i < n → i ≠ p → sl ≠ some i → g' i = g2 i) :
    ∃ ids, Abs.Fin (putE p sl N r' j) ids s2 g2 n g' v' := by
  have e1 : hd4 N = b' := by rw [← hN, hd4_all4]
  have e2 : tl4 N = m' := by rw [← hN, tl4_all4 hm']
  have e3 : N.length = b'.length + 4 := by rw [← hN, all4_len]
  have hpn : p < n := hs p (hwf p _ h.hp).1
  have hdp : (g2 p).isSome = true := by rw [h.hp]; rfl
  have hwp : g' p = some (wrB sl' N r') := by rw [h'.hp, wrB, e2, e3, Nat.add_sub_cancel]
  cases sl with
  | some q =>
    rcases hsl with rfl | ⟨e, _⟩
    · refine ⟨[], ?_⟩
      refine fin_w2 (fun e => h.ne (by rw [e])) hv trivial hdp (by rw [h.hq q rfl]; rfl) hwp (by rw [h'.hq q rfl, e1]) (fun x hx => ?_) (fun x hx => SV1_plain (plain_bs _ x hx)) (fun i b h1 h2 hb => by rw [hold i (hs i (hwf i b hb).1) h1 (fun e => h2 (by cases e; rfl))]; exact hb)
      simp only [List.mem_cons, List.not_mem_nil, or_false] at hx
      rcases hx with rfl | rfl | rfl
      · have hsq := (hwf q _ (h.hq q rfl)).1
        exact .inr hsq
      · trivial
      · trivial
    · cases e
  | none =>
    by_cases h4 : N.length = 4
    · have hb0 : b' = [] := List.eq_nil_of_length_eq_zero (by omega)
      rcases hsl with rfl | ⟨_, hbn, _⟩
      · refine ⟨[], ?_⟩
        rw [putE, if_pos h4]
        refine fin_w1 hv trivial hdp hwp (fun x hx => ?_) (fun i b h1 hb => by rw [hold i (hs i (hwf i b hb).1) h1 (by simp)]; exact hb)
        simp only [List.mem_cons, List.not_mem_nil, or_false] at hx
        rcases hx with rfl | rfl | rfl <;> trivial
      · exact absurd hb0 hbn
    · have hbn : b' ≠ [] := fun e => h4 (by rw [e3, e]; rfl)
      rcases hsl with rfl | ⟨_, _, k, rfl, hk⟩
      · exact absurd (h'.h0 rfl) hbn
      · refine ⟨[k], ?_⟩
        rw [putE, if_neg h4] at hfr ⊢
        have hj : ¬ s2 j := hfr j (Nat.le_refl _) (by simp)
        have hpj : p ≠ j := fun e => hj (by rw [← e]; exact (hwf p _ h.hp).1)
        refine fin_wa hv trivial hk (by rw [h'.hq k rfl, e1]) (fun c hc => plain_bs _ c hc) hj (fun i hi => ?_) (fun i hi => ?_) (fun x hx c hc => ?_) (fun i b h1 hb => ?_)
        · simp at hi; subst hi; exact hdp
        · simp at hi; subst hi
          refine ⟨wrB (some j) N r', by simp [setAll], ?_⟩
          rw [hwp]
          simp [renB, ren1, wv, e3]
        · simp only [List.mem_singleton] at hx
          subst hx
          simp only [List.mem_cons, List.not_mem_nil, or_false] at hc
          rcases hc with rfl | rfl | rfl
          · exact .inr (.inr rfl)
          · trivial
          · trivial
        · simp at h1
          rw [hold i (hs i (hwf i b hb).1) h1 (by simp)]; exact hb

set_option maxRecDepth 10000 in
theorem put_nil (x y z : Int) (g : Heap) : FnSpec Try.prog 33 [.pointer none, .int .i64 x, .int .i64 y, .int .i64 z] g { v := .bool false } := by
  refine spec_of_body [8] follows Try.func33 rfl (by kernel_rfl) (by simp [Try.f33]) (by kernel_rfl) rfl ?_
  intro g2 s2 n hg hfr hs hn hwf hsv
  refine s_run (by simp only [runL, awant_none, astep, evl, put, ap_none, List.length_nil, Nat.add_zero, undef] <;> rfl) ?_
  refine w_assoc (s_run (by simp only [runL, awant_some, Option.getD_some, List.getElem?_toArray, List.getElem?_cons_succ, List.getElem?_cons_zero, Option.bind_some, b_tf, awant_none, astep, evl, put, ap_none, List.length_nil, Nat.add_zero, upd_app, stepBin, abin, stepPick, reduceCtorEq, ↓reduceIte, Nat.reduceEqDiff, undef, Try.underlying33, Option.isNone_none] <;> rfl) ?_)
  refine s_true (by simp [evl]) (w_assoc (s_run (by simp only [runL, awant_none, astep, evl, put, ap_none, List.length_nil, Nat.add_zero] <;> rfl) ?_))
  exact s_ret ⟨.inr rfl, by simp, [], fin_none (by simp [resVal]) trivial (fun _ _ h => h)⟩

set_option maxRecDepth 10000 in
theorem put_no (p : Nat) (x y z : Int) (s : Nat) (g : Heap) (hx : -2 ^ 63 ≤ x ∧ x ≤ 2 ^ 63 - 1) (hz : -2 ^ 63 ≤ z ∧ z ≤ 2 ^ 63 - 1) (h : spn x y z = false) : FnSpec Try.prog 33 [.pointer (some ⟨p, 0, some s⟩), .int .i64 x, .int .i64 y, .int .i64 z] g { v := .bool false } := by
  refine spec_of_body [8] follows Try.func33 rfl (by kernel_rfl) (by simp [Try.f33]) (by kernel_rfl) rfl ?_
  intro g2 s2 n hg hfr hs hn hwf hsv
  refine s_run (by simp only [runL, awant_none, astep, evl, put, ap_none, List.length_nil, Nat.add_zero, undef] <;> rfl) ?_
  refine w_assoc (s_take 6 (by simp only [runL, awant_some, Option.getD_some, List.getElem?_toArray, List.getElem?_cons_succ, List.getElem?_cons_zero, Option.bind_some, b_ff, List.take_succ_cons, List.take_zero, awant_none, astep, evl, put, ap_none, List.length_nil, Nat.add_zero, upd_app, stepBin, abin, reduceCtorEq, ↓reduceIte, Nat.reduceEqDiff, Try.underlying33, Option.isNone_some] <;> rfl) ?_)
  refine g_call 72 _ (by simp only [awant_some, List.getElem?_toArray, List.getElem?_cons_succ, List.getElem?_cons_zero, Option.bind_some, b_ff, upd_app, ↓reduceIte, Nat.reduceEqDiff] <;> rfl) rfl (isSpan_spec x y z hx hz g2) (by simp) ?_
  refine ops_run (by simp only [runL, awant_some, List.getElem?_toArray, List.getElem?_cons_succ, List.getElem?_cons_zero, Option.bind_some, b_ff, Bool.not_false, awant_none, astep, evl, put, ap_none, List.length_nil, Nat.add_zero, upd_app, stepUn, stepPick, ↓reduceIte, Nat.reduceEqDiff, Bool.false_eq_true, h] <;> rfl) ?_
  refine s_true (by simp [evl]) (w_assoc (s_run (by simp only [runL, awant_none, astep, evl, put, ap_none, List.length_nil, Nat.add_zero] <;> rfl) ?_))
  exact s_ret ⟨.inr rfl, by simp, [], fin_none (by simp [resVal]) trivial (fun _ _ h => h)⟩

theorem spn_t {r lo sz tot : Nat} (h : PutOk r lo sz tot) : spn (lo : Int) (sz : Int) (tot : Int) = true := by
  have := h.t1
  have := h.s1
  have := h.sum
  exact decide_eq_true ⟨by omega, by omega, by omega, by omega, by omega⟩

theorem putN_all4 {b : List Nat} {m r lo sz tot : Nat} : putN (all4 b m) r lo sz tot = addN (all4 b m) (r / tot * lo) ++ List.replicate (sh (r / tot * sz)) 0 := rfl

theorem ownI_wv {g : Heap} {v : Value} {c : Nat} {b : List Nat} {i : Option Nat} (h : OwnI 5 1 g v c (bs b) i) (hc : c = b.length) : v = wv i b.length := by
  subst hc
  rcases h with ⟨rfl, rfl, h0, _⟩ | ⟨k, rfl, rfl, _, _⟩
  · rfl
  · simp [wv]

set_option maxRecDepth 10000 in
/-- The step of the loop: a byte is put out, the bits and the range are widened. -/
theorem put_body {p k R n0 : Nat} {sl' : Option Nat} {bk : List Nat} {nk rk : Nat} {t : Nat → Value} {g : Heap} {n' : Nat} {Q : AQ} (t0 : t 0 = ptr3 p) (hW : Wr p sl' bk nk rk g) (hn : nk < 2 ^ 32) (hr : rk * 256 < 2 ^ 40) (hpn : p < n') (hsl : ∀ i, sl' = some i → i < n') (hbl : bk.length ≤ 2 ^ 39)
    (hQ : ∀ (t' : Nat → Value) (g' : Heap) (n'' : Nat) (sl'' : Option Nat), t' 0 = ptr3 p → Wr p sl'' (bk ++ [nk / 2 ^ 24]) (nk % 2 ^ 24 * 256) rk g' → n' ≤ n'' → (sl'' = sl' ∨ (sl' = none ∧ ∃ i, sl'' = some i ∧ n' ≤ i ∧ i < n'')) → (∀ i, i < n' → i ≠ p → sl' ≠ some i → g' i = g i) → Q .normal t' g' n'') :
    awp Try.prog (Try.f33.body.getD .skip |> cr |> cr |> cr |> cr |> cr |> cl |> cr |> cb |> cb |> cr |> cl |> cb) Q t g n' := by
  show awp Try.prog (.seq (.region 11 _ true) (.region 12 _ false)) Q t g n'
  have w8 : IntKind.u8.wrap ((nk / 2 ^ 24 : Nat) : Int) = ((nk / 2 ^ 24 : Nat) : Int) := wrap8_of (by omega)
  refine s_drawn #[0, 0, 2, 6, 14, 0, 32, 96, 224, 480, 992, 2016, 4094, 8191, 16383, 32767] (by decide +kernel) ?_
  refine d_pure 4 (by simp only [runP, List.take_succ_cons, List.take_zero, awant_none, astep, evl, put, upd_app, reduceCtorEq, ↓reduceIte, List.isEmpty_nil, Bool.and_self, t0, nchk, fld84_0] <;> rfl) ?_
  dsimp only
  refine d_rd { v := wv sl' bk.length, r := [p] } (by simp only [astep, evl, upd_app, ↓reduceIte, hW.ld0] <;> rfl) rfl rfl rfl (by simp) ?_
  refine d_pure 3 (by simp only [runP, List.take_succ_cons, List.take_zero, awant_none, astep, evl, put, upd_app, reduceCtorEq, ↓reduceIte, List.isEmpty_nil, Bool.and_self, t0, nchk, fld84_1] <;> rfl) ?_
  dsimp only
  refine d_rd { v := .int .u64 (nk : Nat), r := [p] } (by simp only [astep, evl, upd_app, ↓reduceIte, hW.ld1] <;> rfl) rfl rfl rfl (by simp) ?_
  refine d_pure 2 (by simp only [runP, List.take_succ_cons, List.take_zero, awant_none, astep, evl, put, upd_app, stepBin, abin, ↓reduceIte, Int.reduceLE, Int.reduceToNat, List.isEmpty_nil, Bool.and_self, shr64_24, conv41_5, w8] <;> rfl) ?_
  dsimp only
  refine d_step { v := .slice (some ⟨n', 0, some 1⟩) 1 1, j := n', a := [⟨false, 5, [.int .u8 ((nk / 2 ^ 24 : Nat) : Int)]⟩] } (by simp only [astep, evl, upd_app, ↓reduceIte, List.map_cons, List.map_nil, undef, lit24_1] <;> rfl) rfl (by
    intro x hx
    simp only [List.mem_cons, List.not_mem_nil, or_false] at hx
    rcases hx with rfl | rfl <;> exact .inr ⟨by simp, by simp [Eff.wr]; omega⟩) ?_
  refine d_heap fun G1 hG1 => ?_
  have b1 : G1 n' = some ⟨false, 5, bs [nk / 2 ^ 24]⟩ := by rw [hG1]; simp [ap_new]
  have k1 : Kp n' g G1 := by rw [hG1]; exact kp_ap (Kp.refl _ _) rfl (fun _ => Nat.le_refl _)
  have s1 := src_bs (m := 1) b1 rfl
  have hO1 : OwnI 5 1 G1 (wv sl' bk.length) bk.length (bs bk) sl' := hW.own.keep fun i e => k1 i (hsl i e)
  obtain ⟨f, sl'', hf, hO2, hsl2, hkf⟩ := own_append (P := Try.prog) (n := n' + 1) hO1 s1.cells (by simp) Try.underlying24 tinf5 (by omega) (by simp; omega) (by omega)
  rw [bs_app, List.length_singleton] at hO2
  refine d_step f (by simp only [astep, evl, upd_app, put, stepCall, ↓reduceIte, Nat.reduceEqDiff, List.length_cons, List.length_nil, Nat.zero_add]; exact hf) rfl (by
    intro x hx
    simp only [List.mem_cons, List.not_mem_nil, or_false] at hx
    rcases hx with rfl | rfl | rfl
    · exact .inl (bit_of 12 11 rfl rfl (by decide +kernel))
    · exact .inl (bit_of 12 8 rfl rfl (by decide +kernel))
    · exact .inl (bit_of 12 4 rfl rfl (by decide +kernel))) ?_
  refine d_heap fun G2 hG2 => ?_
  rw [← hG2] at hO2 hkf
  refine d_num fun N2 hN2 => ?_
  have hN2' : n' + 1 ≤ N2 := by rw [hN2]; simp
  have hN2a : N2 = n' + 1 + f.a.length := by rw [hN2]; simp
  refine d_pure 2 (by simp only [runP, List.take_succ_cons, List.take_zero, awant_none, astep, evl, put, upd_app, ↓reduceIte, Nat.reduceEqDiff, List.isEmpty_nil, Bool.and_self, nchk, fld84_0] <;> rfl) ?_
  dsimp only
  have hpsl : some p ≠ sl' := fun e => hW.ne e.symm
  have p2 : G2 p = some ⟨false, 84, [wv sl' bk.length, .int .u64 (nk : Nat), .int .u64 (rk : Nat)]⟩ := by rw [hkf p (by omega) hpsl, k1 p hpn]; exact hW.hp
  have hfv : f.v = wv sl'' (bk ++ [nk / 2 ^ 24]).length := ownI_wv hO2 (by simp)
  have hst : stepStore Try.prog 24 (.pointer (some ⟨p, 0, some 3⟩)) f.v G2 = some { v := undef, r := [p], w := [(p, ⟨false, 84, [f.v, .int .u64 (nk : Nat), .int .u64 (rk : Nat)]⟩)] } := st_at (s := some 3) (d := undef) p2 rfl (by simp) tsize24 (by rw [hfv]; exact (wv_cells _ _).1) (by rw [hfv]; exact (wv_cells _ _).2)
  refine d_step { v := undef, r := [p], w := [(p, ⟨false, 84, [f.v, .int .u64 (nk : Nat), .int .u64 (rk : Nat)]⟩)] } (by simp only [astep, evl, upd_app, ↓reduceIte, Nat.reduceEqDiff]; exact hst) rfl (by
    intro x hx
    simp only [List.mem_cons, List.not_mem_nil, or_false] at hx
    rcases hx with rfl | rfl | rfl | rfl
    · exact .inl (bit_of 15 12 rfl rfl (by decide +kernel))
    · exact .inl (bit_of 15 11 rfl rfl (by decide +kernel))
    · exact .inl (bit_of 15 8 rfl rfl (by decide +kernel))
    · exact .inl (bit_of 15 4 rfl rfl (by decide +kernel))) ?_
  refine d_heap fun G3 hG3 => ?_
  have p3 : G3 p = some ⟨false, 84, [wv sl'' (bk ++ [nk / 2 ^ 24]).length, .int .u64 (nk : Nat), .int .u64 (rk : Nat)]⟩ := by rw [hG3]; simp [ap_wr, hfv]
  have o3 : ∀ i, i ≠ p → G3 i = G2 i := fun i h => by rw [hG3]; simp [ap_wr, upd_app, h]
  have hne2 : sl'' ≠ some p := by
    rcases hsl2 with ⟨e, _⟩ | ⟨_, e, _⟩
    · rw [e]; exact hW.ne
    · rw [e]; simp; omega
  have hO3 : OwnI 5 1 G3 f.v (bk.length + 1) (bs (bk ++ [nk / 2 ^ 24])) sl'' := hO2.keep fun i e => o3 i (fun e' => hne2 (by rw [e, e']))
  have W3 : Wr p sl'' (bk ++ [nk / 2 ^ 24]) nk rk G3 := by
    refine ⟨p3, fun q e => ?_, fun e => ?_⟩
    · rcases hO3 with ⟨h1, _⟩ | ⟨k, h1, _, h3, _⟩
      · rw [h1] at e; cases e
      · rw [h1] at e; cases e; exact h3
    · rcases hO3 with ⟨_, _, h3, _⟩ | ⟨k, h1, _⟩
      · omega
      · rw [h1] at e; cases e
  have w1 : IntKind.u64.wrap ((nk : Int) * 2 ^ (min 8 IntKind.u64.bits)) = ((nk * 256 : Nat) : Int) := shl64_8 nk (by omega)
  have w2 : bits .and .u64 ((nk * 256 : Nat) : Int) 4294967295 = ((nk % 2 ^ 24 * 256 : Nat) : Int) := by rw [and32 _ (by omega)]; congr 1; omega
  show awp Try.prog (.region 12 _ false) _ _ _ _
  refine w_gen (fun t => t 0 = ptr3 p) (by simp [upd_app, put, t0]) ?_
  clear t0
  rintro t t0
  refine region_run (id := 12) (by simp only [runL, awant_none, astep, evl, put, ap_none, ap_wr, List.length_nil, Nat.add_zero, upd_app, stepBin, abin, reduceCtorEq, ↓reduceIte, Nat.reduceEqDiff, Int.reduceLE, Int.reduceToNat, undef, t0, nchk, fld84_1, W3.ld1, w1, w2, W3.st1] <;> rfl) ?_
  refine hQ _ _ _ sl'' (by simp [upd_app, t0]) (W3.upd _ _ (by simp []) (fun i h => by simp [upd_app, h])) (by omega) ?_ (fun i h1 h2 h3 => ?_)
  · rcases hsl2 with ⟨e, _⟩ | ⟨e, e', e3⟩
    · exact .inl e
    · exact .inr ⟨e, n' + 1, e', by omega, by omega⟩
  · show upd G3 p _ i = g i
    rw [upd_ne _ _ h2, o3 i h2, hkf i (by omega) (fun e => h3 e.symm), k1 i h1]
end Go.Proofs.Ytahinegnblankaa
