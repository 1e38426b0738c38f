import Derived.Test.YtahinegnblankaaP31
namespace Go.Proofs.Ytahinegnblankaa
open Go Abs
set_option linter.unusedSimpArgs false
set_option linter.unusedVariables false

abbrev rwB (q : Nat) (N : List Nat) (r : Nat) : Blk := ⟨false, 43, [.slice (some ⟨q, 0, some N.length⟩) N.length 1, .int .u64 (r : Nat)]⟩
def rputE (p q : Nat) (N : List Nat) (r : Nat) : Eff := { v := .bool true, r := [p, q], w := [(p, rwB q N r), (q, ⟨false, 5, bs N⟩)] }
theorem rputE_ap {p q : Nat} {N N' : List Nat} {r r' : Nat} {g : Heap} (h : Rw p q N r g) : Rw p q N' r' ((rputE p q N' r').ap g) ∧ ∀ i, i ≠ p → i ≠ q → (rputE p q N' r').ap g i = g i := by
  have hne := h.ne
  refine ⟨⟨by simp [rputE, Eff.ap, setAll, addAll, upd_app, hne], by simp [rputE, Eff.ap, setAll, addAll]⟩, fun i h1 h2 => by simp [rputE, Eff.ap, setAll, addAll, upd_app, h1, h2]⟩

def rrleft (p : Nat) (g : Heap) : Nat := match g p with
  | some b => match b.cells[1]? with
    | some (Value.int _ x) => 2 ^ 32 - x.toNat
    | _ => 0
  | none => 0
theorem rrleft_rw {p q : Nat} {N : List Nat} {r : Nat} {g : Heap} (h : Rw p q N r g) : rrleft p g = 2 ^ 32 - r := by simp [rrleft, h.hp]

set_option maxRecDepth 10000 in
theorem rput_no (a : Value) (x y z : Int) (g : Heap) (hx : -2 ^ 63 ≤ x ∧ x ≤ 2 ^ 63 - 1) (hz : -2 ^ 63 ≤ z ∧ z ≤ 2 ^ 63 - 1) (h : spn x y z = false) : FnSpec Try.prog 34 [a, .int .i64 x, .int .i64 y, .int .i64 z] g { v := .bool false } := by
  refine spec_of_body [8] follows Try.func34 rfl (by kernel_rfl) (by simp [Try.f34]) (by kernel_rfl) rfl ?_
  intro g2 s2 n hg hfr hs hn hwf hsv
  refine s_run (by simp only [runL, awant_none, astep, evl, put, ap_none, List.length_nil, Nat.add_zero, undef] <;> rfl) ?_
  refine w_assoc (s_take 3 (by simp only [runL, Option.getD_some, List.getElem?_cons_succ, List.getElem?_cons_zero, List.take_succ_cons, List.take_zero, awant_none, astep, evl, put, ap_none, List.length_nil, Nat.add_zero, upd_app, ↓reduceIte, Nat.reduceEqDiff] <;> rfl) ?_)
  refine ops_call 74 _ rfl (may_spec x y z hx hz g2) (by simp) ?_
  refine ops_run (by simp only [runL, Bool.not_false, awant_none, astep, evl, put, ap_none, List.length_nil, Nat.add_zero, upd_app, stepUn, ↓reduceIte, h] <;> rfl) ?_
  refine s_true (by simp [evl]) (w_assoc (s_run (by simp only [runL, awant_none, astep, evl, put, ap_none, List.length_nil, Nat.add_zero] <;> rfl) ?_))
  exact s_ret ⟨.inr rfl, by simp, [], fin_none (by simp [resVal]) trivial (fun _ _ h => h)⟩

set_option maxRecDepth 10000 in
theorem rput_yes (p q : Nat) (N : List Nat) (r lo sz tot : Nat) (g : Heap) (h : Rw p q N r g) (hb : ∀ x ∈ N, x < 256) (ok : PutOk r lo sz tot) (hl : N.length ≤ 2 ^ 37) :
    FnSpec Try.prog 34 [ptr2 p, .int .i64 lo, .int .i64 sz, .int .i64 tot] g (rputE p q (putN N r lo sz tot) (putR r sz tot)) := by
  refine spec_of_body [8] follows Try.func34 rfl (by kernel_rfl) (by simp [Try.f34]) (by kernel_rfl) rfl ?_
  intro g2 s2 n hg hfr hs hn hwf hsv
  have h2 : Rw p q N r g2 := h.congr (hg p (by simp [rputE, Eff.fp])) (hg q (by simp [rputE, Eff.fp]))
  have hne := h2.ne
  have hpn : p < n := hs p (hwf p _ h2.hp).1
  have hqn : q < n := hs q (hwf q _ h2.hq).1
  have hsm := ok.sum
  have ht1 := ok.t1
  have hs1 := ok.s1
  have hr2 := ok.r2
  refine s_run (by simp only [runL, awant_none, astep, evl, put, ap_none, List.length_nil, Nat.add_zero, undef] <;> rfl) ?_
  refine w_assoc (s_take 3 (by simp only [runL, Option.getD_some, List.getElem?_cons_succ, List.getElem?_cons_zero, List.take_succ_cons, List.take_zero, awant_none, astep, evl, put, ap_none, List.length_nil, Nat.add_zero, upd_app, ↓reduceIte, Nat.reduceEqDiff] <;> rfl) ?_)
  refine ops_call 74 _ rfl (may_spec (lo : Int) (sz : Int) (tot : Int) (by omega) (by omega) g2) (by simp) ?_
  refine ops_run (by simp only [runL, Bool.not_true, awant_none, astep, evl, put, ap_none, List.length_nil, Nat.add_zero, upd_app, stepUn, ↓reduceIte, spn_t ok] <;> rfl) ?_
  refine s_false (by simp [evl]) (s_skip ?_)
  refine w_gen (fun t => t 0 = ptr2 p ∧ t 1 = .int .i64 (lo : Nat) ∧ t 2 = .int .i64 (sz : Nat) ∧ t 3 = .int .i64 (tot : Nat)) (by simp [upd_app]) ?_
  rintro t ⟨t0, t1, t2, t3⟩
  have z0 : (((tot : Nat) : Int) = 0) = False := eq_false (by omega)
  have wt : IntKind.u64.wrap ((tot : Nat) : Int) = (tot : Nat) := wrapU (by omega)
  have hple := ok.part.2
  have hle := ok.le
  have hR1 := ok.size
  have wq : IntKind.u64.wrap (((r : Nat) : Int).tdiv ((tot : Nat) : Int)) = ((r / tot : Nat) : Int) := by
    rw [show ((r : Nat) : Int).tdiv ((tot : Nat) : Int) = ((r / tot : Nat) : Int) from rfl, wrapU (by omega)]
  refine s_run (by simp only [runL, awant_none, astep, evl, put, ap_none, List.length_nil, Nat.add_zero, upd_app, stepBin, abin, ↓reduceIte, Nat.reduceEqDiff, ne_eq, not_false_eq_true, and_self, t0, t3, nchk, fld43_1, h2.ld1, conv3_41, wt, z0, wq] <;> rfl) ?_
  have hN : putN N r lo sz tot = addN N (r / tot * lo) ++ List.replicate (sh (r / tot * sz)) 0 := rfl
  have hR : putR r sz tot = r / tot * sz * 256 ^ sh (r / tot * sz) := rfl
  rw [hN, hR]
  clear hN hR hfr hg hn
  obtain ⟨part, hpart⟩ : ∃ part, r / tot = part := ⟨_, rfl⟩
  rw [hpart] at hple hle hR1 ⊢
  clear wq
  have hlt : part * lo < 2 ^ 32 := by omega
  have wl : IntKind.u64.wrap ((lo : Nat) : Int) = (lo : Nat) := wrapU (by omega)
  have wm : IntKind.u64.wrap (((part : Nat) : Int) * ((lo : Nat) : Int)) = ((part * lo : Nat) : Int) := by rw [show ((part : Nat) : Int) * ((lo : Nat) : Int) = ((part * lo : Nat) : Int) by simp, wrapU (by omega)]
  refine w_gen (fun t => t 0 = ptr2 p ∧ t 1 = .int .i64 (lo : Nat) ∧ t 2 = .int .i64 (sz : Nat) ∧ t 9 = .int .u64 (part : Nat)) (by simp [upd_app, t0, t1, t2]) ?_
  clear t0 t1 t2 t3
  rintro t ⟨t0, t1, t2, t9⟩
  refine s_take 5 (by simp only [runL, List.take_succ_cons, List.take_zero, awant_none, astep, evl, put, ap_none, List.length_nil, Nat.add_zero, upd_app, stepBin, abin, ↓reduceIte, Nat.reduceEqDiff, t0, t1, t9, conv3_41, wl, wm] <;> rfl) ?_
  refine ops_call 75 _ rfl (add_spec p q N (part * lo) r g2 h2 hb (by omega) (by omega)) (by simp [addE]) (ops_heap fun G1 hG1 => ?_)
  have o1 : ∀ i, i ≠ q → G1 i = g2 i := fun i hi => by rw [hG1]; simp [addE, Eff.ap, setAll, addAll, upd_app, hi]
  have W1 : Rw p q (addN N (part * lo)) r G1 := ⟨by rw [o1 p hne, addN_len]; exact h2.hp, by rw [hG1]; simp [addE, Eff.ap, setAll, addAll]⟩
  refine ops_run (by simp only [runL, put] <;> rfl) ?_
  refine w_gen (fun t => t 0 = ptr2 p ∧ t 2 = .int .i64 (sz : Nat) ∧ t 9 = .int .u64 (part : Nat)) (by simp [upd_app, t0, t2, t9]) ?_
  clear t0 t1 t2 t9
  rintro t ⟨t0, t2, t9⟩
  have hR2 : part * sz < 2 ^ 32 := by omega
  have ws : IntKind.u64.wrap ((sz : Nat) : Int) = (sz : Nat) := wrapU (by omega)
  have wm2 : IntKind.u64.wrap (((part : Nat) : Int) * ((sz : Nat) : Int)) = ((part * sz : Nat) : Int) := by rw [show ((part : Nat) : Int) * ((sz : Nat) : Int) = ((part * sz : Nat) : Int) by simp, wrapU (by omega)]
  have hNl := addN_len N (part * lo)
  obtain ⟨R, hRR⟩ : ∃ R, part * sz = R := ⟨_, rfl⟩
  obtain ⟨M, hM⟩ : ∃ M, addN N (part * lo) = M := ⟨_, rfl⟩
  rw [hM] at W1 hNl ⊢
  rw [hRR] at hR1 hR2 wm2 hle ⊢
  clear hM hRR hG1
  refine s_run (by simp only [runL, awant_none, astep, evl, put, ap_none, ap_wr, List.length_nil, Nat.add_zero, upd_app, stepBin, abin, ↓reduceIte, Nat.reduceEqDiff, undef, t0, t2, t9, nchk, fld43_1, conv3_41, ws, wm2, W1.st1] <;> rfl) (w_heap fun G2 hG2 => ?_)
  have W2 : Rw p q M R G2 := ⟨by rw [hG2]; simp [], by rw [hG2]; simp [upd_app, Ne.symm hne, W1.hq]⟩
  have o2 : ∀ i, i ≠ p → i ≠ q → G2 i = g2 i := fun i h1 h3 => by rw [hG2]; simp [upd_app, h1, o1 i h3]
  have hsh := sh_le R
  refine s_block (fun t g' _ => Rw p q (M ++ List.replicate (sh R) 0) (R * 256 ^ sh R) g' ∧ ∀ i, i < n → i ≠ p → i ≠ q → g' i = g2 i) ?_ ?_
  · refine w_loop (fun t g' n'' => ∃ k, k ≤ sh R ∧ t 0 = ptr2 p ∧ n ≤ n'' ∧ Rw p q (M ++ List.replicate k 0) (R * 256 ^ k) g' ∧ ∀ i, i < n → i ≠ p → i ≠ q → g' i = g2 i)
      (fun _ g' _ => rrleft p g') ⟨0, by omega, by simp [upd_app, t0], by simp, by simpa using W2, fun i _ h1 h2 => o2 i h1 h2⟩ ?_
    clear t0 t2 t9
    rintro t g' n'' ⟨k, hk, t0, hn'', hWk, hf⟩
    have hrk := sh_mul hR1 hR2 hk
    by_cases hlt : k < sh R
    · have hsm2 : R * 256 ^ k < 16777216 := (sh_lt hR1).2 hlt
      have d1 : decide (((R * 256 ^ k : Nat) : Int) < 16777216) = true := decide_eq_true (by omega)
      refine w_assoc (s_run (by simp only [runL, awant_none, astep, evl, put, ap_none, List.length_nil, Nat.add_zero, upd_app, stepBin, abin, ↓reduceIte, t0, nchk, fld43_1, hWk.ld1, d1] <;> rfl) ?_)
      refine s_true (by simp [evl]) (s_skip (w_block ?_))
      refine w_gen (fun t => t 0 = ptr2 p) (by simp [upd_app, t0]) ?_
      clear t0
      rintro t t0
      obtain ⟨Mk, hMk⟩ : ∃ Mk, M ++ List.replicate k 0 = Mk := ⟨_, rfl⟩
      have hMl : Mk.length = N.length + k := by rw [← hMk]; simp [hNl]
      rw [hMk] at hWk
      have hO : OwnI 5 1 (upd g' n'' (some ⟨false, 5, bs [0]⟩)) (.slice (some ⟨q, 0, some Mk.length⟩) Mk.length 1) Mk.length (bs Mk) (some q) :=
        .inr ⟨q, rfl, by simp, by rw [upd_ne _ _ (by omega)]; exact hWk.hq, by simp⟩
      obtain ⟨f, i', hf1, hO2, hi', hkf⟩ := own_append (P := Try.prog) (n := n'' + 1) hO (src_bs (m := 1) (l := [0]) (k := n'') (ro := false) (e := 5) (by simp) rfl).cells (by simp) Try.underlying24 tinf5 (by omega) (by simp; omega) (by omega)
      rcases hi' with ⟨rfl, hfa⟩ | ⟨e, _⟩
      · rw [bs_app, List.length_singleton] at hO2
        have hf2 : stepAppend Try.prog 24 24 (.slice (some ⟨q, 0, some Mk.length⟩) Mk.length 1) (.slice (some ⟨n'', 0, some 1⟩) 1 1) (upd g' n'' (some ⟨false, 5, [.int .u8 0]⟩)) (n'' + 1) = some f := hf1
        refine s_take 7 (by simp only [runL, List.take_succ_cons, List.take_zero, awant_none, astep, evl, put, ap_none, ap_new, List.length_nil, List.length_cons, Nat.add_zero, Nat.zero_add, upd_app, stepCall, reduceCtorEq, ↓reduceIte, Nat.reduceEqDiff, List.map_cons, List.map_nil, undef, t0, nchk, fld43_0, hWk.ld0, lit24_1, hf2] <;> rfl) (ops_heap fun G3 hG3 => ?_)
        have hG3' : G3 = f.ap (upd g' n'' (some ⟨false, 5, bs [0]⟩)) := hG3
        rw [← hG3'] at hO2 hkf
        have hfv : f.v = .slice (some ⟨q, 0, some (Mk ++ [0]).length⟩) (Mk ++ [0]).length 1 := by
          have := ownI_wv hO2 (by simp)
          rw [this]; rfl
        have q3 : G3 q = some ⟨false, 5, bs (Mk ++ [0])⟩ := by
          rcases hO2 with ⟨e, _⟩ | ⟨k', e, _, h3, _⟩
          · cases e
          · cases e; exact h3
        have p3 : G3 p = some ⟨false, 43, [.slice (some ⟨q, 0, some Mk.length⟩) Mk.length 1, .int .u64 (R * 256 ^ k : Nat)]⟩ := by rw [hkf p (by omega) (by simpa using hne), upd_ne _ _ (by omega)]; exact hWk.hp
        have hst : stepStore Try.prog 24 (.pointer (some ⟨p, 0, some 2⟩)) f.v G3 = some { v := undef, r := [p], w := [(p, ⟨false, 43, [f.v, .int .u64 (R * 256 ^ k : Nat)]⟩)] } := st_at (s := some 2) (d := undef) p3 rfl (by simp) tsize24 (by rw [hfv]; rfl) (by rw [hfv]; rfl)
        refine ops_run (by simp only [runL, List.drop_succ_cons, List.drop_zero, awant_none, astep, evl, put, ap_none, ap_wr, List.length_nil, Nat.add_zero, upd_app, ↓reduceIte, Nat.reduceEqDiff, undef, nchk, fld43_0, hst] <;> rfl) ?_
        refine w_heap fun G4 hG4' => ?_
        have hG4 : G4 = upd G3 p (some ⟨false, 43, [f.v, .int .u64 (R * 256 ^ k : Nat)]⟩) := hG4'
        have W4 : Rw p q (Mk ++ [0]) (R * 256 ^ k) G4 := ⟨by rw [hG4]; simp [hfv], by rw [hG4]; simp [upd_app, Ne.symm hne, q3]⟩
        have o4 : ∀ i, i < n → i ≠ p → i ≠ q → G4 i = g2 i := fun i h1 h2 h3 => by
          rw [hG4, upd_ne _ _ h2, hkf i (by omega) (by simpa using h3), upd_ne _ _ (by omega)]; exact hf i h1 h2 h3
        have ws8 : IntKind.u64.wrap (((R * 256 ^ k : Nat) : Int) * 2 ^ (min 8 IntKind.u64.bits)) = ((R * 256 ^ (k + 1) : Nat) : Int) := by
          rw [shl64_8 _ (by omega), Nat.pow_succ, Nat.mul_assoc]
        refine region_run (id := 8) (by simp only [runL, awant_none, astep, evl, put, ap_none, ap_wr, List.length_nil, Nat.add_zero, upd_app, stepBin, abin, reduceCtorEq, ↓reduceIte, Nat.reduceEqDiff, Int.reduceLE, Int.reduceToNat, undef, t0, nchk, fld43_1, W4.ld1, ws8, W4.st1] <;> rfl) ?_
        have W5 : Rw p q (Mk ++ [0]) (R * 256 ^ (k + 1)) (upd G4 p (some ⟨false, 43, [.slice (some ⟨q, 0, some (Mk ++ [0]).length⟩) (Mk ++ [0]).length 1, .int .u64 (R * 256 ^ (k + 1) : Nat)]⟩)) := ⟨by simp, by simp [upd_app, Ne.symm hne, W4.hq]⟩
        have hMk1 : Mk ++ [0] = M ++ List.replicate (k + 1) 0 := by rw [← hMk, List.append_assoc, List.replicate_succ']
        refine ⟨⟨k + 1, hlt, by simp [upd_app, t0], by show n ≤ n'' + 1 + f.a.length; omega, by rw [← hMk1]; exact W5, fun i h1 h2 h3 => ?_⟩, ?_⟩
        · show upd G4 p _ i = g2 i
          rw [upd_ne _ _ h2]; exact o4 i h1 h2 h3
        · have e1 := rrleft_rw hWk
          have e4 := rrleft_rw W5
          have hk1 := sh_mul hR1 hR2 (show k + 1 ≤ sh R by omega)
          have : R * 256 ^ (k + 1) = R * 256 ^ k * 256 := by rw [Nat.pow_succ, Nat.mul_assoc]
          have : 0 < R * 256 ^ k := Nat.mul_pos (by omega) (Nat.pow_pos (by omega))
          show rrleft p (upd G4 p _) < rrleft p g'
          rw [e1, e4]
          omega
      · cases e
    · have hke : k = sh R := by omega
      have d1 : decide (((R * 256 ^ k : Nat) : Int) < 16777216) = false := decide_eq_false (fun h => hlt ((sh_lt hR1).1 (by omega)))
      refine w_assoc (s_run (by simp only [runL, awant_none, astep, evl, put, ap_none, List.length_nil, Nat.add_zero, upd_app, stepBin, abin, ↓reduceIte, t0, nchk, fld43_1, hWk.ld1, d1] <;> rfl) ?_)
      refine s_false (by simp [evl]) (s_exit ?_)
      subst hke
      exact ⟨hWk, hf⟩
  · rintro t g' n'' ⟨hW, hf⟩
    refine s_run (by simp only [runL, awant_none, astep, evl, put, ap_none, List.length_nil, Nat.add_zero] <;> rfl) ?_
    refine w_ret ⟨.inr rfl, by simp, [], ?_⟩
    refine fin_w2 hne (by simp [resVal]) trivial (by rw [h2.hp]; rfl) (by rw [h2.hq]; rfl) hW.hp hW.hq (fun x hx => ?_) (fun x hx => SV1_plain (plain_bs _ x hx)) (fun i b h1 h3 hb => by rw [hf i (hs i (hwf i b hb).1) h1 h3]; exact hb)
    simp only [List.mem_cons, List.not_mem_nil, or_false] at hx
    rcases hx with rfl | rfl
    · exact .inr (hwf q _ h2.hq).1
    · trivial

theorem tob4_at {k n : Nat} (hk : k < 4) (hn : n < 2 ^ 32) : (tob 4 n).take (k + 1) = (tob 4 n).take k ++ [n / 2 ^ (24 - 8 * k) % 256] := by
  have e1 : tob 4 n = [n / 2 ^ 24 % 256, n / 2 ^ 16 % 256, n / 2 ^ 8 % 256, n % 256] := by
    simp only [tob, List.nil_append, List.cons_append, Nat.div_div_eq_div_mul]
  rw [e1]
  rcases k with _ | _ | _ | _ | k
  · rfl
  · rfl
  · rfl
  · simp
  · omega

def endE (p : Nat) (sl : Option Nat) (N : List Nat) (j : Nat) : Eff := { v := .slice (some ⟨j, 0, some N.length⟩) N.length 1, r := p :: sl.toList, j := j, a := [⟨false, 5, bs N⟩] }

set_option maxRecDepth 10000 in
theorem end_nil (g : Heap) : FnSpec Try.prog 35 [.pointer none] g { v := .slice none 0 0 } := by
  refine spec_of_body [2] follows Try.func35 rfl (by kernel_rfl) (by simp [Try.f35]) (by kernel_rfl) rfl ?_
  intro g2 s2 n hg hfr hs hn hwf hsv
  refine s_run (by simp only [runL, awant_none, astep, evl, put, ap_none, List.length_nil, Nat.add_zero, undef] <;> rfl) ?_
  refine w_assoc (s_run (by simp only [runL, Option.getD_some, List.getElem?_cons_zero, awant_none, astep, evl, put, ap_none, List.length_nil, Nat.add_zero, upd_app, stepBin, abin, reduceCtorEq, ↓reduceIte, Try.underlying33, Option.isNone_none] <;> rfl) ?_)
  refine s_true (by simp [evl]) (w_assoc (s_run (by simp only [runL, awant_none, astep, evl, put, ap_none, List.length_nil, Nat.add_zero] <;> rfl) ?_))
  exact s_ret ⟨.inr rfl, by simp, [], fin_none (by simp [resVal]) trivial (fun _ _ h => h)⟩

set_option maxRecDepth 10000 in
theorem end_spec (p : Nat) (sl : Option Nat) (b : List Nat) (m r : Nat) (g : Heap) (j : Nat) (h : Wr p sl b m r g) (hm : m < 2 ^ 32) (hl : b.length ≤ 2 ^ 38) : FnSpec Try.prog 35 [ptr3 p] g (endE p sl (all4 b m) j) := by
  refine spec_of_body [2] follows Try.func35 rfl (by kernel_rfl) (by simp [Try.f35]) (by kernel_rfl) rfl ?_
  intro g2 s2 n hg hfr hs hn hwf hsv
  have h2 : Wr p sl b m r g2 := h.congr (hg p (by simp [endE, Eff.fp])) (fun q e => hg q (by subst e; simp [endE, Eff.fp]))
  have hpn : p < n := hs p (hwf p _ h2.hp).1
  refine s_run (by simp only [runL, awant_none, astep, evl, put, ap_none, List.length_nil, Nat.add_zero, undef] <;> rfl) ?_
  refine w_assoc (s_run (by simp only [runL, Option.getD_some, List.getElem?_cons_zero, awant_none, astep, evl, put, ap_none, List.length_nil, Nat.add_zero, upd_app, stepBin, abin, reduceCtorEq, ↓reduceIte, Try.underlying33, Option.isNone_some] <;> rfl) ?_)
  refine s_false (by simp [evl]) (s_skip ?_)
  refine s_take 4 (by simp only [runL, Option.getD_some, List.getElem?_cons_zero, List.take_succ_cons, List.take_zero, awant_none, astep, evl, put, ap_none, List.length_nil, Nat.add_zero, upd_app, reduceCtorEq, ↓reduceIte, nchk, fld84_0, h2.ld0] <;> rfl) ?_
  refine ops_call 76 _ rfl (clone_spec (wv sl b.length) b g2 n (by omega) h2.src) (by intro _; unfold cloneE; split <;> rfl) (ops_heap fun G1 hG1 => ops_num fun N1 hN1 => ?_)
  have hcl : ∃ i, OwnI 5 1 G1 (cloneE (wv sl b.length) b n).v b.length (bs b) i ∧ (∀ q, i = some q → n ≤ q ∧ q < N1) ∧ n ≤ N1 ∧ Kp n g2 G1 := by
    rw [hG1, hN1]
    cases sl with
    | none =>
      have := h2.h0 rfl
      subst this
      exact ⟨none, .inl ⟨rfl, rfl, rfl, rfl⟩, by simp, by simp [cloneE, wv, isNil], Kp.refl _ _⟩
    | some q =>
      refine ⟨some n, .inr ⟨n, rfl, by simp [cloneE, wv, isNil], by simp [cloneE, wv, isNil, ap_new], by simp⟩, fun q e => ?_, by omega, kp_ap (Kp.refl _ _) (by simp [cloneE, wv, isNil]) (fun _ => by simp [cloneE, wv, isNil])⟩
      cases e
      simp [cloneE, wv, isNil]
  obtain ⟨i0, hO, hi0, hnN, hkp⟩ := hcl
  clear hN1 hG1
  refine ops_run (by simp only [runL, awant_none, astep, evl, put, ap_none, List.length_nil, Nat.add_zero, upd_app, ↓reduceIte] <;> rfl) ?_
  refine w_gen (fun t => t 0 = ptr3 p ∧ t 3 = (cloneE (wv sl b.length) b n).v) (by simp [upd_app]) ?_
  generalize (cloneE (wv sl b.length) b n).v = v0 at hO ⊢
  rintro t ⟨t0, t3⟩
  refine w_assoc (s_run (by simp only [runL, awant_none, astep, evl, put, ap_none, List.length_nil, Nat.add_zero] <;> rfl) ?_)
  refine s_rngc 4 rfl (fun k t g n' => t 0 = ptr3 p ∧ n ≤ n' ∧ ∃ i, OwnI 5 1 g (t 3) (b.length + k) (bs (b ++ (tob 4 m).take k)) i ∧ (∀ q, i = some q → n ≤ q ∧ q < n') ∧ Kp n g2 g) (by omega) (by simp []) (fun v => ⟨by simp [upd_app, t0], hnN, i0, by simpa [upd_app, t3] using hO, hi0, hkp⟩) (by decide) ?_ ?_
  · clear t0 t3
    rintro k t g n' hk t12 ⟨t0, hn', i, hO, hi, hkp⟩
    have hWk : Wr p sl b m r g := h2.congr (hkp p hpn) (fun q e => hkp q (hs q (hwf q _ (h2.hq q e)).1))
    refine s_run (by simp only [runL, awant_none, astep, evl, put, ap_none, List.length_nil, Nat.add_zero, upd_app, ↓reduceIte, t12] <;> rfl) ?_
    have w1 : IntKind.i64.wrap ((k : Int) + 1) = ((k + 1 : Nat) : Int) := wrap_succ (by omega)
    have w2 : IntKind.i64.wrap (8 * ((k + 1 : Nat) : Int)) = ((8 * (k + 1) : Nat) : Int) := by rw [wrap64_of (by omega) (by omega)]; omega
    have w3 : IntKind.i64.wrap (32 - ((8 * (k + 1) : Nat) : Int)) = ((24 - 8 * k : Nat) : Int) := by rw [wrap64_of (by omega) (by omega)]; omega
    have w4 : (0 ≤ ((24 - 8 * k : Nat) : Int)) = True := eq_true (by omega)
    have w5 : ((m : Nat) : Int).fdiv (2 ^ (min ((24 - 8 * k : Nat) : Int).toNat IntKind.u64.bits)) = ((m / 2 ^ (24 - 8 * k) : Nat) : Int) := shr64 m (24 - 8 * k) (by omega)
    have w6 : IntKind.u8.wrap ((m / 2 ^ (24 - 8 * k) : Nat) : Int) = ((m / 2 ^ (24 - 8 * k) % 256 : Nat) : Int) := wrap_u8 _
    have hO1 : OwnI 5 1 (upd g n' (some ⟨false, 5, [.int .u8 ((m / 2 ^ (24 - 8 * k) % 256 : Nat) : Int)]⟩)) (t 3) (b.length + k) (bs (b ++ (tob 4 m).take k)) i := hO.keep fun q e => upd_ne _ _ (by have := hi q e; omega)
    obtain ⟨f, i', hf, hO2, hi', hkf⟩ := own_append (P := Try.prog) (n := n' + 1) hO1 (src_bs (m := 1) (l := [m / 2 ^ (24 - 8 * k) % 256]) (k := n') (ro := false) (e := 5) (by simp) rfl).cells (by simp) Try.underlying24 tinf5 (by omega) (by simp; omega) (by omega)
    rw [bs_app, List.length_singleton, List.append_assoc, ← tob4_at hk hm] at hO2
    refine w_gen (fun t' => t' 0 = ptr3 p ∧ t' 3 = t 3 ∧ t' 4 = .int .i64 k ∧ t' 12 = .int .i64 k) (by simp [upd_app, t0, t12]) ?_
    rintro t' ⟨t0', t3', t4', t12'⟩
    refine region_run (id := 7) (by simp only [runL, awant_none, astep, evl, put, ap_none, ap_new, List.length_nil, List.length_cons, Nat.add_zero, Nat.zero_add, upd_app, stepBin, abin, stepCall, reduceCtorEq, ↓reduceIte, Nat.reduceEqDiff, List.map_cons, List.map_nil, undef, t0', t3', t4', nchk, fld84_1, hWk.ld1, w1, w2, w3, w4, w5, conv41_5, w6, lit24_1, hf] <;> rfl) ?_
    simp only [rangePost]
    refine ⟨by simp [upd_app, t12'], fun _ _ _ => ⟨by simp [upd_app, t0'], by show n ≤ n' + 1 + f.a.length; omega, i', by rw [Nat.add_assoc] at hO2; simpa [upd_app] using hO2, fun q e => ?_, fun q hq => ?_⟩⟩
    · rcases hi' with ⟨e', e2⟩ | ⟨_, e', e2⟩
      · rw [e'] at e; have := hi q e; simp [e2]; omega
      · rw [e'] at e; cases e; simp [e2]; omega
    · show f.ap (upd g n' _) q = g2 q
      rw [hkf q (by omega) (fun e => by have := hi q e.symm; omega), upd_ne _ _ (by omega), hkp q hq]
  · clear t0 t3
    rintro t g n' ⟨t0, hn', i, hO, hi, hkp⟩
    have h4 : (tob 4 m).take 4 = tob 4 m := List.take_of_length_le (by rw [tob_len]; omega)
    rw [h4] at hO
    refine s_run (by simp only [runL, awant_none, astep, evl, put, ap_none, List.length_nil, Nat.add_zero, upd_app, ↓reduceIte] <;> rfl) ?_
    rcases hO with ⟨_, _, h0, _⟩ | ⟨k, rfl, hv, hk3, _⟩
    · omega
    · refine w_ret ⟨.inr rfl, by simp, [k], ?_⟩
      have hal : (bs (all4 b m)).length = (all4 b m).length := by simp
      have := fin_slice (s2 := s2) (g2 := g2) (g' := g) (n := n) (j := j) (r := p :: sl.toList) (k := k) (e := 5) (cs := bs (all4 b m)) (m := (all4 b m).length) (esz := 1) (v' := resVal [2] (upd (upd t 29 (t 3)) 2 (t 3))) (by
        simp only [resVal, upd_app, if_true]
        rw [hv, all4_len]; rfl) (hi k rfl).1 hk3 plain_ints (fun i b hb => hkp.at (hs i (hwf i b hb).1) hb)
      rw [hal] at this
      exact this

set_option maxRecDepth 10000 in
theorem cknown_spec (g : Heap) : FnSpec Try.prog 36 [] g { v := .bool true } := by
  refine spec_of_body [0] follows Try.func36 rfl (by kernel_rfl) (by simp [Try.f36]) (by kernel_rfl) rfl ?_
  intro g2 s2 n hg hfr hs hn hwf hsv
  refine s_run (by simp only [runL, awant_none, astep, evl, put, ap_none, List.length_nil, Nat.add_zero, undef] <;> rfl) ?_
  refine s_take 0 (by simp only [runL, List.take_zero] <;> rfl) ?_
  refine ops_call 31 _ rfl (newW_spec g2 n) (by intro _; rfl) (ops_heap fun G1 hG1 => ?_)
  have W1 : Wr n none [] 0 4294967295 G1 := by rw [hG1]; exact newWE_ap n g2
  have k1 : Kp n g2 G1 := by rw [hG1]; exact kp_ap (Kp.refl _ _) rfl (fun _ => Nat.le_refl _)
  refine ops_run (by simp only [runL, awant_none, astep, evl, put, ap_none, List.length_nil, Nat.add_zero, upd_app, ↓reduceIte, newWE_v] <;> rfl) ?_
  refine w_gen (fun t => t 1 = ptr3 n) (by simp []) ?_
  rintro t t1
  refine s_take 4 (by simp only [runL, awant_some, List.getElem?_toArray, List.getElem?_cons_succ, List.getElem?_cons_zero, Option.bind_some, b_tt, Bool.not_false, List.take_succ_cons, List.take_zero, awant_none, astep, evl, put, ap_none, List.length_nil, Nat.add_zero, upd_app, stepBin, abin, ↓reduceIte, Nat.reduceEqDiff, t1, Try.underlying33, Option.isNone_some] <;> rfl) ?_
  have hE := end_spec n none [] 0 4294967295 G1 (n + 1) W1 (by omega) (by simp)
  refine g_call 35 _ (by simp only [awant_some, List.getElem?_toArray, List.getElem?_cons_succ, List.getElem?_cons_zero, Option.bind_some, b_tt, upd_app, ↓reduceIte, Nat.reduceEqDiff] <;> rfl) rfl hE (by intro _; rfl) (ops_heap fun G2 hG2 => ?_)
  have b2 : G2 (n + 1) = some ⟨false, 5, bs [0, 0, 0, 0]⟩ := by rw [hG2]; simp [endE, Eff.ap, setAll, addAll, all4, tob]
  have k2 : Kp (n + 1) G1 G2 := by rw [hG2]; exact kp_ap (Kp.refl _ _) rfl (fun _ => Nat.le_refl _)
  obtain ⟨r1, x1, _⟩ := src_str (src_bs (m := 4) b2 rfl)
  have x1 : stepConv Try.prog 24 9 (endE n none (all4 [] 0) (n + 1)).v G2 = some { v := .string (nstr [0, 0, 0, 0]), r := r1 } := x1
  have hs1 : ((nstr [0, 0, 0, 0]).toList == (ByteArray.mk #[0, 0, 0, 0]).toList) = true := by decide +kernel
  have hP : FnSpec Try.prog 33 [ptr3 n, .int .i64 0, .int .i64 0, .int .i64 1] G2 { v := .bool false } := put_no n 0 0 1 3 G2 (by omega) (by omega) (by decide)
  refine ops_take 5 (by simp only [runL, awant_some, List.getElem?_toArray, List.getElem?_cons_succ, List.getElem?_cons_zero, Option.bind_some, b_tt, List.take_succ_cons, List.take_zero, awant_none, astep, evl, put, ap_none, List.length_nil, Nat.add_zero, upd_app, stepBin, abin, stepPick, ↓reduceIte, Nat.reduceEqDiff, t1, x1, hs1] <;> rfl) ?_
  refine g_call 33 _ (by simp only [awant_some, List.getElem?_toArray, List.getElem?_cons_succ, List.getElem?_cons_zero, Option.bind_some, b_tt, upd_app, ↓reduceIte, Nat.reduceEqDiff] <;> rfl) rfl hP (by simp) ?_
  refine ops_run (by simp only [runL, awant_some, List.getElem?_toArray, List.getElem?_cons_succ, List.getElem?_cons_zero, Option.bind_some, b_tt, Bool.not_false, awant_none, astep, evl, put, ap_none, List.length_nil, Nat.add_zero, upd_app, stepUn, stepPick, ↓reduceIte, Nat.reduceEqDiff] <;> rfl) ?_
  exact w_ret ⟨.inr rfl, by simp, [], fin_plain hs hwf (k1.trans k2 (by omega)) (by simp [resVal]) trivial⟩
end Go.Proofs.Ytahinegnblankaa
