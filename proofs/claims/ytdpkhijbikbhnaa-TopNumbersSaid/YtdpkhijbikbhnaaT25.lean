import Derived.Test.YtdpkhijbikbhnaaT24
namespace Go.Proofs.Ytdpkhijbikbhnaa
open Go Abs Plain
set_option linter.unusedSimpArgs false
set_option linter.unusedVariables false

/-- An answer of a new row, and no error. -/
def ieE (l : List Nat) (r : List Nat) (j : Nat) : Eff := { v := .tuple #[.slice (some ⟨j, 0, some l.length⟩) l.length 1, .int .i64 0], r := r, j := j, a := [⟨false, 3, ints l⟩] }
theorem ieE_fp (l : List Nat) (r : List Nat) (j : Nat) : (ieE l r j).fp = r := by simp [Eff.fp, ieE]
theorem ieE_fin {s2 : Nat → Prop} {g2 g' : Heap} {n k : Nat} {rs : List Tmp} {a b : Tmp} {l : List Nat} {r : List Nat} {j m : Nat} {t : Nat → Value} (hrs : rs = [a, b]) (h4 : t a = .slice (some ⟨k, 0, some m⟩) m 1) (hm : m = l.length) (h5 : t b = .int .i64 0) (hn : n ≤ k) (hg : g' k = some ⟨false, 3, ints l⟩) (hs : ∀ i, s2 i → i < n) (hwf : ∀ i b, g2 i = some b → s2 i ∧ ∀ c ∈ b.cells, SV1 s2 c) (hk : Kp n g2 g') :
    (Exit.ret = .normal ∨ Exit.ret = .ret) ∧ (rs.length ≠ 1 → ∀ r ∈ rs, isTup (t r) = false) ∧ ∃ ids, Abs.Fin (ieE l r j) ids s2 g2 n g' (resVal rs t) := by
  subst hrs hm
  refine ⟨.inr rfl, fun _ r hr => ?_, [k], ?_⟩
  · simp at hr
    rcases hr with rfl | rfl
    · rw [h4]; rfl
    · rw [h5]; rfl
  · refine fin_one (by simp [resVal, h4, h5, renT, renA, ren1]) (fun c hc => ?_) hn hg (plain_is _) (fun i b hb => hk.at (hs i (hwf i b hb).1) hb)
    simp at hc
    rcases hc with rfl | rfl
    · exact .inr (.inr rfl)
    · trivial

set_option maxRecDepth 20000 in
theorem saisI_spec (f : Nat) (v : Value) (s : List Nat) (k : Nat) (g : Heap) (j : Nat) (hl : s.length ≤ 100000) (hok : SaisOk f s k) (hv : Src g v 1 s.length (ints s)) :
    FnSpec Try.prog 5 [v, .int .i64 k] g (ieE (saisF f s k) (srcBlk v) j) := by
  have hkk : k ≤ 1048576 ∧ ∀ x ∈ s, x < k := by
    cases f with
    | zero => exact hok.elim
    | succ f => exact ⟨hok.1, hok.2.1⟩
  obtain ⟨hk, hsk⟩ := hkk
  refine spec_of_body [4, 5] follows Try.func5 rfl (by kernel_rfl) (by simp [Try.f5]) (by kernel_rfl) rfl ?_
  intro g2 s2 n hg hfr hs hn hwf hsv
  rw [ieE_fp] at hg
  have hv2 : Src g2 v 1 s.length (ints s) := hv.congr fun i hi => hg i hi
  have hvd := dom_of hs hwf hv2
  have hlen := hv2.len Try.underlying22
  clear hg hfr hn hv
  have d : decide ((s.length : Int) > 100000) = false := decide_eq_false (by omega)
  refine s_run (by simp only [runL, awant_none, astep, evl, put, ap_none, List.length_nil, Nat.add_zero, undef] <;> rfl) ?_
  refine w_assoc (s_run (by simp only [runL, Option.getD_some, List.getElem?_cons_zero, awant_none, astep, evl, put, ap_none, List.length_nil, Nat.add_zero, upd_app, stepBin, abin, stepCall, reduceCtorEq, ↓reduceIte, hlen, d] <;> rfl) ?_)
  refine s_false (by simp [evl]) (s_skip ?_)
  refine w_assoc (s_take 2 (by simp only [runL, Option.getD_some, List.getElem?_cons_succ, List.getElem?_cons_zero, List.take_succ_cons, List.take_zero, awant_none, astep, evl, put, ap_none, List.length_nil, Nat.add_zero, upd_app, reduceCtorEq, ↓reduceIte, Nat.reduceEqDiff] <;> rfl) ?_)
  refine ops_call 17 _ rfl (counts_spec v s k g2 n (by omega) hk hsk hv2) (fun _ => rfl) ?_
  refine ops_heap fun G1 hG1 => ?_
  have k1 : Kp n g2 G1 := by rw [hG1]; simp only [okE, ap_new]; exact kp_upd (Kp.refl _ _) (Nat.le_refl _)
  clear hG1
  refine ops_run (by simp only [runL, List.getElem?_toArray, List.getElem?_cons_succ, List.getElem?_cons_zero, awant_none, astep, evl, put, ap_none, List.length_nil, List.length_cons, Nat.add_zero, Nat.zero_add, upd_app, stepExtract, ↓reduceIte, Nat.reduceEqDiff, okE] <;> rfl) ?_
  refine w_assoc (s_run (by simp only [runL, Bool.not_true, awant_none, astep, evl, put, ap_none, List.length_nil, Nat.add_zero, upd_app, stepUn, ↓reduceIte] <;> rfl) ?_)
  refine s_false (by simp [evl]) (s_skip ?_)
  refine w_gen (fun t => t 0 = v ∧ t 1 = .int .i64 k) (by simp [upd_app]) ?_
  rintro t ⟨t0, t1⟩
  refine w_num fun N hN => ?_
  replace hN : N = n + 1 := hN
  show awp _ _ _ _ G1 N
  have hsp := sais_spec f v s k G1 N (by omega) hok (k1.src hv2 hvd)
  refine s_take 2 (by simp only [runL, List.take_succ_cons, List.take_zero, awant_none, astep, evl, put, ap_none, List.length_nil, Nat.add_zero, upd_app, ↓reduceIte, Nat.reduceEqDiff, t0, t1] <;> rfl) ?_
  refine ops_call 18 _ rfl (by simp only [upd_app, evl, List.map_cons, List.map_nil]; exact hsp) (fun _ => rfl) ?_
  refine ops_heap fun G2 hG2 => ?_
  have b2 : G2 N = some ⟨false, 3, ints (saisF f s k)⟩ := by rw [hG2]; simp [ap_new]
  have k2 : Kp n g2 G2 := by rw [hG2]; simp only [ap_new]; exact kp_upd k1 (by omega)
  refine ops_run (by simp only [runL, awant_none, astep, evl, put, ap_none, List.length_nil, List.length_cons, Nat.add_zero, Nat.zero_add, upd_app, ↓reduceIte] <;> rfl) ?_
  exact w_ret (ieE_fin (k := N) rfl (by simp [upd_app]) rfl (by simp []) (by omega) b2 hs hwf k2)

set_option maxRecDepth 20000 in
theorem saisB_spec (f : Nat) (v : Value) (s : List Nat) (g : Heap) (j : Nat) (hl : s.length ≤ 100000) (hb : ∀ x ∈ s, x < 256) (hok : SaisOk f s 256) (hv : Src g v 1 s.length (bs s)) :
    FnSpec Try.prog 11 [v] g (ieE (saisF f s 256) (srcBlk v) j) := by
  refine spec_of_body [2, 3] follows Try.func11 rfl (by kernel_rfl) (by simp [Try.f11]) (by kernel_rfl) rfl ?_
  intro g2 s2 n hg hfr hs hn hwf hsv
  rw [ieE_fp] at hg
  have hv2 : Src g2 v 1 s.length (bs s) := hv.congr fun i hi => hg i hi
  have hvd := dom_of hs hwf hv2
  have hlen := hv2.len Try.underlying30
  clear hg hfr hn hv
  have d : decide ((s.length : Int) ≤ 100000) = true := decide_eq_true (by omega)
  refine s_run (by simp only [runL, awant_none, astep, evl, put, ap_none, List.length_nil, Nat.add_zero, undef] <;> rfl) ?_
  refine s_run (by simp only [runL, awant_none, astep, evl, put, ap_none, List.length_nil, Nat.add_zero] <;> rfl) ?_
  refine w_assoc (s_run (by simp only [runL, Option.getD_some, List.getElem?_cons_zero, awant_none, astep, evl, put, ap_none, List.length_nil, Nat.add_zero, upd_app, stepBin, abin, stepCall, reduceCtorEq, ↓reduceIte, hlen, d] <;> rfl) ?_)
  refine s_true (by simp [evl]) ?_
  refine w_assoc (w_assoc (s_run (by simp only [runL, Option.getD_some, List.getElem?_cons_zero, awant_none, astep, evl, put, ap_none, List.length_nil, Nat.add_zero, upd_app, stepCall, reduceCtorEq, ↓reduceIte, hlen] <;> rfl) ?_))
  refine s_rng s.length (fun i t g n' => t 10 = v ∧ Own 3 g (t 4) (ints (s.take i)) n n' ∧ Kp n g2 g ∧ n ≤ n') (by omega) (by simp []) (by simp [upd_app])
    (fun _ => ⟨by simp [upd_app], by simp [upd_app]; exact Own.nil _ _ _ _, Kp.refl _ _, Nat.le_refl _⟩) (by decide) ?_ ?_
  · rintro i t g n' hi t12 t11 ⟨t10, hO, hkp, hnn⟩
    obtain ⟨p, i1, l1, _⟩ := srcB (hkp.src hv2 hvd) hi
    have hbk := byt_lt hb i
    have w1 : IntKind.i64.wrap ((byt s i : Nat) : Int) = ((byt s i : Nat) : Int) := wrap_nat (by omega)
    obtain ⟨f, hf, hO', hk'⟩ := hO.push (P := Try.prog) (T := 22) (c := .int .i64 (byt s i : Nat)) Try.underlying22 tinf3 (by simp; omega) (by omega) hnn
    refine s_run (by simp only [runL, awant_none, astep, evl, put, ap_none, List.length_nil, Nat.add_zero, upd_app, ↓reduceIte, t10, t12, i1, l1] <;> rfl) ?_
    refine region_run (id := 6) (by simp only [runL, awant_none, astep, evl, put, ap_none, ap_new, List.length_nil, List.length_cons, Nat.add_zero, Nat.zero_add, upd_app, stepCall, ↓reduceIte, Nat.reduceEqDiff, List.map_cons, List.map_nil, undef, conv5_3, w1, litI_1, hf] <;> rfl) ?_
    simp only [rngPost]
    refine ⟨by simp [upd_app, t12], by simp [upd_app, t11], fun _ _ _ => ⟨by simp [upd_app, t10], ?_, fun q hq => by rw [hk' q (by omega)]; exact hkp q hq, by omega⟩⟩
    rw [take_byt hi, ← ints_app]
    simpa [upd_app] using hO'
  · rintro t g N ⟨t10, hO, hkp, hnn⟩
    rw [List.take_length] at hO
    have hsO : Src g (t 4) 1 s.length (ints s) := by simpa using hO.src
    have hsp := saisI_spec f (t 4) s 256 g N hl hok hsO
    refine w_assoc (s_take 1 (by simp only [runL, List.take_succ_cons, List.take_zero, awant_none, astep, evl, put, ap_none, List.length_nil, Nat.add_zero] <;> rfl) ?_)
    refine ops_call 5 _ rfl (by simp only [upd_app, evl, List.map_cons, List.map_nil]; exact hsp) (fun _ => rfl) ?_
    refine ops_heap fun G2 hG2 => ?_
    have b2 : G2 N = some ⟨false, 3, ints (saisF f s 256)⟩ := by rw [hG2]; simp only [ieE, ap_new]; simp []
    have k2 : Kp n g2 G2 := by rw [hG2]; simp only [ieE, ap_new]; exact kp_upd hkp hnn
    refine ops_run (by simp only [runL, List.getElem?_toArray, List.getElem?_cons_succ, List.getElem?_cons_zero, awant_none, astep, evl, put, ap_none, List.length_nil, List.length_cons, Nat.add_zero, Nat.zero_add, upd_app, stepExtract, ↓reduceIte, Nat.reduceEqDiff, ieE] <;> rfl) ?_
    refine s_ret ?_
    show _ ∧ _
    exact ieE_fin (k := N) rfl (by simp [upd_app]) rfl (by simp []) hnn b2 hs hwf k2
end Go.Proofs.Ytdpkhijbikbhnaa
