import Derived.Test.YtahinegnblankaaP42
namespace Go.Proofs.Ytahinegnblankaa
open Go Abs
set_option linter.unusedSimpArgs false
set_option linter.unusedVariables false

set_option maxRecDepth 10000 in
theorem rtake_tail {p part sz u c1 r R u0 c0 r0 : Nat} {v : Value} {F : List Nat} {s2 : Nat → Prop} {g2 g : Heap} {n n' : Nat} {t : Nat → Value} (hR : part * sz = R) (hR1 : 256 ≤ R) (hR2 : R < 2 ^ 32) (hsz : sz < 2 ^ 32) (hc1 : c1 < R) (hF : ∀ x ∈ F, x < 256) (hu : u ≤ F.length) (hl : F.length ≤ 2 ^ 38)
    (h2 : Rd 70 p v F u0 c0 r0 g2) (hW : Rd 70 p v F u c1 r g) (t0 : t 0 = ptr4 p) (t2 : t 2 = .int .i64 (sz : Nat)) (t9 : t 9 = .int .u64 (part : Nat)) (hwf : ∀ i b, g2 i = some b → s2 i ∧ ∀ c ∈ b.cells, SV1 s2 c) (hold : ∀ i, i ≠ p → g i = g2 i) :
    awp Try.prog (Try.f57.body.getD .skip |> cr |> cr |> cr |> cr |> cr) (fun e t' g' _ => (e = .normal ∨ e = .ret) ∧ (([8] : List Tmp).length ≠ 1 → ∀ r ∈ ([8] : List Tmp), isTup (t' r) = false) ∧ ∃ ids, Abs.Fin (rdE 70 p v (decide (sh R ≤ F.length - u)) (u + min (sh R) (F.length - u)) (more F c1 u (min (sh R) (F.length - u))) (R * 256 ^ min (sh R) (F.length - u))) ids s2 g2 n g' (resVal [8] t')) t g n' := by
  show awp Try.prog (.seq _ (.seq _ _)) _ t g n'
  have ws : IntKind.u64.wrap ((sz : Nat) : Int) = (sz : Nat) := wrapU (by omega)
  have wm : IntKind.u64.wrap (((part : Nat) : Int) * ((sz : Nat) : Int)) = ((R : Nat) : Int) := by rw [← hR, show ((part : Nat) : Int) * ((sz : Nat) : Int) = ((part * sz : Nat) : Int) by simp, wrapU (by omega)]
  refine s_run (by simp only [runL, awant_none, astep, evl, put, ap_none, ap_wr, List.length_nil, Nat.add_zero, upd_app, stepBin, abin, ↓reduceIte, Nat.reduceEqDiff, undef, t0, t2, t9, nchk, fld70_3, conv3_41, ws, wm, hW.st3] <;> rfl) (w_heap fun G1 hG1 => ?_)
  have W1 : Rd 70 p v F u c1 R G1 := hW.upd (by rw [hG1]; simp []) (fun i h => by rw [hG1]; simp [upd_app, h])
  have o1 : ∀ i, i ≠ p → G1 i = g2 i := fun i h => by rw [hG1, upd_ne _ _ h]; exact hold i h
  have hsh := sh_le R
  refine s_block (fun t g' _ => sh R ≤ F.length - u ∧ Rd 70 p v F (u + sh R) (more F c1 u (sh R)) (R * 256 ^ sh R) g' ∧ ∀ i, i ≠ p → g' i = g2 i) ?_ ?_
  · refine w_loop (fun t g' n'' => ∃ k, k ≤ sh R ∧ k ≤ F.length - u ∧ t 0 = ptr4 p ∧ Rd 70 p v F (u + k) (more F c1 u k) (R * 256 ^ k) g' ∧ ∀ i, i ≠ p → g' i = g2 i)
      (fun _ g' _ => rdleft p g') ⟨0, by omega, by omega, by simp [upd_app, t0], by simpa [more_zero] using W1, o1⟩ ?_
    clear t0 t2 t9
    rintro t g' n'' ⟨k, hk, hk2, t0, hWk, hf⟩
    have hrk := sh_mul hR1 hR2 hk
    by_cases hlt : k < sh R
    · have hsm2 : R * 256 ^ k < 16777216 := (sh_lt hR1).2 hlt
      have d1 : decide (((R * 256 ^ k : Nat) : Int) < 16777216) = true := decide_eq_true (by omega)
      have hml := more_lt (u := u) (k := k) hF hc1
      refine w_assoc (s_run (by simp only [runL, awant_none, astep, evl, put, ap_none, List.length_nil, Nat.add_zero, upd_app, stepBin, abin, ↓reduceIte, t0, nchk, fld70_3, hWk.ld3, d1] <;> rfl) ?_)
      refine s_true (by simp [evl]) (s_skip (w_block ?_))
      have hlen := hWk.hs.len Try.underlying24
      refine w_gen (fun t => t 0 = ptr4 p) (by simp [upd_app, t0]) ?_
      clear t0
      rintro t t0
      by_cases hfit : u + k < F.length
      · have d2 : decide (((u + k : Nat) : Int) ≥ (F.length : Int)) = false := decide_eq_false (by omega)
        refine w_assoc (s_draw #[0, 1, 3, 7, 0, 16, 48, 112, 240, 511] (by decide +kernel) (by simp only [runR, awant_none, astep, evl, put, upd_app, stepBin, abin, stepCall, reduceCtorEq, ↓reduceIte, Nat.reduceEqDiff, List.isEmpty_nil, Bool.and_self, t0, nchk, fld70_0, fld70_1, hWk.ld0, hWk.ld1, hlen, d2] <;> rfl) ?_)
        refine s_false (by simp [evl]) (s_skip ?_)
        refine w_gen (fun t => t 0 = ptr4 p) (by simp [upd_app, t0]) ?_
        clear t0
        rintro t t0
        have hmk := more_succ (c := c1) hfit
        obtain ⟨x, hx⟩ : ∃ x, byt F (u + k) = x := ⟨_, rfl⟩
        have hbx : x < 256 := by rw [← hx]; exact byt_lt hF _
        obtain ⟨pa, i1, i2, _⟩ := hWk.hs.at1 (P := Try.prog) (i := u + k) (c := .int .u8 (byt F (u + k))) (bs_at hfit) Try.underlying24 tsize5 aggT5
        rw [hx] at hmk i2
        obtain ⟨m1, hm1⟩ : ∃ m, more F c1 u (k + 1) = m := ⟨_, rfl⟩
        obtain ⟨m0, hm0⟩ : ∃ m, more F c1 u k = m := ⟨_, rfl⟩
        rw [hm1, hm0] at hmk
        rw [hm0] at hWk hml
        have w1 : IntKind.u64.wrap ((m0 : Int) * 2 ^ (min 8 IntKind.u64.bits)) = ((m0 * 256 : Nat) : Int) := shl64_8 m0 (by omega)
        have w2 : IntKind.u64.wrap ((x : Nat) : Int) = (x : Nat) := wrapU (by omega)
        have w3 := or8 m0 x (by omega) hbx
        rw [← hmk] at w3
        refine s_drawn #[0, 0, 2, 6, 14, 30, 0, 64, 192, 448, 0, 1024, 3072, 7168, 16320, 32704, 65472, 131070, 262143, 524287, 1048575] (by decide +kernel) ?_
        refine d_readsB 20 (by simp) (by simp only [runR, List.take_succ_cons, List.take_zero, awant_none, astep, evl, put, upd_app, stepBin, abin, reduceCtorEq, ↓reduceIte, Nat.reduceEqDiff, Int.reduceLE, Int.reduceToNat, List.isEmpty_nil, Bool.and_self, t0, nchk, fld70_0, fld70_1, fld70_2, hWk.ld0, hWk.ld1, hWk.ld2, w1, i1, i2, conv5_41, w2, w3] <;> rfl) fun a1 ha1 => ?_
        refine d_last _ (by simp only [astep, evl, upd_app, ↓reduceIte, Nat.reduceEqDiff, undef, hWk.st2] <;> rfl) rfl ha1 rfl (w_heap fun G2 hG2 => ?_)
        have R1 : Rd 70 p v F (u + k) m1 (R * 256 ^ k) G2 := hWk.upd (by rw [hG2]; simp [ap_wr]) (fun i hi => by rw [hG2]; simp [ap_wr, upd_app, hi])
        have o2 : ∀ i, i ≠ p → G2 i = g' i := fun i hi => by rw [hG2]; simp [ap_wr, upd_app, hi]
        refine w_gen (fun t => t 0 = ptr4 p) (by simp [upd_app, put, t0]) ?_
        clear t0
        rintro t t0
        have w4 : IntKind.i64.wrap (((u + k : Nat) : Int) + 1) = ((u + (k + 1) : Nat) : Int) := by rw [wrap_succ (by omega)]; rfl
        refine s_run (by simp only [runL, awant_none, astep, evl, put, ap_none, ap_wr, List.length_nil, Nat.add_zero, upd_app, stepBin, abin, ↓reduceIte, Nat.reduceEqDiff, undef, t0, nchk, fld70_1, R1.ld1, w4, R1.st1] <;> rfl) (w_heap fun G3 hG3 => ?_)
        have R2 : Rd 70 p v F (u + (k + 1)) m1 (R * 256 ^ k) G3 := R1.upd (by rw [hG3]; simp []) (fun i hi => by rw [hG3]; simp [upd_app, hi])
        have o3 : ∀ i, i ≠ p → G3 i = g' i := fun i hi => by rw [hG3, upd_ne _ _ hi]; exact o2 i hi
        have ws8 : IntKind.u64.wrap (((R * 256 ^ k : Nat) : Int) * 2 ^ (min 8 IntKind.u64.bits)) = ((R * 256 ^ (k + 1) : Nat) : Int) := by
          rw [shl64_8 _ (by omega), Nat.pow_succ, Nat.mul_assoc]
        refine w_gen (fun t => t 0 = ptr4 p) (by simp [upd_app, t0]) ?_
        clear t0
        rintro t t0
        refine region_run (id := 13) (by simp only [runL, awant_none, astep, evl, put, ap_none, ap_wr, List.length_nil, Nat.add_zero, upd_app, stepBin, abin, reduceCtorEq, ↓reduceIte, Nat.reduceEqDiff, Int.reduceLE, Int.reduceToNat, undef, t0, nchk, fld70_3, R2.ld3, ws8, R2.st3] <;> rfl) ?_
        have W4 : Rd 70 p v F (u + (k + 1)) m1 (R * 256 ^ (k + 1)) (upd G3 p (some ⟨false, 70, [v, .int .i64 (u + (k + 1) : Nat), .int .u64 (m1 : Nat), .int .u64 (R * 256 ^ (k + 1) : Nat)]⟩)) := R2.upd (by simp) (fun i h => by simp [upd_app, h])
        refine ⟨⟨k + 1, hlt, by omega, by simp [upd_app, t0], by rw [hm1]; exact W4, fun i h1 => ?_⟩, ?_⟩
        · show upd G3 p _ i = g2 i
          rw [upd_ne _ _ h1, o3 i h1, hf i h1]
        · rw [rdleft_rd hWk]
          have e4 := rdleft_rd W4
          have hk1 := sh_mul hR1 hR2 (show k + 1 ≤ sh R by omega)
          have : R * 256 ^ (k + 1) = R * 256 ^ k * 256 := by rw [Nat.pow_succ, Nat.mul_assoc]
          have : 0 < R * 256 ^ k := Nat.mul_pos (by omega) (Nat.pow_pos (by omega))
          show rdleft p (upd G3 p _) < _
          rw [e4]
          omega
      · have d2 : decide (((u + k : Nat) : Int) ≥ (F.length : Int)) = true := decide_eq_true (by omega)
        refine w_assoc (s_draw #[0, 1, 3, 7, 0, 16, 48, 112, 240, 511] (by decide +kernel) (by simp only [runR, awant_none, astep, evl, put, upd_app, stepBin, abin, stepCall, reduceCtorEq, ↓reduceIte, Nat.reduceEqDiff, List.isEmpty_nil, Bool.and_self, t0, nchk, fld70_0, fld70_1, hWk.ld0, hWk.ld1, hlen, d2] <;> rfl) ?_)
        refine s_true (by simp [evl]) (w_assoc (s_run (by simp only [runL, awant_none, astep, evl, put, ap_none, List.length_nil, Nat.add_zero] <;> rfl) ?_))
        have hmin : min (sh R) (F.length - u) = k := by omega
        refine s_ret ⟨.inr rfl, by simp, [], ?_⟩
        rw [hmin, decide_eq_false (show ¬ sh R ≤ F.length - u by omega)]
        exact rd_fin h2 hWk hwf (by simp [resVal]) hf
    · have hke : k = sh R := by omega
      have d1 : decide (((R * 256 ^ k : Nat) : Int) < 16777216) = false := decide_eq_false (fun h => hlt ((sh_lt hR1).1 (by omega)))
      refine w_assoc (s_run (by simp only [runL, awant_none, astep, evl, put, ap_none, List.length_nil, Nat.add_zero, upd_app, stepBin, abin, ↓reduceIte, t0, nchk, fld70_3, hWk.ld3, d1] <;> rfl) ?_)
      refine s_false (by simp [evl]) (s_exit ?_)
      subst hke
      exact ⟨hk2, hWk, hf⟩
  · rintro t g' n'' ⟨hk2, hWk, hf⟩
    refine s_run (by simp only [runL, awant_none, astep, evl, put, ap_none, List.length_nil, Nat.add_zero] <;> rfl) ?_
    refine w_ret ⟨.inr rfl, by simp, [], ?_⟩
    rw [Nat.min_eq_left hk2, decide_eq_true hk2]
    exact rd_fin h2 hWk hwf (by simp [resVal]) hf

set_option maxRecDepth 10000 in
theorem rtake_yes (p : Nat) (v : Value) (F : List Nat) (u c r lo sz tot : Nat) (g : Heap) (h : Rd 70 p v F u c r g) (hF : ∀ x ∈ F, x < 256) (ok : PutOk r lo sz tot) (hu : u ≤ F.length) (hl : F.length ≤ 2 ^ 38) (hc : c < 2 ^ 40) :
    FnSpec Try.prog 57 [ptr4 p, .int .i64 lo, .int .i64 sz, .int .i64 tot] g (rdE 70 p v (tkB F.length u c r lo sz tot) (tkU F.length u c r lo sz tot) (tkC F u c r lo sz tot) (tkR F.length u c r lo sz tot)) := by
  refine spec_of_body [8] follows Try.func57 rfl (by kernel_rfl) (by simp [Try.f57]) (by kernel_rfl) rfl ?_
  intro g2 s2 n hg hfr hs hn hwf hsv
  have h2 : Rd 70 p v F u c r g2 := h.congr (hg p (by simp [rdE, Eff.fp])) (fun i hi => hg i (by simp [rdE, Eff.fp, hi]))
  clear hfr hg hn
  have hsm := ok.sum
  have ht1 := ok.t1
  have hs1 := ok.s1
  have hr2 := ok.r2
  have hsp := spn_nat ok.sum ok.s1 ok.t1
  refine s_run (by simp only [runL, awant_none, astep, evl, put, ap_none, List.length_nil, Nat.add_zero, undef] <;> rfl) ?_
  refine w_assoc (s_take 3 (by simp only [runL, Option.getD_some, List.getElem?_cons_succ, List.getElem?_cons_zero, List.take_succ_cons, List.take_zero, awant_none, astep, evl, put, ap_none, List.length_nil, Nat.add_zero, upd_app, ↓reduceIte, Nat.reduceEqDiff] <;> rfl) ?_)
  refine ops_call 74 _ rfl (may_spec (lo : Int) (sz : Int) (tot : Int) (by omega) (by omega) g2) (by simp) ?_
  refine ops_run (by simp only [runL, Bool.not_true, awant_none, astep, evl, put, ap_none, List.length_nil, Nat.add_zero, upd_app, stepUn, ↓reduceIte, spn_t ok] <;> rfl) ?_
  refine s_false (by simp [evl]) (s_skip ?_)
  refine w_gen (fun t => t 0 = ptr4 p ∧ t 1 = .int .i64 (lo : Nat) ∧ t 2 = .int .i64 (sz : Nat) ∧ t 3 = .int .i64 (tot : Nat)) (by simp [upd_app]) ?_
  rintro t ⟨t0, t1, t2, t3⟩
  have z0 : (((tot : Nat) : Int) = 0) = False := eq_false (by omega)
  have wt : IntKind.u64.wrap ((tot : Nat) : Int) = (tot : Nat) := wrapU (by omega)
  have hple := ok.part.2
  have hle := ok.le
  have hR1 := ok.size
  have wq : IntKind.u64.wrap (((r : Nat) : Int).tdiv ((tot : Nat) : Int)) = ((r / tot : Nat) : Int) := by
    rw [show ((r : Nat) : Int).tdiv ((tot : Nat) : Int) = ((r / tot : Nat) : Int) from rfl, wrapU (by omega)]
  refine s_run (by simp only [runL, awant_none, astep, evl, put, ap_none, List.length_nil, Nat.add_zero, upd_app, stepBin, abin, ↓reduceIte, Nat.reduceEqDiff, ne_eq, not_false_eq_true, and_self, t0, t3, nchk, fld70_3, h2.ld3, conv3_41, wt, z0, wq] <;> rfl) ?_
  clear wq wt z0
  have htk : (tkO c r lo sz tot = false ∧ decide (r / tot * lo ≤ c ∧ c < r / tot * (lo + sz)) = false) ∨ (tkO c r lo sz tot = true ∧ decide (r / tot * lo ≤ c ∧ c < r / tot * (lo + sz)) = true) := by
    cases e : tkO c r lo sz tot with
    | false => exact .inl ⟨rfl, tkO_nat hsp e⟩
    | true => exact .inr ⟨rfl, tkO_nat hsp e⟩
  have hno := fun e => tk_no (F := F) (u := u) (c := c) (r := r) (x := lo) (y := sz) (z := tot) e
  have hyes := fun e => tk_yes (F := F) (u := u) (c := c) (r := r) (lo := lo) (sz := sz) (tot := tot) e
  generalize tkB F.length u c r lo sz tot = vB at *
  generalize tkU F.length u c r lo sz tot = vU at *
  generalize tkC F u c r lo sz tot = vC at *
  generalize tkR F.length u c r lo sz tot = vR at *
  generalize tkO c r lo sz tot = vO at *
  obtain ⟨part, hpart⟩ : ∃ part, r / tot = part := ⟨_, rfl⟩
  rw [hpart] at hple hle hR1 htk hyes ⊢
  have hlt : part * lo < 2 ^ 32 := by omega
  have hls : part * (lo + sz) < 2 ^ 32 := by rw [Nat.mul_add]; omega
  have wl : IntKind.u64.wrap ((lo : Nat) : Int) = (lo : Nat) := wrapU (by omega)
  have wm : IntKind.u64.wrap (((part : Nat) : Int) * ((lo : Nat) : Int)) = ((part * lo : Nat) : Int) := by rw [show ((part : Nat) : Int) * ((lo : Nat) : Int) = ((part * lo : Nat) : Int) by simp, wrapU (by omega)]
  have wa : IntKind.i64.wrap (((lo : Nat) : Int) + ((sz : Nat) : Int)) = ((lo + sz : Nat) : Int) := by rw [show ((lo : Nat) : Int) + ((sz : Nat) : Int) = ((lo + sz : Nat) : Int) by simp, wrap_nat (by omega)]
  have wl2 : IntKind.u64.wrap ((lo + sz : Nat) : Int) = ((lo + sz : Nat) : Int) := wrapU (by omega)
  have wm2 : IntKind.u64.wrap (((part : Nat) : Int) * ((lo + sz : Nat) : Int)) = ((part * (lo + sz) : Nat) : Int) := by rw [show ((part : Nat) : Int) * ((lo + sz : Nat) : Int) = ((part * (lo + sz) : Nat) : Int) by simp, wrapU (by omega)]
  refine w_gen (fun t => t 0 = ptr4 p ∧ t 1 = .int .i64 (lo : Nat) ∧ t 2 = .int .i64 (sz : Nat) ∧ t 9 = .int .u64 (part : Nat)) (by simp [upd_app, t0, t1, t2]) ?_
  clear t0 t1 t2 t3
  rintro t ⟨t0, t1, t2, t9⟩
  have hfalse : vO = false → Abs.Fin (rdE 70 p v vB vU vC vR) [] s2 g2 n g2 (.bool false) := fun e => by
    obtain ⟨rfl, rfl, rfl, rfl⟩ := hno e
    exact rd_fin h2 h2 hwf rfl (fun _ _ => rfl)
  by_cases a1 : part * lo ≤ c
  · have d1 : decide ((c : Int) < ((part * lo : Nat) : Int)) = false := decide_eq_false (by omega)
    by_cases a2 : c < part * (lo + sz)
    · have d2 : decide ((c : Int) ≥ ((part * (lo + sz) : Nat) : Int)) = false := decide_eq_false (by omega)
      refine w_assoc (s_run (by simp only [runL, awant_some, List.getElem?_toArray, List.getElem?_cons_succ, List.getElem?_cons_zero, Option.bind_some, b_ff, awant_none, astep, evl, put, ap_none, List.length_nil, Nat.add_zero, upd_app, stepBin, abin, stepPick, reduceCtorEq, ↓reduceIte, Nat.reduceEqDiff, Bool.false_eq_true, t0, t1, t2, t9, nchk, fld70_2, h2.ld2, conv3_41, wl, wm, d1, wa, wl2, wm2, d2] <;> rfl) ?_)
      refine s_false (by simp [evl]) (s_skip ?_)
      rcases htk with ⟨_, e⟩ | ⟨e, _⟩
      · exact absurd ⟨a1, a2⟩ (of_decide_eq_false e)
      obtain ⟨rfl, rfl, rfl, rfl⟩ := hyes e
      rw [Nat.mul_add] at a2
      have ws : IntKind.u64.wrap (((c : Nat) : Int) - ((part * lo : Nat) : Int)) = ((c - part * lo : Nat) : Int) := by rw [show ((c : Nat) : Int) - ((part * lo : Nat) : Int) = ((c - part * lo : Nat) : Int) by omega, wrapU (by omega)]
      have hc1 : c - part * lo < part * sz := by omega
      have hc2 : c - part * lo ≤ c := by omega
      generalize c - part * lo = c1 at *
      generalize hR : part * sz = R at *
      refine w_gen (fun t => t 0 = ptr4 p ∧ t 1 = .int .i64 (lo : Nat) ∧ t 2 = .int .i64 (sz : Nat) ∧ t 9 = .int .u64 (part : Nat)) (by simp [upd_app, t0, t1, t2, t9]) ?_
      clear t0 t1 t2 t9
      rintro t ⟨t0, t1, t2, t9⟩
      refine s_run (by simp only [runL, awant_none, astep, evl, put, ap_none, ap_wr, List.length_nil, Nat.add_zero, upd_app, stepBin, abin, reduceCtorEq, ↓reduceIte, Nat.reduceEqDiff, undef, t0, t1, t9, nchk, fld70_2, h2.ld2, conv3_41, wl, wm, ws, h2.st2] <;> rfl) (w_heap fun G1 hG1 => ?_)
      have W1 : Rd 70 p v F u c1 r G1 := h2.upd (by rw [hG1]; simp []) (fun i h => by rw [hG1]; simp [upd_app, h])
      exact rtake_tail hR hR1 (by omega) (by omega) hc1 hF hu hl h2 W1 (by simp [upd_app, t0]) (by simp [upd_app, t2]) (by simp [upd_app, t9]) hwf (fun i h => by rw [hG1]; simp [upd_app, h])
    · have d2 : decide ((c : Int) ≥ ((part * (lo + sz) : Nat) : Int)) = true := decide_eq_true (by omega)
      refine w_assoc (s_run (by simp only [runL, awant_some, List.getElem?_toArray, List.getElem?_cons_succ, List.getElem?_cons_zero, Option.bind_some, b_ff, awant_none, astep, evl, put, ap_none, List.length_nil, Nat.add_zero, upd_app, stepBin, abin, stepPick, reduceCtorEq, ↓reduceIte, Nat.reduceEqDiff, Bool.false_eq_true, t0, t1, t2, t9, nchk, fld70_2, h2.ld2, conv3_41, wl, wm, d1, wa, wl2, wm2, d2] <;> rfl) ?_)
      refine s_true (by simp [evl]) (w_assoc (s_run (by simp only [runL, awant_none, astep, evl, put, ap_none, List.length_nil, Nat.add_zero] <;> rfl) ?_))
      rcases htk with ⟨e, _⟩ | ⟨_, e⟩
      · exact s_ret ⟨.inr rfl, by simp, [], by simpa [resVal, upd_app] using hfalse e⟩
      · exact absurd (of_decide_eq_true e).2 a2
  · have d1 : decide ((c : Int) < ((part * lo : Nat) : Int)) = true := decide_eq_true (by omega)
    refine w_assoc (s_run (by simp only [runL, awant_some, List.getElem?_toArray, List.getElem?_cons_succ, List.getElem?_cons_zero, Option.bind_some, b_tf, awant_none, astep, evl, put, ap_none, List.length_nil, Nat.add_zero, upd_app, stepBin, abin, stepPick, ↓reduceIte, Nat.reduceEqDiff, undef, t0, t1, t9, nchk, fld70_2, h2.ld2, conv3_41, wl, wm, d1] <;> rfl) ?_)
    refine s_true (by simp [evl]) (w_assoc (s_run (by simp only [runL, awant_none, astep, evl, put, ap_none, List.length_nil, Nat.add_zero] <;> rfl) ?_))
    rcases htk with ⟨e, _⟩ | ⟨_, e⟩
    · exact s_ret ⟨.inr rfl, by simp, [], by simpa [resVal, upd_app] using hfalse e⟩
    · exact absurd (of_decide_eq_true e).1 a1

set_option maxRecDepth 10000 in
theorem rtake_no (a : Value) (x y z : Int) (g : Heap) (hx : -2 ^ 63 ≤ x ∧ x ≤ 2 ^ 63 - 1) (hz : -2 ^ 63 ≤ z ∧ z ≤ 2 ^ 63 - 1) (h : spn x y z = false) : FnSpec Try.prog 57 [a, .int .i64 x, .int .i64 y, .int .i64 z] g { v := .bool false } := by
  refine spec_of_body [8] follows Try.func57 rfl (by kernel_rfl) (by simp [Try.f57]) (by kernel_rfl) rfl ?_
  intro g2 s2 n hg hfr hs hn hwf hsv
  refine s_run (by simp only [runL, awant_none, astep, evl, put, ap_none, List.length_nil, Nat.add_zero, undef] <;> rfl) ?_
  refine w_assoc (s_take 3 (by simp only [runL, Option.getD_some, List.getElem?_cons_succ, List.getElem?_cons_zero, List.take_succ_cons, List.take_zero, awant_none, astep, evl, put, ap_none, List.length_nil, Nat.add_zero, upd_app, ↓reduceIte, Nat.reduceEqDiff] <;> rfl) ?_)
  refine ops_call 74 _ rfl (may_spec x y z hx hz g2) (by simp) ?_
  refine ops_run (by simp only [runL, Bool.not_false, awant_none, astep, evl, put, ap_none, List.length_nil, Nat.add_zero, upd_app, stepUn, ↓reduceIte, h] <;> rfl) ?_
  refine s_true (by simp [evl]) (w_assoc (s_run (by simp only [runL, awant_none, astep, evl, put, ap_none, List.length_nil, Nat.add_zero] <;> rfl) ?_))
  exact s_ret ⟨.inr rfl, by simp, [], fin_none (by simp [resVal]) trivial (fun _ _ h => h)⟩


/-- Both readers take alike. -/
theorem take_any {p : Nat} {v : Value} {F : List Nat} {u c r : Nat} {x y z : Int} {g : Heap} (h : Rd 91 p v F u c r g) (hF : ∀ x ∈ F, x < 256) (h1 : 2 ^ 24 ≤ r) (h2 : r < 2 ^ 32) (hu : u ≤ F.length) (hl : F.length ≤ 2 ^ 38) (hc : c < 2 ^ 40) (hx : -2 ^ 63 ≤ x ∧ x ≤ 2 ^ 63 - 1) (hz : -2 ^ 63 ≤ z ∧ z ≤ 2 ^ 63 - 1) :
    ∃ f, FnSpec Try.prog 56 [ptr4 p, .int .i64 x, .int .i64 y, .int .i64 z] g f ∧ f.v = .bool (tkB F.length u c r x y z) ∧ f.a = [] ∧ (∀ i ∈ f.r, i = p ∨ i ∈ srcBlk v) ∧ (∀ i ∈ f.wr, i = p) ∧
      Rd 91 p v F (tkU F.length u c r x y z) (tkC F u c r x y z) (tkR F.length u c r x y z) (f.ap g) ∧ ∀ i, i ≠ p → f.ap g i = g i := by
  cases hs : spn x y z with
  | true =>
    obtain ⟨lo, sz, tot, rfl, rfl, rfl, ok⟩ := spn_ok hs h1 h2
    obtain ⟨a1, a2⟩ := rdE_ap (u' := tkU F.length u c r lo sz tot) (c' := tkC F u c r lo sz tot) (r' := tkR F.length u c r lo sz tot) (ok := tkB F.length u c r lo sz tot) h
    exact ⟨_, take_yes p v F u c r lo sz tot g h hF ok hu hl hc, rfl, rfl, by simp [rdE], by simp [rdE, Eff.wr], a1, a2⟩
  | false =>
    have e : tkO c r x y z = false := by unfold tkO; rw [hs]; rfl
    obtain ⟨e1, e2, e3, e4⟩ := tk_no (F := F) (u := u) e
    rw [e1, e2, e3, e4]
    exact ⟨{ v := .bool false }, take_no p _ x y z g hx hz hs, rfl, rfl, by simp, by simp [Eff.wr], h, fun _ _ => rfl⟩
theorem rtake_any {p : Nat} {v : Value} {F : List Nat} {u c r : Nat} {x y z : Int} {g : Heap} (h : Rd 70 p v F u c r g) (hF : ∀ x ∈ F, x < 256) (h1 : 2 ^ 24 ≤ r) (h2 : r < 2 ^ 32) (hu : u ≤ F.length) (hl : F.length ≤ 2 ^ 38) (hc : c < 2 ^ 40) (hx : -2 ^ 63 ≤ x ∧ x ≤ 2 ^ 63 - 1) (hz : -2 ^ 63 ≤ z ∧ z ≤ 2 ^ 63 - 1) :
    ∃ f, FnSpec Try.prog 57 [ptr4 p, .int .i64 x, .int .i64 y, .int .i64 z] g f ∧ f.v = .bool (tkB F.length u c r x y z) ∧ f.a = [] ∧ (∀ i ∈ f.r, i = p ∨ i ∈ srcBlk v) ∧ (∀ i ∈ f.wr, i = p) ∧
      Rd 70 p v F (tkU F.length u c r x y z) (tkC F u c r x y z) (tkR F.length u c r x y z) (f.ap g) ∧ ∀ i, i ≠ p → f.ap g i = g i := by
  cases hs : spn x y z with
  | true =>
    obtain ⟨lo, sz, tot, rfl, rfl, rfl, ok⟩ := spn_ok hs h1 h2
    obtain ⟨a1, a2⟩ := rdE_ap (u' := tkU F.length u c r lo sz tot) (c' := tkC F u c r lo sz tot) (r' := tkR F.length u c r lo sz tot) (ok := tkB F.length u c r lo sz tot) h
    exact ⟨_, rtake_yes p v F u c r lo sz tot g h hF ok hu hl hc, rfl, rfl, by simp [rdE], by simp [rdE, Eff.wr], a1, a2⟩
  | false =>
    have e : tkO c r x y z = false := by unfold tkO; rw [hs]; rfl
    obtain ⟨e1, e2, e3, e4⟩ := tk_no (F := F) (u := u) e
    rw [e1, e2, e3, e4]
    exact ⟨{ v := .bool false }, rtake_no _ x y z g hx hz hs, rfl, rfl, by simp, by simp [Eff.wr], h, fun _ _ => rfl⟩

/-- What stays true of a reader's numbers while it takes. -/
theorem tk_keep {F : List Nat} {u c r : Nat} {x y z : Int} (hF : ∀ x ∈ F, x < 256) (h1 : 2 ^ 24 ≤ r) (h2 : r < 2 ^ 32) (hu : u ≤ F.length) (hc : c < 2 ^ 32) (hok : tkB F.length u c r x y z = true ∨ tkU F.length u c r x y z < F.length) :
    2 ^ 24 ≤ tkR F.length u c r x y z ∧ tkR F.length u c r x y z < 2 ^ 32 ∧ tkU F.length u c r x y z ≤ F.length ∧ tkC F u c r x y z < 2 ^ 32 := by
  cases e : tkO c r x y z with
  | false =>
    obtain ⟨e1, e2, e3, e4⟩ := tk_no (F := F) (u := u) e
    rw [e2, e3, e4]
    exact ⟨h1, h2, hu, hc⟩
  | true =>
    have hs : spn x y z = true := by
      unfold tkO at e
      rw [Bool.and_eq_true] at e
      exact e.1
    obtain ⟨lo, sz, tot, rfl, rfl, rfl, ok⟩ := spn_ok hs h1 h2
    have hd := of_decide_eq_true (tkO_nat hs e)
    obtain ⟨e1, e2, e3, e4⟩ := tk_yes (F := F) (u := u) e
    rw [e1, e2] at hok
    rw [e2, e3, e4]
    have hle := ok.le
    have hsz := ok.size
    rw [Nat.mul_add] at hd
    have hsh : sh (r / tot * sz) ≤ F.length - u := by
      rcases hok with h | h
      · exact of_decide_eq_true h
      · omega
    rw [Nat.min_eq_left hsh]
    obtain ⟨n1, n2⟩ := sh_norm hsz (by omega)
    have := more_lt (u := u) (k := sh (r / tot * sz)) hF (show c - r / tot * lo < r / tot * sz by omega)
    exact ⟨n1, n2, by omega, by omega⟩
end Go.Proofs.Ytahinegnblankaa
