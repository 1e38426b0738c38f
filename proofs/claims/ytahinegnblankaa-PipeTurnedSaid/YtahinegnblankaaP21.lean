import Derived.Test.YtahinegnblankaaP20
namespace Go.Proofs.Ytahinegnblankaa
open Go Abs
set_option linter.unusedSimpArgs false
set_option linter.unusedVariables false

/-- A place that the model has. -/
theorem find_drop {c : List Nat} : ∀ {k v : Nat}, k < c.length → byt c k ≤ v → find (c.drop k) v = find (c.drop (k + 1)) (v - byt c k) + 1 := by
  intro k v hk h
  rw [drop_cons hk, find, if_neg (by omega)]
theorem find_here {c : List Nat} {k v : Nat} (hk : k < c.length) (h : v < byt c k) : find (c.drop k) v = 0 := by
  rw [drop_cons hk, find, if_pos h]
theorem sum_drop {c : List Nat} {k : Nat} (hk : k < c.length) : (c.drop k).sum = byt c k + (c.drop (k + 1)).sum := by
  rw [drop_cons hk]; simp
theorem sum_drop_pos {c : List Nat} {k v : Nat} (hk : k ≤ c.length) (h : v < (c.drop k).sum) : k < c.length := by
  by_cases e : k = c.length
  · subst e; simp at h
  · omega

set_option maxRecDepth 10000 in
theorem find_no (p q : Nat) (c : List Nat) (x : Int) (g : Heap) (h : Mo p q c g) (hx : inR x c.sum = false) : FnSpec Try.prog 49 [ptr2 p, .int .i64 x] g { v := findN, r := [p, q] } := by
  refine spec_of_body [4, 5] follows Try.func49 rfl (by kernel_rfl) (by simp [Try.f49]) (by kernel_rfl) rfl ?_
  intro g2 s2 n hg hfr hs' hn hwf hsv
  have h2 : Mo p q c g2 := h.congr (hg p (by simp [Eff.fp])) (hg q (by simp [Eff.fp]))
  refine s_run (by simp only [runL, awant_none, astep, evl, put, ap_none, List.length_nil, Nat.add_zero, undef] <;> rfl) ?_
  by_cases h0 : x < 0
  · have d0 : decide (x < 0) = true := decide_eq_true h0
    refine w_assoc (s_run (by simp only [runL, awant_some, Option.getD_some, List.getElem?_toArray, List.getElem?_cons_succ, List.getElem?_cons_zero, Option.bind_some, b_tf, awant_none, astep, evl, put, ap_none, List.length_nil, Nat.add_zero, upd_app, stepBin, abin, stepPick, ↓reduceIte, Nat.reduceEqDiff, undef, d0] <;> rfl) ?_)
    refine s_true (by simp [evl]) (w_assoc (s_run (by simp only [runL, awant_none, astep, evl, put, ap_none, List.length_nil, Nat.add_zero] <;> rfl) ?_))
    refine s_ret ⟨.inr rfl, by simp [upd_app, isTup], [], fin_none ?_ (by simp [SVT, SVA, SV1]) (fun _ _ h => h)⟩
    simp [resVal, upd_app]
  · have d0 : decide (x < 0) = false := decide_eq_false h0
    have hge : ¬ x < (c.sum : Int) := fun e => by
      have := of_decide_eq_false hx
      omega
    have d1 : decide (x ≥ ((c.sum : Nat) : Int)) = true := decide_eq_true (by omega)
    refine w_assoc (s_take 5 (by simp only [runL, awant_some, Option.getD_some, List.getElem?_toArray, List.getElem?_cons_succ, List.getElem?_cons_zero, Option.bind_some, b_ff, List.take_succ_cons, List.take_zero, awant_none, astep, evl, put, ap_none, List.length_nil, Nat.add_zero, upd_app, stepBin, abin, reduceCtorEq, ↓reduceIte, Nat.reduceEqDiff, d0] <;> rfl) ?_)
    refine g_call 45 _ (by simp only [awant_some, List.getElem?_toArray, List.getElem?_cons_succ, List.getElem?_cons_zero, Option.bind_some, b_ff, upd_app, ↓reduceIte, Nat.reduceEqDiff] <;> rfl) rfl (total_spec p q c g2 h2) (by simp) ?_
    refine ops_run (by simp only [runL, awant_some, List.getElem?_toArray, List.getElem?_cons_succ, List.getElem?_cons_zero, Option.bind_some, b_ff, awant_none, astep, evl, put, ap_none, List.length_nil, Nat.add_zero, upd_app, stepBin, abin, stepPick, ↓reduceIte, Nat.reduceEqDiff, Bool.false_eq_true, d1] <;> rfl) ?_
    refine s_true (by simp [evl]) (w_assoc (s_run (by simp only [runL, awant_none, astep, evl, put, ap_none, List.length_nil, Nat.add_zero] <;> rfl) ?_))
    refine s_ret ⟨.inr rfl, by simp [upd_app, isTup], [], fin_none ?_ (by simp [SVT, SVA, SV1]) (fun _ _ h => h)⟩
    simp [resVal, upd_app]

set_option maxRecDepth 10000 in
theorem find_nil (x : Int) (g : Heap) (hx : x = 0) : FnSpec Try.prog 49 [.pointer none, .int .i64 x] g { v := findN } := by
  subst hx
  refine spec_of_body [4, 5] follows Try.func49 rfl (by kernel_rfl) (by simp [Try.f49]) (by kernel_rfl) rfl ?_
  intro g2 s2 n hg hfr hs' hn hwf hsv
  refine s_run (by simp only [runL, awant_none, astep, evl, put, ap_none, List.length_nil, Nat.add_zero, undef] <;> rfl) ?_
  have d1 : decide ((0 : Int) ≥ 0) = true := rfl
  refine w_assoc (s_take 5 (by simp only [runL, awant_some, Option.getD_some, List.getElem?_toArray, List.getElem?_cons_succ, List.getElem?_cons_zero, Option.bind_some, b_ff, List.take_succ_cons, List.take_zero, awant_none, astep, evl, put, ap_none, List.length_nil, Nat.add_zero, upd_app, stepBin, abin, reduceCtorEq, ↓reduceIte, Nat.reduceEqDiff, decide_false, Int.reduceLT] <;> rfl) ?_)
  refine g_call 45 _ (by simp only [awant_some, List.getElem?_toArray, List.getElem?_cons_succ, List.getElem?_cons_zero, Option.bind_some, b_ff, upd_app, ↓reduceIte, Nat.reduceEqDiff] <;> rfl) rfl (total_nil g2) (by simp) ?_
  refine ops_run (by simp only [runL, awant_some, List.getElem?_toArray, List.getElem?_cons_succ, List.getElem?_cons_zero, Option.bind_some, b_ff, awant_none, astep, evl, put, ap_none, List.length_nil, Nat.add_zero, upd_app, stepBin, abin, stepPick, ↓reduceIte, Nat.reduceEqDiff, Bool.false_eq_true, d1] <;> rfl) ?_
  refine s_true (by simp [evl]) (w_assoc (s_run (by simp only [runL, awant_none, astep, evl, put, ap_none, List.length_nil, Nat.add_zero] <;> rfl) ?_))
  refine s_ret ⟨.inr rfl, by simp [upd_app, isTup], [], fin_none ?_ (by simp [SVT, SVA, SV1]) (fun _ _ h => h)⟩
  simp [resVal, upd_app]

set_option maxRecDepth 10000 in
theorem find_yes (p q : Nat) (c : List Nat) (v : Nat) (g : Heap) (h : Mo p q c g) (hc : c.sum ≤ 2 ^ 40) (hl : c.length ≤ 2 ^ 40) (hv : v < c.sum) : FnSpec Try.prog 49 [ptr2 p, .int .i64 v] g { v := findV c v, r := [p, q] } := by
  refine spec_of_body [4, 5] follows Try.func49 rfl (by kernel_rfl) (by simp [Try.f49]) (by kernel_rfl) rfl ?_
  intro g2 s2 n hg hfr hs' hn hwf hsv
  have h2 : Mo p q c g2 := h.congr (hg p (by simp [Eff.fp])) (hg q (by simp [Eff.fp]))
  refine s_run (by simp only [runL, awant_none, astep, evl, put, ap_none, List.length_nil, Nat.add_zero, undef] <;> rfl) ?_
  have d0 : decide ((v : Int) < 0) = false := decide_eq_false (by omega)
  have d1 : decide ((v : Int) ≥ ((c.sum : Nat) : Int)) = false := decide_eq_false (by omega)
  refine w_assoc (s_take 5 (by simp only [runL, awant_some, Option.getD_some, List.getElem?_toArray, List.getElem?_cons_succ, List.getElem?_cons_zero, Option.bind_some, b_ff, List.take_succ_cons, List.take_zero, awant_none, astep, evl, put, ap_none, List.length_nil, Nat.add_zero, upd_app, stepBin, abin, reduceCtorEq, ↓reduceIte, Nat.reduceEqDiff, d0] <;> rfl) ?_)
  refine g_call 45 _ (by simp only [awant_some, List.getElem?_toArray, List.getElem?_cons_succ, List.getElem?_cons_zero, Option.bind_some, b_ff, upd_app, ↓reduceIte, Nat.reduceEqDiff] <;> rfl) rfl (total_spec p q c g2 h2) (by simp) ?_
  refine ops_run (by simp only [runL, awant_some, List.getElem?_toArray, List.getElem?_cons_succ, List.getElem?_cons_zero, Option.bind_some, b_ff, awant_none, astep, evl, put, ap_none, List.length_nil, Nat.add_zero, upd_app, stepBin, abin, stepPick, ↓reduceIte, Nat.reduceEqDiff, Bool.false_eq_true, d1] <;> rfl) ?_
  refine s_false (by simp [evl]) (s_skip ?_)
  refine s_block (fun t g n' => g = g2 ∧ t 4 = .int .i64 (find c v)) ?_ ?_
  · refine w_loop (fun t g n' => ∃ k u : Nat, k ≤ c.length ∧ u < (c.drop k).sum ∧ find c v = find (c.drop k) u + k ∧ u ≤ v ∧ t 0 = ptr2 p ∧ t 1 = .int .i64 u ∧ t 4 = .int .i64 k ∧ g = g2)
      (fun t _ _ => match t 4 with | .int _ k => c.length - k.toNat | _ => 0) ⟨0, v, by omega, by simpa using hv, by simp, Nat.le_refl _, by simp [upd_app], by simp [upd_app], by simp [upd_app], rfl⟩ ?_
    rintro t g n' ⟨k, u, hk, hu, hf, huv, t0, t1, t4, rfl⟩
    have hk' := sum_drop_pos hk hu
    have hsd := sum_drop hk'
    by_cases hlt : u < byt c k
    · have d2 : decide ((u : Int) ≥ (byt c k : Int)) = false := decide_eq_false (by omega)
      refine w_assoc (s_run (by simp only [runL, awant_none, astep, evl, put, ap_none, List.length_nil, Nat.add_zero, upd_app, stepBin, abin, reduceCtorEq, ↓reduceIte, Nat.reduceEqDiff, t0, t1, t4, nchk, fld87_0, h2.ld0, idx22 _ _ _ _ hk', ldq h2.hq hk', d2] <;> rfl) ?_)
      refine s_false (by simp [evl]) (s_exit ⟨rfl, ?_⟩)
      rw [hf, find_here hk' hlt]
      simp [upd_app, t4]
    · have d2 : decide ((u : Int) ≥ (byt c k : Int)) = true := decide_eq_true (by omega)
      refine w_assoc (s_run (by simp only [runL, awant_none, astep, evl, put, ap_none, List.length_nil, Nat.add_zero, upd_app, stepBin, abin, reduceCtorEq, ↓reduceIte, Nat.reduceEqDiff, t0, t1, t4, nchk, fld87_0, h2.ld0, idx22 _ _ _ _ hk', ldq h2.hq hk', d2] <;> rfl) ?_)
      refine s_true (by simp [evl]) (s_skip (w_block ?_))
      refine w_gen (fun t => t 0 = ptr2 p ∧ t 1 = .int .i64 u ∧ t 4 = .int .i64 k) (by simp [upd_app, t0, t1, t4]) ?_
      have t4' := t4
      clear t0 t1 t4
      rintro t' ⟨t0, t1, t4⟩
      have w1 : IntKind.i64.wrap ((u : Int) - (byt c k : Int)) = ((u - byt c k : Nat) : Int) := wrap_sub (by omega) (by omega)
      have w2 : IntKind.i64.wrap ((k : Int) + 1) = ((k + 1 : Nat) : Int) := wrap_succ (by omega)
      refine s_run (by simp only [runL, awant_none, astep, evl, put, ap_none, List.length_nil, Nat.add_zero, upd_app, stepBin, abin, reduceCtorEq, ↓reduceIte, Nat.reduceEqDiff, t0, t1, t4, nchk, fld87_0, h2.ld0, idx22 _ _ _ _ hk', ldq h2.hq hk', w1] <;> rfl) ?_
      refine region_run (id := 5) (by simp only [runL, awant_none, astep, evl, put, ap_none, List.length_nil, Nat.add_zero, upd_app, stepBin, abin, ↓reduceIte, Nat.reduceEqDiff, t4, w2] <;> rfl) ?_
      refine ⟨⟨k + 1, u - byt c k, hk', by omega, by rw [hf, find_drop hk' (by omega)]; omega, by omega, by simp [upd_app, t0], by simp [upd_app], by simp [], rfl⟩, ?_⟩
      rw [t4']
      simp only [upd_app, if_true, Int.toNat_natCast]
      omega
  · rintro t g n' ⟨rfl, t4⟩
    refine s_run (by simp only [runL, awant_none, astep, evl, put, ap_none, List.length_nil, Nat.add_zero, upd_app, ↓reduceIte, t4] <;> rfl) ?_
    refine w_ret ⟨.inr rfl, by simp [upd_app, isTup], [], fin_none ?_ (by simp [SVT, SVA, SV1]) (fun _ _ h => h)⟩
    simp [resVal, upd_app]

/-- Every count is halved, and what is left over is counted up. -/
def half (c : List Nat) : List Nat := c.map fun x => (x + 1) / 2
/-- The counts behind a symbol. -/
def saw (c : List Nat) (s : Nat) : List Nat := if (c.set s (byt c s + 32)).sum > 65504 then half (c.set s (byt c s + 32)) else c.set s (byt c s + 32)

theorem half_len (c : List Nat) : (half c).length = c.length := by simp [half]
theorem saw_len (c : List Nat) (s : Nat) : (saw c s).length = c.length := by unfold saw; split <;> simp [half_len]
theorem half_at {c : List Nat} {k : Nat} (h : k < c.length) : byt (half c) k = (byt c k + 1) / 2 := by
  rw [byt_eq (by rw [half_len]; exact h), byt_eq h]; simp [half]
theorem sum_set {c : List Nat} {s x : Nat} (h : s < c.length) : (c.set s x).sum + byt c s = c.sum + x := by
  induction c generalizing s with
  | nil => simp at h
  | cons y c ih =>
    cases s with
    | zero => simp [byt]; omega
    | succ s =>
      have := ih (s := s) (by simpa using h)
      simp [byt] at this ⊢
      omega
theorem half_sum (c : List Nat) : (half c).sum * 2 ≤ c.sum + c.length := by
  induction c with
  | nil => simp [half]
  | cons x c ih =>
    simp [half] at ih ⊢
    omega

/-- The counts as they are while the first k of them are halved. -/
def halfed (c : List Nat) (k : Nat) : List Nat := (half c).take k ++ c.drop k
theorem halfed_len {c : List Nat} {k : Nat} (h : k ≤ c.length) : (halfed c k).length = c.length := by simp [halfed, half_len]; omega
theorem halfed_zero (c : List Nat) : halfed c 0 = c := by simp [halfed]
theorem halfed_all (c : List Nat) : halfed c c.length = half c := by
  unfold halfed
  rw [List.take_of_length_le (by rw [half_len]; omega), List.drop_length, List.append_nil]
theorem halfed_at {c : List Nat} {k : Nat} (h : k < c.length) : byt (halfed c k) k = byt c k := by
  unfold byt halfed
  rw [List.getElem?_append_right (by simp [half_len]; omega)]
  simp [half_len, Nat.min_eq_left (Nat.le_of_lt h)]
theorem halfed_set {c : List Nat} {k : Nat} (h : k < c.length) : (halfed c k).set k ((byt c k + 1) / 2) = halfed c (k + 1) := by
  have hl : ((half c).take k).length = k := by simp [half_len]; omega
  unfold halfed
  rw [List.set_append_right _ _ (by omega), hl, Nat.sub_self, drop_cons h, List.take_succ_eq_append_getElem (by rw [half_len]; exact h), List.append_assoc, List.set_cons_zero]
  simp [half, byt_eq h]
theorem halfed_at' {c : List Nat} {k : Nat} (h : k < c.length) : byt (halfed c (k + 1)) k = (byt c k + 1) / 2 := by
  rw [← halfed_set h, byt_eq (by simp [halfed_len (Nat.le_of_lt h)]; exact h)]
  simp

abbrev moP (q : Nat) (c : List Nat) : Blk := ⟨false, 87, [.slice (some ⟨q, 0, some c.length⟩) c.length 1, .int .i64 (c.sum : Nat)]⟩
abbrev moQ (c : List Nat) : Blk := ⟨false, 3, ints c⟩
def sawE (p q : Nat) (c : List Nat) : Eff := { v := .bool true, r := [p, q], w := [(p, moP q c), (q, moQ c)] }

theorem sawE_ap {p q : Nat} {c : List Nat} (hpq : p ≠ q) (g : Heap) : Mo p q c ((sawE p q c).ap g) ∧ ∀ i, i ≠ p → i ≠ q → (sawE p q c).ap g i = g i := by
  refine ⟨⟨by simp [sawE, Eff.ap, setAll, addAll, upd_app, hpq], by simp [sawE, Eff.ap, setAll, addAll]⟩, fun i h1 h2 => by simp [sawE, Eff.ap, setAll, addAll, upd_app, h1, h2]⟩

theorem fin_w2 {s2 : Nat → Prop} {g2 g' : Heap} {n p q : Nat} {v' v : Value} {r : List Nat} {j : Nat} {bp bq : Blk} (hpq : p ≠ q) (hv : v' = v) (hsv : SVT s2 v) (hdp : (g2 p).isSome = true) (hdq : (g2 q).isSome = true) (hp : g' p = some bp) (hq : g' q = some bq) (hsp : ∀ c ∈ bp.cells, SV1 s2 c) (hsq : ∀ c ∈ bq.cells, SV1 s2 c) (hold : ∀ i b, i ≠ p → i ≠ q → g2 i = some b → g' i = some b) :
    Abs.Fin { v := v, r := r, w := [(p, bp), (q, bq)], j := j } [] s2 g2 n g' v' := by
  refine fin_w hv hsv (fun i hi => ?_) (fun i hi => ?_) (fun x hx => ?_) (fun i b' hi => hold i b' ?_ ?_)
  · simp at hi
    rcases hi with rfl | rfl
    · exact hdp
    · exact hdq
  · simp at hi
    rcases hi with rfl | rfl
    · exact ⟨bp, by simp [setAll, upd_app, hpq], hp⟩
    · exact ⟨bq, by simp [setAll], hq⟩
  · simp at hx
    rcases hx with rfl | rfl
    · exact hsp
    · exact hsq
  · simp at hi; exact hi.1
  · simp at hi; exact hi.2

theorem saw_fin {p q : Nat} {c c' : List Nat} {s2 : Nat → Prop} {g2 g' : Heap} {n : Nat} {v' : Value} (h : Mo p q c g2) (h' : Mo p q c' g') (hl : c'.length = c.length) (hwf : ∀ i b, g2 i = some b → s2 i ∧ ∀ c ∈ b.cells, SV1 s2 c) (hv : v' = .bool true) (hold : ∀ i, i ≠ p → i ≠ q → g' i = g2 i) : Abs.Fin (sawE p q c') [] s2 g2 n g' v' := by
  refine fin_w2 h.ne hv trivial (by rw [h.hp]; rfl) (by rw [h.hq]; rfl) h'.hp h'.hq (fun x hx => ?_) (fun x hx => ?_) (fun i b h1 h2 hb => by rw [hold i h1 h2]; exact hb)
  · simp at hx
    rcases hx with rfl | rfl
    · have := (hwf p _ h.hp).2 (.slice (some ⟨q, 0, some c.length⟩) c.length 1) (by simp)
      rw [hl]; exact this
    · trivial
  · exact SV1_plain (plain_is _ x hx)
theorem stp {p q : Nat} {y sl : Value} {x : Int} {g : Heap} (h : g p = some ⟨false, 87, [sl, y]⟩) : stepStore Try.prog 3 (.pointer (some ⟨p, 1, some 2⟩)) (.int .i64 x) g = some { v := undef, r := [p], w := [(p, ⟨false, 87, [sl, .int .i64 x]⟩)] } := by
  exact st_at (s := some 2) (d := undef) h rfl (by simp) tsize3 rfl rfl

set_option maxRecDepth 10000 in
theorem saw_no (p q : Nat) (c : List Nat) (x : Int) (g : Heap) (h : Mo p q c g) (hx : inR x c.length = false) : FnSpec Try.prog 43 [ptr2 p, .int .i64 x] g { v := .bool false, r := [p, q] } := by
  refine spec_of_body [4] follows Try.func43 rfl (by kernel_rfl) (by simp [Try.f43]) (by kernel_rfl) rfl ?_
  intro g2 s2 n hg hfr hs' hn hwf hsv
  have h2 : Mo p q c g2 := h.congr (hg p (by simp [Eff.fp])) (hg q (by simp [Eff.fp]))
  refine s_run (by simp only [runL, awant_none, astep, evl, put, ap_none, List.length_nil, Nat.add_zero, undef] <;> rfl) ?_
  refine w_assoc (s_take 2 (by simp only [runL, Option.getD_some, List.getElem?_cons_succ, List.getElem?_cons_zero, List.take_succ_cons, List.take_zero, awant_none, astep, evl, put, ap_none, List.length_nil, Nat.add_zero, upd_app, reduceCtorEq, ↓reduceIte, Nat.reduceEqDiff] <;> rfl) ?_)
  refine ops_call 78 _ rfl (is_spec p q c x g2 h2) (by simp) ?_
  refine ops_run (by simp only [runL, Bool.not_false, awant_none, astep, evl, put, ap_none, List.length_nil, Nat.add_zero, upd_app, stepUn, ↓reduceIte, hx] <;> rfl) ?_
  refine s_true (by simp [evl]) (w_assoc (s_run (by simp only [runL, awant_none, astep, evl, put, ap_none, List.length_nil, Nat.add_zero] <;> rfl) ?_))
  refine s_ret ⟨.inr rfl, by simp, [], fin_none ?_ trivial (fun _ _ h => h)⟩
  simp [resVal]

set_option maxRecDepth 10000 in
theorem saw_nil (x : Int) (g : Heap) : FnSpec Try.prog 43 [.pointer none, .int .i64 x] g { v := .bool false } := by
  refine spec_of_body [4] follows Try.func43 rfl (by kernel_rfl) (by simp [Try.f43]) (by kernel_rfl) rfl ?_
  intro g2 s2 n hg hfr hs' hn hwf hsv
  refine s_run (by simp only [runL, awant_none, astep, evl, put, ap_none, List.length_nil, Nat.add_zero, undef] <;> rfl) ?_
  refine w_assoc (s_take 2 (by simp only [runL, Option.getD_some, List.getElem?_cons_succ, List.getElem?_cons_zero, List.take_succ_cons, List.take_zero, awant_none, astep, evl, put, ap_none, List.length_nil, Nat.add_zero, upd_app, reduceCtorEq, ↓reduceIte, Nat.reduceEqDiff] <;> rfl) ?_)
  refine ops_call 78 _ rfl (is_nil x g2) (by simp) ?_
  refine ops_run (by simp only [runL, Bool.not_false, awant_none, astep, evl, put, ap_none, List.length_nil, Nat.add_zero, upd_app, stepUn, ↓reduceIte] <;> rfl) ?_
  refine s_true (by simp [evl]) (w_assoc (s_run (by simp only [runL, awant_none, astep, evl, put, ap_none, List.length_nil, Nat.add_zero] <;> rfl) ?_))
  refine s_ret ⟨.inr rfl, by simp, [], fin_none ?_ trivial (fun _ _ h => h)⟩
  simp [resVal]

set_option maxRecDepth 10000 in
theorem saw_yes (p q : Nat) (c : List Nat) (s : Nat) (g : Heap) (h : Mo p q c g) (hc : c.sum ≤ 2 ^ 40) (hl : c.length ≤ 2 ^ 38) (hs : s < c.length) : FnSpec Try.prog 43 [ptr2 p, .int .i64 s] g (sawE p q (saw c s)) := by
  refine spec_of_body [4] follows Try.func43 rfl (by kernel_rfl) (by simp [Try.f43]) (by kernel_rfl) rfl ?_
  intro g2 s2 n hg hfr hs' hn hwf hsv
  have h2 : Mo p q c g2 := h.congr (hg p (by simp [sawE, Eff.fp])) (hg q (by simp [sawE, Eff.fp]))
  have hne := h2.ne
  refine s_run (by simp only [runL, awant_none, astep, evl, put, ap_none, List.length_nil, Nat.add_zero, undef] <;> rfl) ?_
  refine w_assoc (s_take 2 (by simp only [runL, Option.getD_some, List.getElem?_cons_succ, List.getElem?_cons_zero, List.take_succ_cons, List.take_zero, awant_none, astep, evl, put, ap_none, List.length_nil, Nat.add_zero, upd_app, reduceCtorEq, ↓reduceIte, Nat.reduceEqDiff] <;> rfl) ?_)
  refine ops_call 78 _ rfl (is_spec p q c s g2 h2) (by simp) ?_
  refine ops_run (by simp only [runL, Bool.not_true, awant_none, astep, evl, put, ap_none, List.length_nil, Nat.add_zero, upd_app, stepUn, ↓reduceIte, inR_nat hs] <;> rfl) ?_
  refine s_false (by simp [evl]) (s_skip ?_)
  refine w_gen (fun t => t 0 = ptr2 p ∧ t 1 = .int .i64 s) (by simp [upd_app]) ?_
  rintro t ⟨t0, t1⟩
  have hbs : byt c s ≤ c.sum := by have := sum_take_le c (s + 1); rw [sum_take_succ hs] at this; omega
  have w1 : IntKind.i64.wrap ((byt c s : Int) + 32) = ((byt c s + 32 : Nat) : Int) := by rw [wrap64_of (by omega) (by omega)]; simp
  refine s_run (by simp only [runL, awant_none, astep, evl, put, ap_none, ap_wr, List.length_nil, Nat.add_zero, upd_app, stepBin, abin, ↓reduceIte, Nat.reduceEqDiff, undef, t0, t1, nchk, fld87_0, h2.ld0, idx22 _ _ _ _ hs, ldq h2.hq hs, w1, stq h2.hq hs] <;> rfl) (w_heap fun G1 hG1 => ?_)
  have hsum := sum_set (x := byt c s + 32) hs
  generalize hc1 : c.set s (byt c s + 32) = c1 at hsum
  have hl1 : c1.length = c.length := by rw [← hc1]; simp
  have q1 : G1 q = some ⟨false, 3, ints c1⟩ := by rw [hG1]; simp [hc1]
  have p1 : G1 p = some ⟨false, 87, [.slice (some ⟨q, 0, some c.length⟩) c.length 1, .int .i64 (c.sum : Nat)]⟩ := by rw [hG1]; simp [upd_app, hne, h2.hp]
  have o1 : ∀ i, i ≠ p → i ≠ q → G1 i = g2 i := fun i h1 h2 => by rw [hG1]; simp [upd_app, h2]
  have ld1 : stepLoad Try.prog 3 (.pointer (some ⟨p, 1, some 2⟩)) G1 = some { v := .int .i64 (c.sum : Nat), r := [p] } := ld_at p1 rfl rfl aggT3
  have w2 : IntKind.i64.wrap (((c.sum : Nat) : Int) + 32) = ((c1.sum : Nat) : Int) := by rw [wrap64_of (by omega) (by omega)]; omega
  refine s_run (by simp only [runL, awant_none, astep, evl, put, ap_none, ap_wr, List.length_nil, Nat.add_zero, upd_app, stepBin, abin, reduceCtorEq, ↓reduceIte, Nat.reduceEqDiff, undef, t0, nchk, fld87_1, ld1, w2, stp (q := q) p1] <;> rfl) (w_heap fun G2 hG2 => ?_)
  have m2 : Mo p q c1 G2 := ⟨by rw [hG2]; simp [hl1], by rw [hG2]; simp [upd_app, Ne.symm hne, q1]⟩
  have o2 : ∀ i, i ≠ p → i ≠ q → G2 i = g2 i := fun i h1 h2 => by rw [hG2]; simp [upd_app, h1, o1 i h1 h2]
  refine w_gen (fun t => t 0 = ptr2 p) (by simp [upd_app, t0]) ?_
  clear t0 t1
  rintro t t0
  have hsaw : saw c s = if c1.sum > 65504 then half c1 else c1 := by unfold saw; rw [hc1]
  by_cases hbig : c1.sum > 65504
  · have d : decide (((c1.sum : Nat) : Int) > 65504) = true := decide_eq_true (by omega)
    rw [if_pos hbig] at hsaw
    refine w_assoc (s_run (by simp only [runL, awant_none, astep, evl, put, ap_none, List.length_nil, Nat.add_zero, upd_app, stepBin, abin, ↓reduceIte, t0, nchk, fld87_1, m2.ld1, d] <;> rfl) ?_)
    refine s_true (by simp [evl]) (w_assoc (s_run (by simp only [runL, awant_none, astep, evl, put, ap_none, ap_wr, List.length_nil, Nat.add_zero, upd_app, reduceCtorEq, ↓reduceIte, undef, t0, nchk, fld87_1, stp (q := q) m2.hp] <;> rfl) (w_heap fun G3 hG3 => ?_)))
    have p3 : G3 p = some ⟨false, 87, [.slice (some ⟨q, 0, some c1.length⟩) c1.length 1, .int .i64 0]⟩ := by rw [hG3]; simp []
    have q3 : G3 q = some ⟨false, 3, ints c1⟩ := by rw [hG3]; simp [upd_app, Ne.symm hne, m2.hq]
    have o3 : ∀ i, i ≠ p → i ≠ q → G3 i = g2 i := fun i h1 h2 => by rw [hG3]; simp [upd_app, h1, o2 i h1 h2]
    have ld3 : stepLoad Try.prog 22 (.pointer (some ⟨p, 0, some 2⟩)) G3 = some { v := .slice (some ⟨q, 0, some c1.length⟩) c1.length 1, r := [p] } := ld_at p3 rfl rfl aggT22
    refine w_assoc (s_run (by simp only [runL, awant_none, astep, evl, put, ap_none, List.length_nil, Nat.add_zero, upd_app, stepCall, reduceCtorEq, ↓reduceIte, t0, nchk, fld87_0, ld3, len22] <;> rfl) ?_)
    refine s_rng c1.length (fun k t g n' => t 0 = ptr2 p ∧ t 38 = .slice (some ⟨q, 0, some c1.length⟩) c1.length 1 ∧ g p = some ⟨false, 87, [.slice (some ⟨q, 0, some c1.length⟩) c1.length 1, .int .i64 (((half c1).take k).sum : Nat)]⟩ ∧ g q = some ⟨false, 3, ints (halfed c1 k)⟩ ∧ ∀ i, i ≠ p → i ≠ q → g i = g2 i) (by omega) (by simp []) (by simp [upd_app])
      (fun x => ⟨by simp [upd_app, t0], by simp [upd_app], by simpa using p3, by rw [halfed_zero]; exact q3, o3⟩) (by decide) ?_ ?_
    · clear t0
      rintro k t g n' hk t40 t39 ⟨t0, t38, hp, hq, ho⟩
      have hkl := halfed_len (Nat.le_of_lt hk)
      have hka := halfed_at hk
      have i1 : stepIndex Try.prog 22 (.slice (some ⟨q, 0, some c1.length⟩) c1.length 1) (.int .i64 (k : Int)) = some { v := .pointer (some ⟨q, k, some c1.length⟩) } := idx22 _ _ _ _ hk
      have l1 : stepLoad Try.prog 3 (.pointer (some ⟨q, k, some c1.length⟩)) g = some { v := .int .i64 (byt c1 k), r := [q] } := by rw [← hka, ← hkl]; exact ldq hq (by omega)
      have hbk : byt c1 k ≤ c1.sum := by have := sum_take_le c1 (k + 1); rw [sum_take_succ hk] at this; omega
      have w3 : IntKind.i64.wrap ((byt c1 k : Int) + 1) = ((byt c1 k + 1 : Nat) : Int) := wrap_succ (by omega)
      have w4 : IntKind.i64.wrap (((byt c1 k + 1 : Nat) : Int).tdiv 2) = (((byt c1 k + 1) / 2 : Nat) : Int) := by
        rw [show ((byt c1 k + 1 : Nat) : Int).tdiv 2 = (((byt c1 k + 1) / 2 : Nat) : Int) from rfl]; exact wrap_nat (by omega)
      have l0 : stepLoad Try.prog 22 (.pointer (some ⟨p, 0, some 2⟩)) g = some { v := .slice (some ⟨q, 0, some c1.length⟩) c1.length 1, r := [p] } := ld_at hp rfl rfl aggT22
      have st1 : stepStore Try.prog 3 (.pointer (some ⟨q, k, some c1.length⟩)) (.int .i64 (((byt c1 k + 1) / 2 : Nat) : Int)) g = some { v := undef, r := [q], w := [(q, ⟨false, 3, ints (halfed c1 (k + 1))⟩)] } := by
        have := stq (x := (byt c1 k + 1) / 2) hq (i := k) (by omega)
        rw [hkl, halfed_set hk] at this; exact this
      refine s_run (by simp only [runL, awant_none, astep, evl, put, ap_none, List.length_nil, Nat.add_zero, upd_app, ↓reduceIte, Nat.reduceEqDiff, t38, t40, i1, l1] <;> rfl) ?_
      refine w_gen (fun t => t 0 = ptr2 p ∧ t 38 = .slice (some ⟨q, 0, some c1.length⟩) c1.length 1 ∧ t 40 = .int .i64 k ∧ t 39 = .int .i64 c1.length ∧ t 5 = .int .i64 k ∧ t 6 = .int .i64 (byt c1 k)) (by simp [upd_app, t0, t38, t40, t39]) ?_
      clear t0 t38 t40 t39
      rintro t ⟨t0, t38, t40, t39, t5, t6⟩
      refine s_run (by simp only [runL, awant_none, astep, evl, put, ap_none, ap_wr, List.length_nil, Nat.add_zero, upd_app, stepBin, abin, ↓reduceIte, Nat.reduceEqDiff, ne_eq, not_false_eq_true, and_self, Int.reduceEq, undef, t0, t5, t6, nchk, fld87_0, l0, i1, w3, w4, st1] <;> rfl) (w_heap fun G4 hG4 => ?_)
      have p4 : G4 p = some ⟨false, 87, [.slice (some ⟨q, 0, some c1.length⟩) c1.length 1, .int .i64 (((half c1).take k).sum : Nat)]⟩ := by rw [hG4]; simp [upd_app, hne, hp]
      have q4 : G4 q = some ⟨false, 3, ints (halfed c1 (k + 1))⟩ := by rw [hG4]; simp []
      have o4 : ∀ i, i ≠ p → i ≠ q → G4 i = g2 i := fun i h1 h2 => by rw [hG4]; simp [upd_app, h2, ho i h1 h2]
      have l4 : stepLoad Try.prog 3 (.pointer (some ⟨p, 1, some 2⟩)) G4 = some { v := .int .i64 (((half c1).take k).sum : Nat), r := [p] } := ld_at p4 rfl rfl aggT3
      have l5 : stepLoad Try.prog 22 (.pointer (some ⟨p, 0, some 2⟩)) G4 = some { v := .slice (some ⟨q, 0, some c1.length⟩) c1.length 1, r := [p] } := ld_at p4 rfl rfl aggT22
      have l6 : stepLoad Try.prog 3 (.pointer (some ⟨q, k, some c1.length⟩)) G4 = some { v := .int .i64 (((byt c1 k + 1) / 2 : Nat) : Int), r := [q] } := by
        have := ldq q4 (i := k) (by rw [halfed_len hk]; exact hk)
        rw [halfed_at' hk, halfed_len hk] at this; exact this
      have hst := sum_take_succ (c := half c1) (k := k) (by rw [half_len]; exact hk)
      rw [half_at hk] at hst
      have hh := half_sum c1
      have hle := sum_take_le (half c1) (k + 1)
      have w5 : IntKind.i64.wrap ((((half c1).take k).sum : Nat) + (((byt c1 k + 1) / 2 : Nat) : Int)) = (((half c1).take (k + 1)).sum : Nat) := by rw [wrap_add (by omega), hst]
      refine region_drawn (id := 11) #[0, 1, 3, 7, 0, 16, 48, 112, 0, 496, 1008, 2047, 4095, 8191, 16383] (by decide +kernel) ?_
      refine d_readsB 14 (by simp) (by simp only [runR, List.take_succ_cons, List.take_zero, awant_none, astep, evl, put, upd_app, stepBin, abin, reduceCtorEq, ↓reduceIte, Nat.reduceEqDiff, List.isEmpty_nil, Bool.and_self, t0, t5, nchk, fld87_0, fld87_1, l4, l5, i1, l6, w5] <;> rfl) fun a1 ha1 => ?_
      refine d_last _ (by simp only [astep, evl, upd_app, ↓reduceIte, Nat.reduceEqDiff, undef, stp (q := q) p4] <;> rfl) rfl ha1 rfl ?_
      simp only [rangePost]
      refine ⟨by simp [upd_app, put, t40], by simp [upd_app, put, t39], fun _ _ _ => ⟨by simp [upd_app, put, t0], by simp [upd_app, put, t38], ?_, ?_, ?_⟩⟩
      · simp [ap_wr]
      · simp [ap_wr, upd_app, Ne.symm hne, q4]
      · intro i h1 h2; simp [ap_wr, upd_app, h1, o4 i h1 h2]
    · rintro t g n' ⟨t0, t38, hp, hq, ho⟩
      rw [List.take_of_length_le (by rw [half_len]; omega)] at hp
      rw [halfed_all] at hq
      refine s_run (by simp only [runL, awant_none, astep, evl, put, ap_none, List.length_nil, Nat.add_zero] <;> rfl) ?_
      refine w_ret ⟨.inr rfl, by simp, [], ?_⟩
      rw [hsaw]
      exact saw_fin h2 ⟨by rw [half_len]; exact hp, hq⟩ (by rw [half_len, hl1]) hwf (by simp [resVal]) ho
  · have d : decide (((c1.sum : Nat) : Int) > 65504) = false := decide_eq_false (by omega)
    rw [if_neg hbig] at hsaw
    refine w_assoc (s_run (by simp only [runL, awant_none, astep, evl, put, ap_none, List.length_nil, Nat.add_zero, upd_app, stepBin, abin, ↓reduceIte, t0, nchk, fld87_1, m2.ld1, d] <;> rfl) ?_)
    refine s_false (by simp [evl]) (s_skip ?_)
    refine s_run (by simp only [runL, awant_none, astep, evl, put, ap_none, List.length_nil, Nat.add_zero] <;> rfl) ?_
    refine w_ret ⟨.inr rfl, by simp, [], ?_⟩
    rw [hsaw]
    exact saw_fin h2 m2 hl1 hwf (by simp [resVal]) o2
end Go.Proofs.Ytahinegnblankaa
