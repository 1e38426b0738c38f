import Derived.Test.YtdpkhijbikbhnaaT6
namespace Go.Proofs.Ytdpkhijbikbhnaa
open Go Abs Plain
set_option linter.unusedSimpArgs false
set_option linter.unusedVariables false

/-- v is the whole of block k, which has the cells l. -/
def OwnB (e : TypeId) (g : Heap) (v : Value) (l : List Value) (k : Nat) : Prop := v = .slice (some ⟨k, 0, some l.length⟩) l.length 1 ∧ g k = some ⟨false, e, l⟩

theorem OwnB.src {e : TypeId} {g : Heap} {v : Value} {l : List Value} {k : Nat} (h : OwnB e g v l k) : Src g v 1 l.length l := by obtain ⟨rfl, h⟩ := h; exact src_cells h rfl
theorem OwnB.keep {e : TypeId} {g g' : Heap} {v : Value} {l : List Value} {k : Nat} (h : OwnB e g v l k) (hg : g' k = g k) : OwnB e g' v l k := ⟨h.1, by rw [hg]; exact h.2⟩
theorem OwnB.len {P : Program} {e T : TypeId} {g : Heap} {v : Value} {l : List Value} {k : Nat} (h : OwnB e g v l k) (ht : P.underlying T = some (.slice e)) : stepLen P T v = some { v := .int .i64 l.length } := h.src.len ht

section
variable {P : Program} {e T T' : TypeId} {g : Heap} {v y : Value} {l news : List Value} {k j : Nat} {zs : List Value} {bytes : Nat}

theorem OwnB.append (h : OwnB e g v l k) (hs : Src g y 1 news.length news) (ht : P.underlying T = some (.slice e)) (hti : tinf P e = some (zs, 1, bytes)) (hb1 : l.length + news.length ≤ 1099511627776) (hb2 : bytes ≤ 100) :
    ∃ f, stepAppend P T T v y g j = some f ∧ f.a = [] ∧ OwnB e (f.ap g) f.v (l ++ news) k ∧ ∀ q, q ≠ k → f.ap g q = g q := by
  obtain ⟨rfl, h⟩ := h
  have h1 : (l.length + news.length) * bytes ≤ 140737488355328 := by
    have : (l.length + news.length) * bytes ≤ 1099511627776 * 100 := Nat.mul_le_mul hb1 hb2
    omega
  refine ⟨{ v := .slice (some ⟨k, 0, some (l ++ news).length⟩) (l.length + news.length) 1, r := k :: srcBlk y, w := [(k, ⟨false, e, l ++ news⟩)] }, ?_, rfl, ⟨by simp, by simp [ap_wr]⟩, fun q hq => by rw [ap_wr, upd_ne _ _ hq]⟩
  simp only [stepAppend, if_true, ht, hti, hs.cells, rd, h]
  rw [if_pos ⟨trivial, trivial, trivial, trivial, by omega, by omega, by omega, h1⟩]

theorem OwnB.push {c : Value} (h : OwnB e g v l k) (hj : k ≠ j) (ht : P.underlying T = some (.slice e)) (hti : tinf P e = some (zs, 1, bytes)) (hb1 : l.length + 1 ≤ 1099511627776) (hb2 : bytes ≤ 100) :
    ∃ f, stepAppend P T T v (.slice (some ⟨j, 0, some 1⟩) 1 1) (upd g j (some ⟨false, e, [c]⟩)) (j + 1) = some f ∧ f.a = [] ∧ OwnB e (f.ap (upd g j (some ⟨false, e, [c]⟩))) f.v (l ++ [c]) k ∧ ∀ q, q ≠ k → q ≠ j → f.ap (upd g j (some ⟨false, e, [c]⟩)) q = g q := by
  have hs : Src (upd g j (some ⟨false, e, [c]⟩)) (.slice (some ⟨j, 0, some 1⟩) 1 1) 1 [c].length [c] := src_cells (ro := false) (e := e) (by simp) rfl
  obtain ⟨f, h1, h2, h3, h4⟩ := (h.keep (g' := upd g j (some ⟨false, e, [c]⟩)) (upd_ne _ _ hj)).append (P := P) (j := j + 1) hs ht hti hb1 hb2
  exact ⟨f, h1, h2, h3, fun q h5 h6 => by rw [h4 q h5, upd_ne _ _ h6]⟩

end
set_option maxRecDepth 10000 in
/-- Two rows of ints, compared. -/
theorem rints_spec (v w : Value) (l m : List Int) (g : Heap) (hl : l.length ≤ 2 ^ 40) (hm : m.length ≤ 2 ^ 40) (hv : Src g v 1 l.length (intsI l)) (hw : Src g w 1 m.length (intsI m)) :
    FnSpec Try.prog 9 [v, w] g { v := .bool (decide (l = m)), r := srcBlk v ++ srcBlk w } := by
  refine spec_of_body [4] follows Try.func9 rfl (by kernel_rfl) (by simp [Try.f9]) (by kernel_rfl) rfl ?_
  intro g2 s2 n hg hfr hs hn hwf hsv
  have hv2 : Src g2 v 1 l.length (intsI l) := hv.congr fun i hi => hg i (by simp [Eff.fp, hi])
  have hw2 : Src g2 w 1 m.length (intsI m) := hw.congr fun i hi => hg i (by simp [Eff.fp, hi])
  have hlen := hv2.len Try.underlying22
  have hlen' := hw2.len Try.underlying22
  refine s_run (by simp only [runL, awant_none, astep, evl, put, ap_none, List.length_nil, Nat.add_zero, undef] <;> rfl) ?_
  by_cases h0 : l.length = m.length
  · have d : ((l.length : Int) != (m.length : Int)) = false := by simp [h0]
    refine w_assoc (s_run (by simp only [runL, Option.getD_some, List.getElem?_cons_succ, List.getElem?_cons_zero, awant_none, astep, evl, put, ap_none, List.length_nil, Nat.add_zero, upd_app, stepBin, abin, stepCall, reduceCtorEq, ↓reduceIte, Nat.reduceEqDiff, hlen, hlen', d] <;> rfl) ?_)
    refine s_false (by simp [evl]) (s_skip ?_)
    refine w_assoc (s_run (by simp only [runL, awant_none, astep, evl, put, ap_none, List.length_nil, Nat.add_zero] <;> rfl) ?_)
    refine s_block (fun t g n' => l = m ∧ g2 = g) ?_ ?_
    · refine w_loop (fun t g n' => ∃ i : Nat, i ≤ l.length ∧ t 0 = v ∧ t 1 = w ∧ t 5 = .int .i64 i ∧ l.take i = m.take i ∧ g2 = g)
        (fun t _ _ => match t 5 with | .int _ i => l.length - i.toNat | _ => 0) ⟨0, by omega, by simp [upd_app], by simp [upd_app], by simp [], by simp, rfl⟩ ?_
      rintro t g n' ⟨i, hi, t0, t1, t5, heq, rfl⟩
      by_cases hlt : i < l.length
      · have d : decide ((i : Int) < (l.length : Int)) = true := by simp; exact hlt
        refine w_assoc (s_run (by simp only [runL, awant_none, astep, evl, put, ap_none, List.length_nil, Nat.add_zero, upd_app, stepBin, abin, stepCall, reduceCtorEq, ↓reduceIte, Nat.reduceEqDiff, t0, t5, hlen, d] <;> rfl) ?_)
        refine s_true (by simp [evl]) (s_skip (w_seq (w_block ?_)))
        have hlm : i < m.length := by omega
        obtain ⟨p, hp1, hp2, _⟩ := hv2.at1 (P := Try.prog) (i := i) (c := .int .i64 l[i]) (by simp [hlt]) Try.underlying22 tsize3 aggT3
        obtain ⟨q, hq1, hq2, _⟩ := hw2.at1 (P := Try.prog) (i := i) (c := .int .i64 m[i]) (by simp [hlm]) Try.underlying22 tsize3 aggT3
        have w2 : IntKind.i64.wrap ((i : Int) + 1) = ((i + 1 : Nat) : Int) := by rw [wrap64_of (by omega) (by omega)]; simp
        by_cases he : l[i] = m[i]
        · have d1 : (l[i] != m[i]) = false := by simp [he]
          refine s_draw #[0, 0, 3, 7, 0, 0, 48, 112, 255] (by decide +kernel) (by simp only [runR, awant_none, astep, evl, put, upd_app, stepBin, abin, reduceCtorEq, ↓reduceIte, Nat.reduceEqDiff, List.isEmpty_nil, Bool.and_self, t0, t1, t5, hp1, hp2, hq1, hq2, d1] <;> rfl) ?_
          refine w_false (by simp [evl]) (w_skip ?_)
          refine region_run (id := 5) (by simp only [runL, awant_none, astep, evl, put, ap_none, List.length_nil, Nat.add_zero, upd_app, stepBin, abin, ↓reduceIte, Nat.reduceEqDiff, t5, w2] <;> rfl) ?_
          refine ⟨⟨i + 1, by omega, by simp [upd_app, t0], by simp [upd_app, t1], by simp [], ?_, rfl⟩, ?_⟩
          · rw [List.take_succ_eq_append_getElem hlt, List.take_succ_eq_append_getElem hlm, heq, he]
          · rw [t5]
            simp only [upd_app, if_true, Int.toNat_natCast]
            omega
        · have d1 : (l[i] != m[i]) = true := by simp [he]
          refine s_draw #[0, 0, 3, 7, 0, 0, 48, 112, 255] (by decide +kernel) (by simp only [runR, awant_none, astep, evl, put, upd_app, stepBin, abin, reduceCtorEq, ↓reduceIte, Nat.reduceEqDiff, List.isEmpty_nil, Bool.and_self, t0, t1, t5, hp1, hp2, hq1, hq2, d1] <;> rfl) ?_
          refine w_true (by simp [evl]) ?_
          refine s_run (by simp only [runL, awant_none, astep, evl, put, ap_none, List.length_nil, Nat.add_zero] <;> rfl) ?_
          refine w_ret ⟨.inr rfl, by simp, [], fin_none ?_ trivial (fun _ _ h => h)⟩
          have : l ≠ m := fun e => he (by subst e; rfl)
          simp [resVal, this]
      · have d : decide ((i : Int) < (l.length : Int)) = false := by simp; omega
        refine w_assoc (s_run (by simp only [runL, awant_none, astep, evl, put, ap_none, List.length_nil, Nat.add_zero, upd_app, stepBin, abin, stepCall, reduceCtorEq, ↓reduceIte, Nat.reduceEqDiff, t0, t5, hlen, d] <;> rfl) ?_)
        refine s_false (by simp [evl]) (s_exit ?_)
        refine ⟨?_, rfl⟩
        rwa [List.take_of_length_le (by omega), List.take_of_length_le (by omega)] at heq
    · rintro t g n' ⟨h1, rfl⟩
      refine s_run (by simp only [runL, awant_none, astep, evl, put, ap_none, List.length_nil, Nat.add_zero] <;> rfl) ?_
      refine w_ret ⟨.inr rfl, by simp, [], fin_none ?_ trivial (fun _ _ h => h)⟩
      simp [resVal, h1]
  · have d : ((l.length : Int) != (m.length : Int)) = true := by simp; omega
    refine w_assoc (s_run (by simp only [runL, Option.getD_some, List.getElem?_cons_succ, List.getElem?_cons_zero, awant_none, astep, evl, put, ap_none, List.length_nil, Nat.add_zero, upd_app, stepBin, abin, stepCall, reduceCtorEq, ↓reduceIte, Nat.reduceEqDiff, hlen, hlen', d] <;> rfl) ?_)
    refine s_true (by simp [evl]) (w_assoc (s_run (by simp only [runL, awant_none, astep, evl, put, ap_none, List.length_nil, Nat.add_zero] <;> rfl) ?_))
    refine s_ret ⟨.inr rfl, by simp, [], fin_none ?_ trivial (fun _ _ h => h)⟩
    have : l ≠ m := fun e => h0 (by rw [e])
    simp [resVal, this]

set_option maxRecDepth 10000 in
theorem equal_spec (v w : Value) (l m : List Int) (g : Heap) (hl : l.length ≤ 2 ^ 40) (hm : m.length ≤ 2 ^ 40) (hv : Src g v 1 l.length (intsI l)) (hw : Src g w 1 m.length (intsI m)) :
    FnSpec Try.prog 30 [v, w] g { v := .bool (decide (l = m)), r := srcBlk v ++ srcBlk w } := by
  refine spec_of_body [4] follows Try.func30 rfl (by kernel_rfl) (by simp [Try.f30]) (by kernel_rfl) rfl ?_
  intro g2 s2 n hg hfr hs hn hwf hsv
  have hv2 : Src g2 v 1 l.length (intsI l) := hv.congr fun i hi => hg i (by simp [Eff.fp, hi])
  have hvd : ∀ i ∈ srcBlk v, i < n := dom_of hs hwf hv2
  have hw2 : Src g2 w 1 m.length (intsI m) := hw.congr fun i hi => hg i (by simp [Eff.fp, hi])
  have hwd : ∀ i ∈ srcBlk w, i < n := dom_of hs hwf hw2
  have hlen := hv2.len Try.underlying22
  have hlen' := hw2.len Try.underlying22
  clear hg hfr hn hv hw
  refine s_run (by simp only [runL, awant_none, astep, evl, put, ap_none, List.length_nil, Nat.add_zero, undef] <;> rfl) ?_
  by_cases h0 : ¬ l.length = m.length
  · have d : ((l.length : Int) != (m.length : Int)) = true := ine_t (by omega)
    refine w_assoc (s_run (by simp only [runL, Option.getD_some, List.getElem?_cons_succ, List.getElem?_cons_zero, awant_none, astep, evl, put, ap_none, List.length_nil, Nat.add_zero, upd_app, stepBin, abin, stepCall, reduceCtorEq, ↓reduceIte, Nat.reduceEqDiff, hlen, hlen', d] <;> rfl) ?_)
    refine s_true (by simp [evl]) (w_assoc (s_run (by simp only [runL, awant_none, astep, evl, put, ap_none, List.length_nil, Nat.add_zero] <;> rfl) ?_))
    refine s_ret ⟨.inr rfl, by simp, [], fin_none ?_ trivial (fun _ _ h => h)⟩
    have : l ≠ m := fun e => h0 (by rw [e])
    simp [resVal, this]
  replace h0 := Classical.not_not.1 h0
  have d : ((l.length : Int) != (m.length : Int)) = false := ine_f (by omega)
  refine w_assoc (s_run (by simp only [runL, Option.getD_some, List.getElem?_cons_succ, List.getElem?_cons_zero, awant_none, astep, evl, put, ap_none, List.length_nil, Nat.add_zero, upd_app, stepBin, abin, stepCall, reduceCtorEq, ↓reduceIte, Nat.reduceEqDiff, hlen, hlen', d] <;> rfl) ?_)
  refine s_false (by simp [evl]) (s_skip ?_)
  refine w_assoc (s_run (by simp only [runL, Option.getD_some, List.getElem?_cons_zero, awant_none, astep, evl, put, ap_none, List.length_nil, Nat.add_zero, upd_app, stepCall, reduceCtorEq, ↓reduceIte, hlen] <;> rfl) ?_)
  refine s_rng l.length (fun k t g n' => t 0 = v ∧ t 1 = w ∧ l.take k = m.take k ∧ g2 = g) (by omega) (by simp []) (by simp [upd_app])
    (fun _ => ⟨by simp [upd_app], by simp [upd_app], by simp, rfl⟩) (by decide) ?_ ?_
  · rintro k t g n' hk t13 t12 ⟨t0, t1, heq, hgg⟩
    subst hgg
    have hlm : k < m.length := by omega
    obtain ⟨p, i1, l1, _⟩ := srcI hv2 hk
    obtain ⟨q, i2, l2, _⟩ := srcI hw2 hlm
    refine s_run (by simp only [runL, awant_none, astep, evl, put, ap_none, List.length_nil, Nat.add_zero, upd_app, ↓reduceIte, t13] <;> rfl) ?_
    by_cases he : l[k] = m[k]
    · have d1 : (l[k] != m[k]) = false := ine_f he
      refine s_draw #[0, 0, 3, 7, 0, 0, 48, 112, 255] (by decide +kernel) (by simp only [runR, awant_none, astep, evl, put, upd_app, stepBin, abin, reduceCtorEq, ↓reduceIte, Nat.reduceEqDiff, List.isEmpty_nil, Bool.and_self, t0, t1, i1, l1, i2, l2, d1] <;> rfl) ?_
      refine w_false (by simp [evl]) (w_skip ?_)
      simp only [rngPost]
      refine ⟨by simp [upd_app, t13], by simp [upd_app, t12], fun _ _ _ => ⟨by simp [upd_app, t0], by simp [upd_app, t1], ?_, trivial⟩⟩
      rw [List.take_succ_eq_append_getElem hk, List.take_succ_eq_append_getElem hlm, heq, he]
    · have d1 : (l[k] != m[k]) = true := ine_t he
      refine s_draw #[0, 0, 3, 7, 0, 0, 48, 112, 255] (by decide +kernel) (by simp only [runR, awant_none, astep, evl, put, upd_app, stepBin, abin, reduceCtorEq, ↓reduceIte, Nat.reduceEqDiff, List.isEmpty_nil, Bool.and_self, t0, t1, i1, l1, i2, l2, d1] <;> rfl) ?_
      refine w_true (by simp [evl]) (s_run (by simp only [runL, awant_none, astep, evl, put, ap_none, List.length_nil, Nat.add_zero] <;> rfl) ?_)
      refine w_ret ?_
      have : l ≠ m := fun e => he (by subst e; rfl)
      exact ⟨.inr rfl, by simp, [], fin_none (by simp [resVal, this]) trivial (fun _ _ h => h)⟩
  · rintro t g n' ⟨t0, t1, heq, hgg⟩
    subst hgg
    rw [List.take_of_length_le (by omega), List.take_of_length_le (by omega)] at heq
    refine s_run (by simp only [runL, awant_none, astep, evl, put, ap_none, List.length_nil, Nat.add_zero] <;> rfl) ?_
    exact w_ret ⟨.inr rfl, by simp, [], fin_none (by simp [resVal, heq]) trivial (fun _ _ h => h)⟩
end Go.Proofs.Ytdpkhijbikbhnaa
