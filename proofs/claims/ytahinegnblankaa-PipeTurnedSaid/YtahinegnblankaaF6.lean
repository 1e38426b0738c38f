import Derived.Test.YtahinegnblankaaF5
namespace Go.Proofs.Ytahinegnblankaa
open Go Abs
set_option linter.unusedSimpArgs false
set_option linter.unusedVariables false

/-- v is the whole of block k, which has the cells l. -/
def OwnB (e : TypeId) (g : Heap) (v : Value) (l : List Value) (k : Nat) : Prop := v = .slice (some ⟨k, 0, some l.length⟩) l.length 1 ∧ g k = some ⟨false, e, l⟩

theorem OwnB.src {e : TypeId} {g : Heap} {v : Value} {l : List Value} {k : Nat} (h : OwnB e g v l k) : Src g v 1 l.length l := by obtain ⟨rfl, h⟩ := h; exact src_cells h rfl
theorem OwnB.keep {e : TypeId} {g g' : Heap} {v : Value} {l : List Value} {k : Nat} (h : OwnB e g v l k) (hg : g' k = g k) : OwnB e g' v l k := ⟨h.1, by rw [hg]; exact h.2⟩
theorem OwnB.len {P : Program} {e T : TypeId} {g : Heap} {v : Value} {l : List Value} {k : Nat} (h : OwnB e g v l k) (ht : P.underlying T = some (.slice e)) : stepLen P T v = some { v := .int .i64 l.length } := h.src.len ht

section
variable {P : Program} {e T T' : TypeId} {g : Heap} {v y : Value} {l news : List Value} {k j : Nat} {zs : List Value} {bytes : Nat}

theorem OwnB.append (h : OwnB e g v l k) (hs : Src g y 1 news.length news) (ht : P.underlying T = some (.slice e)) (hti : tinf P e = some (zs, 1, bytes)) (hb1 : l.length + news.length ≤ 1099511627776) (hb2 : bytes ≤ 100) :
    ∃ f, stepAppend P T T v y g j = some f ∧ f.a = [] ∧ OwnB e (f.ap g) f.v (l ++ news) k ∧ ∀ q, q ≠ k → f.ap g q = g q := by
  obtain ⟨rfl, h⟩ := h
  have h1 : (l.length + news.length) * bytes ≤ 140737488355328 := by
    have : (l.length + news.length) * bytes ≤ 1099511627776 * 100 := Nat.mul_le_mul hb1 hb2
    omega
  refine ⟨{ v := .slice (some ⟨k, 0, some (l ++ news).length⟩) (l.length + news.length) 1, r := k :: srcBlk y, w := [(k, ⟨false, e, l ++ news⟩)] }, ?_, rfl, ⟨by simp, by simp [ap_wr]⟩, fun q hq => by rw [ap_wr, upd_ne _ _ hq]⟩
  simp only [stepAppend, if_true, ht, hti, hs.cells, rd, h]
  rw [if_pos ⟨trivial, trivial, trivial, trivial, by omega, by omega, by omega, h1⟩]

theorem OwnB.push {c : Value} (h : OwnB e g v l k) (hj : k ≠ j) (ht : P.underlying T = some (.slice e)) (hti : tinf P e = some (zs, 1, bytes)) (hb1 : l.length + 1 ≤ 1099511627776) (hb2 : bytes ≤ 100) :
    ∃ f, stepAppend P T T v (.slice (some ⟨j, 0, some 1⟩) 1 1) (upd g j (some ⟨false, e, [c]⟩)) (j + 1) = some f ∧ f.a = [] ∧ OwnB e (f.ap (upd g j (some ⟨false, e, [c]⟩))) f.v (l ++ [c]) k ∧ ∀ q, q ≠ k → q ≠ j → f.ap (upd g j (some ⟨false, e, [c]⟩)) q = g q := by
  have hs : Src (upd g j (some ⟨false, e, [c]⟩)) (.slice (some ⟨j, 0, some 1⟩) 1 1) 1 [c].length [c] := src_cells (ro := false) (e := e) (by simp) rfl
  obtain ⟨f, h1, h2, h3, h4⟩ := (h.keep (g' := upd g j (some ⟨false, e, [c]⟩)) (upd_ne _ _ hj)).append (P := P) (j := j + 1) hs ht hti hb1 hb2
  exact ⟨f, h1, h2, h3, fun q h5 h6 => by rw [h4 q h5, upd_ne _ _ h6]⟩

theorem OwnB.zeros {z : Value} {q kt : IntKind} {m : Nat} (h : OwnB e g v l k) (ht : P.underlying T = some (.slice e)) (ht' : P.underlying T' = some (.int kt)) (hti : tinf P e = some ([z], 1, bytes)) (hm : 0 < m) (hb1 : l.length + m ≤ 1099511627776) (hb2 : bytes ≤ 100) :
    ∃ f, stepZeros P T T' v (.int q m) g = some f ∧ f.a = [] ∧ OwnB e (f.ap g) f.v (l ++ List.replicate m z) k ∧ ∀ q, q ≠ k → f.ap g q = g q := by
  obtain ⟨rfl, h⟩ := h
  have h1 : (l.length + m) * bytes ≤ 140737488355328 := by
    have : (l.length + m) * bytes ≤ 1099511627776 * 100 := Nat.mul_le_mul hb1 hb2
    omega
  refine ⟨{ v := .slice (some ⟨k, 0, some (l.length + m)⟩) (l.length + m) 1, r := [k], w := [(k, ⟨false, e, l ++ List.replicate m z⟩)] }, ?_, rfl, ⟨by simp, by simp [ap_wr]⟩, fun q hq => by rw [ap_wr, upd_ne _ _ hq]⟩
  simp only [stepZeros, ht, ht', hti, rd, h, if_true, Int.toNat_natCast]
  rw [if_pos ⟨trivial, trivial, trivial, trivial, trivial, by omega, by omega, h1⟩]
end

/-- Symbols as bytes, at most some; power: of the next digit. -/
def rback : List Int → Nat → List Nat → Nat → Option (List Nat)
  | [], _, b, _ => some b
  | x :: l, most, b, p =>
    if x < 0 ∨ 257 ≤ x then none
    else if 2 ≤ x then (if most < b.length + 1 then none else rback l most (b ++ [(x - 1).toNat]) 1)
    else (if most < p ∨ most < b.length + (x + 1).toNat * p then none else rback l most (b ++ List.replicate ((x + 1).toNat * p) 0) (p * 2))

theorem rback_lt {l : List Int} {most : Nat} : ∀ {b : List Nat} {p : Nat} {out : List Nat}, rback l most b p = some out → (∀ x ∈ b, x < 256) → ∀ x ∈ out, x < 256 := by
  induction l with
  | nil => intro b p out h hb; simp [rback] at h; subst h; exact hb
  | cons x l ih =>
    intro b p out h hb
    rw [rback] at h
    split at h
    · cases h
    · split at h
      · split at h
        · cases h
        · refine ih h fun y hy => ?_
          simp at hy
          rcases hy with hy | rfl
          · exact hb y hy
          · omega
      · split at h
        · cases h
        · refine ih h fun y hy => ?_
          simp at hy
          rcases hy with hy | hy
          · exact hb y hy
          · omega

theorem rback_len {l : List Int} {most : Nat} : ∀ {b : List Nat} {p : Nat} {out : List Nat}, rback l most b p = some out → b.length ≤ most → out.length ≤ most := by
  induction l with
  | nil => intro b p out h hb; simp [rback] at h; subst h; exact hb
  | cons x l ih =>
    intro b p out h hb
    rw [rback] at h
    split at h
    · cases h
    · split at h
      · split at h
        · cases h
        · exact ih h (by simp; omega)
      · split at h
        · cases h
        · exact ih h (by simp; omega)

/-- What Back answers. -/
def backE (o : Option (List Nat)) (r : List Nat) (j : Nat) : Eff := match o with
  | none => { v := .tuple #[.slice none 0 0, .bool false], r := r, j := j }
  | some b => { v := .tuple #[.slice (some ⟨j, 0, some b.length⟩) b.length 1, .bool true], r := r, j := j, a := [⟨false, 5, bs b⟩] }

theorem backE_r (o : Option (List Nat)) (r : List Nat) (j : Nat) : (backE o r j).r = r := by cases o <;> rfl
theorem backE_w (o : Option (List Nat)) (r : List Nat) (j : Nat) : (backE o r j).w = [] := by cases o <;> rfl
theorem backE_j (o : Option (List Nat)) (r : List Nat) (j : Nat) : (backE o r j).j = j := by cases o <;> rfl
theorem backE_fp (o : Option (List Nat)) (r : List Nat) (j : Nat) : (backE o r j).fp = r := by simp [Eff.fp, backE_r, backE_w]
theorem fits_zero (n : Nat) : (0 : Int) ≤ (n : Int) := Int.natCast_nonneg n

set_option maxRecDepth 10000 in
theorem back_spec (v : Value) (l : List Int) (most : Int) (g : Heap) (j : Nat) (hl : l.length ≤ 2 ^ 38) (hm : most ≤ 2 ^ 30) (hv : Src g v 1 l.length (l.map (Value.int .i64))) :
    FnSpec Try.prog 37 [v, .int .i64 most] g (backE (if most < 0 then none else rback l most.toNat [] 1) (srcBlk v) j) := by
  refine spec_of_body [4, 5] follows Try.func37 rfl (by kernel_rfl) (by simp [Try.f37]) (by kernel_rfl) rfl ?_
  intro g2 s2 n hg hfr hs hn hwf hsv
  rw [backE_fp] at hg
  have hv2 : Src g2 v 1 l.length (l.map (Value.int .i64)) := hv.congr fun i hi => hg i hi
  have hlen := hv2.len Try.underlying22
  have hdom : ∀ i ∈ srcBlk v, i < n := fun i hi => by
    obtain ⟨b, hb⟩ := Option.isSome_iff_exists.1 (hv2.dom i hi)
    exact hs i (hwf i b hb).1
  -- the ways out
  have outNone : ∀ {t : Nat → Value} {g : Heap} {m : Nat}, t 4 = .slice none 0 0 → t 5 = .bool false → Kp n g2 g → (if most < 0 then none else rback l most.toNat [] 1) = none →
      ((Exit.ret = .normal ∨ Exit.ret = .ret) ∧ (([4, 5] : List Tmp).length ≠ 1 → ∀ r ∈ ([4, 5] : List Tmp), isTup (t r) = false) ∧ ∃ ids, Abs.Fin (backE (if most < 0 then none else rback l most.toNat [] 1) (srcBlk v) j) ids s2 g2 n g (resVal [4, 5] t)) := by
    intro t g m h4 h5 hk ho
    rw [ho]
    refine ⟨.inr rfl, fun _ r hr => ?_, [], fin_plain hs hwf hk ?_ (by intro c hc; simp at hc; rcases hc with rfl | rfl <;> trivial)⟩
    · simp at hr
      rcases hr with rfl | rfl
      · rw [h4]; rfl
      · rw [h5]; rfl
    · simp [resVal, h4, h5]
  refine s_run (by simp only [runL, awant_none, astep, evl, put, ap_none, List.length_nil, Nat.add_zero, undef] <;> rfl) ?_
  by_cases hneg : most < 0
  · have d : decide (most < 0) = true := decide_eq_true hneg
    refine w_assoc (s_run (by simp only [runL, Option.getD_some, List.getElem?_cons_succ, List.getElem?_cons_zero, awant_none, astep, evl, put, ap_none, List.length_nil, Nat.add_zero, upd_app, stepBin, abin, ↓reduceIte, Nat.reduceEqDiff, d] <;> rfl) ?_)
    refine s_true (by simp [evl]) (w_assoc (s_run (by simp only [runL, awant_none, astep, evl, put, ap_none, List.length_nil, Nat.add_zero] <;> rfl) (s_ret ?_)))
    exact outNone (m := 0) (by simp [upd_app]) (by simp []) (Kp.refl _ _) (by simp [hneg])
  have d : decide (most < 0) = false := decide_eq_false hneg
  rw [if_neg hneg] at outNone ⊢
  obtain ⟨m, rfl⟩ : ∃ m : Nat, most = m := ⟨most.toNat, by omega⟩
  rw [Int.toNat_natCast] at outNone ⊢
  refine w_assoc (s_run (by simp only [runL, Option.getD_some, List.getElem?_cons_succ, List.getElem?_cons_zero, awant_none, astep, evl, put, ap_none, List.length_nil, Nat.add_zero, upd_app, stepBin, abin, ↓reduceIte, Nat.reduceEqDiff, d] <;> rfl) ?_)
  refine s_false (by simp [evl]) (s_skip ?_)
  refine s_run (by simp only [runL, awant_none, astep, evl, put, ap_none, ap_new, List.length_nil, List.length_cons, Nat.add_zero, Nat.zero_add, upd_app, ↓reduceIte, List.map_nil, undef, lit24_0] <;> rfl) ?_
  refine s_run (by simp only [runL, awant_none, astep, evl, put, ap_none, List.length_nil, Nat.add_zero] <;> rfl) ?_
  refine w_assoc (s_run (by simp only [runL, Option.getD_some, List.getElem?_cons_zero, awant_none, astep, evl, put, ap_none, List.length_nil, Nat.add_zero, upd_app, stepCall, reduceCtorEq, ↓reduceIte, hlen] <;> rfl) ?_)
  refine s_rng l.length (fun k t g n' => ∃ (b : List Nat) (p : Nat), rback (l.drop k) m b p = rback l m [] 1 ∧ b.length ≤ m ∧ 1 ≤ p ∧ p ≤ 2 * m + 1 ∧ t 14 = v ∧ t 1 = .int .i64 m ∧ t 7 = .int .i64 p ∧ OwnB 5 g (t 6) (bs b) n ∧ Kp n g2 g ∧ n < n') (by omega) (by simp []) (by simp [upd_app])
    (fun x => ⟨[], 1, by simp, by simp, by omega, by omega, by simp [upd_app], by simp [upd_app], by simp [upd_app], by simp [OwnB, upd_app], kp_upd (Kp.refl _ _) (Nat.le_refl _), by omega⟩) (by decide) ?_ ?_
  · rintro k t g n' hk t16 t15 ⟨b, p, ho, hbm, hp1, hp2, t14, t1, t7, hO, hkp, hnn⟩
    have hvg := hkp.src hv2 hdom
    obtain ⟨pa, i1, i2, _⟩ := hvg.at1 (P := Try.prog) (i := k) (c := .int .i64 l[k]) (by simp [hk]) Try.underlying22 tsize3 aggT3
    rw [List.drop_eq_getElem_cons hk] at ho
    generalize l[k] = x at i2 ho
    refine s_run (by simp only [runL, awant_none, astep, evl, put, ap_none, List.length_nil, Nat.add_zero, upd_app, ↓reduceIte, t14, t16, i1, i2] <;> rfl) ?_
    refine w_gen (fun t => t 16 = .int .i64 k ∧ t 15 = .int .i64 l.length ∧ t 14 = v ∧ t 1 = .int .i64 m ∧ t 7 = .int .i64 p ∧ t 9 = .int .i64 x ∧ OwnB 5 g (t 6) (bs b) n) (by simp [upd_app, t16, t15, t14, t1, t7, hO]) ?_
    clear t16 t15 t14 t1 t7 hO
    rintro t ⟨t16, t15, t14, t1, t7, t9, hO⟩
    refine w_seq (w_block ?_)
    rw [rback] at ho
    by_cases c1 : x < 0
    · have e1 : decide (x < 0) = true := decide_eq_true c1
      refine s_run (by simp only [runL, awant_some, List.getElem?_toArray, List.getElem?_cons_succ, List.getElem?_cons_zero, Option.bind_some, b_tf, awant_none, astep, evl, put, ap_none, List.length_nil, Nat.add_zero, upd_app, stepBin, abin, stepPick, ↓reduceIte, Nat.reduceEqDiff, undef, t9, e1] <;> rfl) ?_
      refine w_true (by simp [evl]) (s_run (by simp only [runL, awant_none, astep, evl, put, ap_none, List.length_nil, Nat.add_zero] <;> rfl) ?_)
      refine w_ret (outNone (m := 0) (by simp [upd_app]) (by simp []) hkp ?_)
      rw [← ho, if_pos (.inl c1)]
    have e1 : decide (x < 0) = false := decide_eq_false c1
    by_cases c2 : 257 ≤ x
    · have e2 : decide (x ≥ 257) = true := decide_eq_true c2
      refine s_run (by simp only [runL, awant_some, List.getElem?_toArray, List.getElem?_cons_succ, List.getElem?_cons_zero, Option.bind_some, b_ff, awant_none, astep, evl, put, ap_none, List.length_nil, Nat.add_zero, upd_app, stepBin, abin, stepPick, ↓reduceIte, Nat.reduceEqDiff, Bool.false_eq_true, t9, e1, e2] <;> rfl) ?_
      refine w_true (by simp [evl]) (s_run (by simp only [runL, awant_none, astep, evl, put, ap_none, List.length_nil, Nat.add_zero] <;> rfl) ?_)
      refine w_ret (outNone (m := 0) (by simp [upd_app]) (by simp []) hkp ?_)
      rw [← ho, if_pos (.inr c2)]
    have e2 : decide (x ≥ 257) = false := decide_eq_false c2
    rw [if_neg (by omega)] at ho
    obtain ⟨u, rfl⟩ : ∃ u : Nat, x = u := ⟨x.toNat, by omega⟩
    refine s_run (by simp only [runL, awant_some, List.getElem?_toArray, List.getElem?_cons_succ, List.getElem?_cons_zero, Option.bind_some, b_ff, awant_none, astep, evl, put, ap_none, List.length_nil, Nat.add_zero, upd_app, stepBin, abin, stepPick, ↓reduceIte, Nat.reduceEqDiff, Bool.false_eq_true, t9, e1, e2] <;> rfl) ?_
    refine w_false (by simp [evl]) ?_
    by_cases c3 : 2 ≤ u
    · have e3 : decide ((u : Int) ≥ 2) = true := decide_eq_true (by omega)
      have w1 : IntKind.i64.wrap ((u : Int) - 1) = ((u - 1 : Nat) : Int) := wrap_sub1 (by omega) (by omega)
      have w2 : IntKind.u8.wrap ((u - 1 : Nat) : Int) = ((u - 1 : Nat) : Int) := wrap8_of (by omega)
      rw [if_pos (by omega), show ((u : Int) - 1).toNat = u - 1 by omega] at ho
      refine s_run (by simp only [runL, awant_none, astep, evl, put, ap_none, List.length_nil, Nat.add_zero, upd_app, stepBin, abin, ↓reduceIte, Nat.reduceEqDiff, t9, e3] <;> rfl) ?_
      refine w_true (by simp [evl]) ?_
      have hO1 : OwnB 5 g (t 6) (bs b) n := hO
      obtain ⟨f, hf, hfa, hO', hk'⟩ := hO1.push (P := Try.prog) (T := 24) (j := n') (c := .int .u8 ((u - 1 : Nat) : Int)) (by omega) Try.underlying24 tinf5 (by simp; omega) (by omega)
      refine s_run (by simp only [runL, awant_none, astep, evl, put, ap_none, ap_new, List.length_nil, List.length_cons, Nat.add_zero, Nat.zero_add, upd_app, stepBin, abin, stepCall, ↓reduceIte, Nat.reduceEqDiff, List.map_cons, List.map_nil, undef, t9, w1, conv3_5, w2, lit24_1, hf] <;> rfl) ?_
      refine region_run (id := 17) (by simp only [runL, awant_none, astep, evl, put, ap_none, List.length_nil, Nat.add_zero] <;> rfl) ?_
      have hb2 : bs b ++ [Value.int .u8 ((u - 1 : Nat) : Int)] = bs (b ++ [u - 1]) := by simp
      rw [hb2] at hO'
      have hlb := hO'.len (P := Try.prog) Try.underlying24
      rw [show (bs (b ++ [u - 1])).length = b.length + 1 by simp] at hlb
      have hkp' : Kp n g2 (f.ap (upd g n' (some ⟨false, 5, [.int .u8 ((u - 1 : Nat) : Int)]⟩))) := fun q hq => by rw [hk' q (by omega) (by omega), hkp q hq]
      by_cases c4 : m < b.length + 1
      · have e4 : decide (((b.length + 1 : Nat) : Int) > (m : Int)) = true := decide_eq_true (by omega)
        simp only [ainBlock, athen]
        refine s_run (by simp only [runL, awant_none, astep, evl, put, ap_none, List.length_nil, Nat.add_zero, upd_app, stepBin, abin, stepCall, ↓reduceIte, Nat.reduceEqDiff, t1, hlb, e4] <;> rfl) ?_
        refine w_true (by simp [evl]) (s_run (by simp only [runL, awant_none, astep, evl, put, ap_none, List.length_nil, Nat.add_zero] <;> rfl) ?_)
        refine w_ret (outNone (m := 0) (by simp [upd_app]) (by simp []) hkp' ?_)
        rw [← ho, if_pos c4]
      · have e4 : decide (((b.length + 1 : Nat) : Int) > (m : Int)) = false := decide_eq_false (by omega)
        simp only [ainBlock, athen]
        refine s_run (by simp only [runL, awant_none, astep, evl, put, ap_none, List.length_nil, Nat.add_zero, upd_app, stepBin, abin, stepCall, ↓reduceIte, Nat.reduceEqDiff, t1, hlb, e4] <;> rfl) ?_
        refine w_false (by simp [evl]) (w_skip ?_)
        rw [if_neg c4] at ho
        simp only [rangePost]
        refine ⟨by simp [upd_app, t16], by simp [upd_app, t15], fun _ _ _ => ⟨b ++ [u - 1], 1, ho, by simp; omega, by omega, by omega, by simp [upd_app, t14], by simp [upd_app, t1], by simp [upd_app], by simpa [upd_app] using hO', hkp', by omega⟩⟩
    · have e3 : decide ((u : Int) ≥ 2) = false := decide_eq_false (by omega)
      have hup : (u + 1) * p ≤ 2 * (2 * 2 ^ 30 + 1) := Nat.mul_le_mul (by omega) (by omega)
      have w1 : IntKind.i64.wrap ((u : Int) + 1) = ((u + 1 : Nat) : Int) := wrap_succ (by omega)
      have w2 : IntKind.i64.wrap (((u + 1 : Nat) : Int) * (p : Int)) = (((u + 1) * p : Nat) : Int) := by rw [← Int.natCast_mul]; exact wrap_nat (by omega)
      rw [if_neg (by omega), show ((u : Int) + 1).toNat = u + 1 by omega] at ho
      refine s_run (by simp only [runL, awant_none, astep, evl, put, ap_none, List.length_nil, Nat.add_zero, upd_app, stepBin, abin, ↓reduceIte, Nat.reduceEqDiff, t9, e3] <;> rfl) ?_
      refine w_false (by simp [evl]) ?_
      refine s_run (by simp only [runL, awant_none, astep, evl, put, ap_none, List.length_nil, Nat.add_zero, upd_app, stepBin, abin, ↓reduceIte, Nat.reduceEqDiff, t9, t7, w1, w2] <;> rfl) ?_
      have hlb := hO.len (P := Try.prog) Try.underlying24
      rw [show (bs b).length = b.length by simp] at hlb
      have w3 : IntKind.i64.wrap ((m : Int) - (b.length : Int)) = ((m - b.length : Nat) : Int) := wrap_sub hbm (by omega)
      refine w_gen (fun t => t 16 = .int .i64 k ∧ t 15 = .int .i64 l.length ∧ t 14 = v ∧ t 1 = .int .i64 m ∧ t 7 = .int .i64 p ∧ t 10 = .int .i64 ((u + 1) * p : Nat) ∧ OwnB 5 g (t 6) (bs b) n ∧ stepLen Try.prog 24 (t 6) = some { v := .int .i64 b.length }) (by simp only [upd_app]; simp [t16, t15, t14, t1, t7, hO, hlb]) ?_
      clear t16 t15 t14 t1 t7 t9 hO hlb
      rintro t ⟨t16, t15, t14, t1, t7, t10, hO, hlb⟩
      by_cases c4 : m < p
      · have e4 : decide ((p : Int) > (m : Int)) = true := decide_eq_true (by omega)
        refine w_assoc (s_run (by simp only [runL, awant_some, List.getElem?_toArray, List.getElem?_cons_succ, List.getElem?_cons_zero, Option.bind_some, b_tf, awant_none, astep, evl, put, ap_none, List.length_nil, Nat.add_zero, upd_app, stepBin, abin, stepPick, ↓reduceIte, Nat.reduceEqDiff, undef, t7, t1, e4] <;> rfl) ?_)
        refine s_true (by simp [evl]) (w_assoc (s_run (by simp only [runL, awant_none, astep, evl, put, ap_none, List.length_nil, Nat.add_zero] <;> rfl) (s_ret ?_)))
        refine outNone (m := 0) (by simp [upd_app]) (by simp []) hkp ?_
        rw [← ho, if_pos (.inl c4)]
      have e4 : decide ((p : Int) > (m : Int)) = false := decide_eq_false (by omega)
      by_cases c5 : m < b.length + (u + 1) * p
      · have e5 : decide ((((u + 1) * p : Nat) : Int) > ((m - b.length : Nat) : Int)) = true := decide_eq_true (by omega)
        refine w_assoc (s_run (by simp only [runL, awant_some, List.getElem?_toArray, List.getElem?_cons_succ, List.getElem?_cons_zero, Option.bind_some, b_ff, awant_none, astep, evl, put, ap_none, List.length_nil, Nat.add_zero, upd_app, stepBin, abin, stepPick, stepCall, ↓reduceIte, Nat.reduceEqDiff, Bool.false_eq_true, t7, t1, t10, e4, hlb, w3, e5] <;> rfl) ?_)
        refine s_true (by simp [evl]) (w_assoc (s_run (by simp only [runL, awant_none, astep, evl, put, ap_none, List.length_nil, Nat.add_zero] <;> rfl) (s_ret ?_)))
        refine outNone (m := 0) (by simp [upd_app]) (by simp []) hkp ?_
        rw [← ho, if_pos (.inr c5)]
      have e5 : decide ((((u + 1) * p : Nat) : Int) > ((m - b.length : Nat) : Int)) = false := decide_eq_false (by omega)
      rw [if_neg (by omega)] at ho
      refine w_assoc (s_run (by simp only [runL, awant_some, List.getElem?_toArray, List.getElem?_cons_succ, List.getElem?_cons_zero, Option.bind_some, b_ff, awant_none, astep, evl, put, ap_none, List.length_nil, Nat.add_zero, upd_app, stepBin, abin, stepPick, stepCall, ↓reduceIte, Nat.reduceEqDiff, Bool.false_eq_true, t7, t1, t10, e4, hlb, w3, e5] <;> rfl) ?_)
      refine s_false (by simp [evl]) (s_skip ?_)
      have hpos : 0 < (u + 1) * p := Nat.mul_pos (by omega) hp1
      obtain ⟨f, hf, hfa, hO', hk'⟩ := hO.zeros (P := Try.prog) (T := 24) (T' := 3) (q := .i64) (m := (u + 1) * p) Try.underlying24 Try.underlying3 tinf5 hpos (by simp; omega) (by omega)
      have w4 : IntKind.i64.wrap ((p : Int) * 2) = ((p * 2 : Nat) : Int) := by rw [wrap64_of (by omega) (by omega)]; simp
      refine s_run (by simp only [runL, awant_none, astep, evl, put, ap_none, List.length_nil, Nat.add_zero, upd_app, stepCall, ↓reduceIte, Nat.reduceEqDiff, t10, hf] <;> rfl) ?_
      refine region_run (id := 12) (by simp only [runL, awant_none, astep, evl, put, ap_none, List.length_nil, Nat.add_zero, upd_app, stepBin, abin, ↓reduceIte, Nat.reduceEqDiff, t7, w4] <;> rfl) ?_
      have hb2 : bs b ++ List.replicate ((u + 1) * p) (Value.int .u8 0) = bs (b ++ List.replicate ((u + 1) * p) 0) := by simp
      rw [hb2] at hO'
      have hlb' := hO'.len (P := Try.prog) Try.underlying24
      rw [show (bs (b ++ List.replicate ((u + 1) * p) 0)).length = b.length + (u + 1) * p by simp] at hlb'
      have hkp' : Kp n g2 (f.ap g) := fun q hq => by rw [hk' q (by omega), hkp q hq]
      have e6 : decide (((b.length + (u + 1) * p : Nat) : Int) > (m : Int)) = false := decide_eq_false (by omega)
      simp only [ainBlock, athen]
      refine s_run (by simp only [runL, awant_none, astep, evl, put, ap_none, List.length_nil, Nat.add_zero, upd_app, stepBin, abin, stepCall, ↓reduceIte, Nat.reduceEqDiff, t1, hlb', e6] <;> rfl) ?_
      refine w_false (by simp [evl]) (w_skip ?_)
      simp only [rangePost]
      refine ⟨by simp [upd_app, t16], by simp [upd_app, t15], fun _ _ _ => ⟨b ++ List.replicate ((u + 1) * p) 0, p * 2, ho, by simp; omega, by omega, by omega, by simp [upd_app, t14], by simp [upd_app, t1], by simp [upd_app], by simpa [upd_app] using hO', hkp', by omega⟩⟩
  · rintro t g n' ⟨b, p, ho, hbm, hp1, hp2, t14, t1, t7, hO, hkp, hnn⟩
    rw [List.drop_length, rback] at ho
    refine s_run (by simp only [runL, awant_none, astep, evl, put, ap_none, List.length_nil, Nat.add_zero, upd_app, ↓reduceIte] <;> rfl) ?_
    rw [← ho]
    obtain ⟨h6, hgn⟩ := hO
    have hbl : (bs b).length = b.length := by simp
    refine w_ret ⟨.inr rfl, fun _ r hr => ?_, [n], ?_⟩
    · simp at hr
      rcases hr with rfl | rfl
      · simp [upd_app, h6, isTup]
      · simp [isTup]
    · refine fin_one ?_ ?_ (Nat.le_refl _) hgn (plain_bs _) (fun i b' hb' => hkp.at (hs i (hwf i b' hb').1) hb')
      · simp [resVal, upd_app, renT, renA, ren1, h6]
      · intro c hc
        simp at hc
        rcases hc with rfl | rfl
        · exact .inr (.inr rfl)
        · trivial
end Go.Proofs.Ytahinegnblankaa
