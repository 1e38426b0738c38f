import Derived.Test.YtahinegnblankaaP2
namespace Go.Proofs.Ytahinegnblankaa
open Go Abs
set_option linter.unusedSimpArgs false
set_option linter.unusedVariables false

/-- What was done so far in a statement whose order is open: it wrote blocks from lo on alone, and all lies below hi. -/
def AccB (lo hi idx : Nat) (acc : List FP) : Prop := ∀ p ∈ acc, p.1 < idx ∧ (∀ x ∈ p.2.2, lo ≤ x ∧ x < hi) ∧ ∀ x ∈ p.2.1, x < hi

theorem AccB.nil (lo hi idx : Nat) : AccB lo hi idx [] := by intro p hp; simp at hp
theorem AccB.le {lo hi idx lo' hi' idx' : Nat} {acc : List FP} (h : AccB lo hi idx acc) (h1 : lo' ≤ lo) (h2 : hi ≤ hi') (h3 : idx ≤ idx') : AccB lo' hi' idx' acc := fun p hp => by
  obtain ⟨a, b, c⟩ := h p hp
  exact ⟨by omega, fun x hx => by have := b x hx; omega, fun x hx => by have := c x hx; omega⟩

section
variable {P : Program} {ops : Array Oper} {bf : Array Nat} {K : (Nat → Value) → Heap → Nat → Prop} {o : Oper} {rest : List Oper} {idx lo hi : Nat} {acc : List FP} {t : Nat → Value} {g : Heap} {n : Nat}

theorem AccB.cons (ha : AccB lo hi idx acc) {r w : List Nat} (hr : ∀ x ∈ r, x < hi) (hw : ∀ x ∈ w, lo ≤ x ∧ x < hi) : AccB lo hi (idx + 1) ((idx, r, w) :: acc) := by
  intro p hp
  rcases List.mem_cons.1 hp with rfl | hp
  · exact ⟨by omega, hw, hr⟩
  · obtain ⟨a, b, c⟩ := ha p hp
    exact ⟨by omega, b, c⟩

/-- An operation that reads blocks below lo. -/
theorem d_low (f : Eff) (h : astep P o.op (evl t) g n = some f) (hw : awant ops o t = some true) (ha : AccB lo hi idx acc) (hr : ∀ x ∈ f.r, x < lo) (h1 : f.w = []) (h2 : f.a = []) (hlh : lo ≤ hi)
    (hk : ∀ acc', AccB lo hi (idx + 1) acc' → awpD P ops bf K rest (idx + 1) acc' (put t o.dst f.v) g n) : awpD P ops bf K (o :: rest) idx acc t g n := by
  have hwr : f.wr = [] := by simp [Eff.wr, h1, h2]
  refine d_step f h hw (fun p hp => .inr ⟨fun x hx => ⟨fun hx' => ?_, by rw [hwr]; simp⟩, by rw [hwr]; simp⟩) ?_
  · have := (ha p hp).2.1 x hx
    have := hr x hx'
    omega
  · have e : f.ap g = g := by simp [Eff.ap, h1, h2, setAll, addAll]
    rw [e, h2, hwr]
    exact hk _ (ha.cons (fun x hx => by have := hr x hx; omega) (by simp))

/-- An operation that makes one block. -/
theorem d_new (f : Eff) (h : astep P o.op (evl t) g n = some f) (hw : awant ops o t = some true) (ha : AccB lo n idx acc) (hr : f.r = []) (h1 : f.w = []) (b : Blk) (h2 : f.a = [b]) (hj : f.j = n) (hlh : lo ≤ n)
    (hk : ∀ acc', AccB lo (n + 1) (idx + 1) acc' → awpD P ops bf K rest (idx + 1) acc' (put t o.dst f.v) (f.ap g) (n + 1)) : awpD P ops bf K (o :: rest) idx acc t g n := by
  have hwr : ∀ x, x ∈ f.wr ↔ x = n := fun x => by simp [Eff.wr, h1, h2, hj] 
  refine d_step f h hw (fun p hp => .inr ⟨fun x hx => ⟨by rw [hr]; simp, fun hx' => ?_⟩, fun x hx hx' => ?_⟩) ?_
  · have := (ha p hp).2.1 x hx
    have := (hwr x).1 hx'
    omega
  · have := (ha p hp).2.2 x hx
    have := (hwr x).1 hx'
    omega
  · rw [h2]
    refine hk _ ((ha.le (Nat.le_refl _) (Nat.le_succ n) (Nat.le_refl _)).cons (by rw [hr]; simp) fun x hx => ?_)
    have := (hwr x).1 hx
    omega

theorem full_bit {k i : Nat} (h : i < k) : (2 ^ k - 1).testBit i = true := by simp [Nat.testBit_two_pow_sub_one, h]

/-- An operation that stands behind all that was before. -/
theorem d_full (f : Eff) (h : astep P o.op (evl t) g n = some f) (hw : awant ops o t = some true) (ha : AccB lo hi idx acc) (hb : bf.getD idx 0 = 2 ^ idx - 1) (hr : ∀ x ∈ f.r, x < n + f.a.length) (hwr : ∀ x ∈ f.wr, lo ≤ x ∧ x < n + f.a.length) (hn : hi ≤ n)
    (hk : ∀ acc', AccB lo (n + f.a.length) (idx + 1) acc' → awpD P ops bf K rest (idx + 1) acc' (put t o.dst f.v) (f.ap g) (n + f.a.length)) : awpD P ops bf K (o :: rest) idx acc t g n := by
  refine d_step f h hw (fun p hp => .inl ?_) (hk _ ((ha.le (Nat.le_refl _) (by omega) (Nat.le_refl _)).cons hr hwr))
  rw [hb]
  exact full_bit (ha p hp).1

/-- A call that stands first. -/
theorem d_call1 {c : Call} {fo : Operand} (k : FuncId) (f : Eff) (ho : o.op = .call c) (hc : c.callee = .value fo) (hf : evl t fo = .func (.func k) #[] #[]) (hw : awant ops o t = some true)
    (hspec : FnSpec P k (c.args.toList.map (evl t)) g f) (hj : f.a ≠ [] → f.j = n) (ha : AccB lo hi idx acc) (hp : ∀ p ∈ acc, (bf.getD idx 0).testBit p.1 = true ∨ ((∀ x ∈ p.2.2, x ∉ f.r ∧ x ∉ f.wr) ∧ ∀ x ∈ p.2.1, x ∉ f.wr))
    (hr : ∀ x ∈ f.r, x < n + f.a.length) (hwr : ∀ x ∈ f.wr, lo ≤ x ∧ x < n + f.a.length) (hn : hi ≤ n + f.a.length)
    (hk : ∀ acc', AccB lo (n + f.a.length) (idx + 1) acc' → awpD P ops bf K rest (idx + 1) acc' (put t o.dst f.v) (f.ap g) (n + f.a.length)) : awpD P ops bf K (o :: rest) idx acc t g n :=
  d_call k f ho hc hf hw hspec hj hp (hk _ ((ha.le (Nat.le_refl _) hn (Nat.le_refl _)).cons hr hwr))
end

theorem d_num {P : Program} {ops : Array Oper} {bf : Array Nat} {K : (Nat → Value) → Heap → Nat → Prop} {l : List Oper} {idx : Nat} {acc : List FP} {t : Nat → Value} {g : Heap} {n : Nat} (h : ∀ N, N = n → awpD P ops bf K l idx acc t g N) : awpD P ops bf K l idx acc t g n := h n rfl

theorem append_fp_nil {P : Program} {T T' : TypeId} {p q : Nat} {y : Value} {g : Heap} {j : Nat} {f : Eff} (hf : stepAppend P T T' (.slice none p q) y g j = some f) : (∀ x ∈ f.r, x ∈ srcBlk y) ∧ ∀ x ∈ f.wr, x = j ∧ f.a.length = 1 := by
  unfold stepAppend at hf
  repeat' split at hf
  all_goals first | cases hf | skip
  all_goals simp_all [Eff.wr]

theorem append_fp_some {P : Program} {T T' : TypeId} {a : Addr} {p q : Nat} {y : Value} {g : Heap} {j : Nat} {f : Eff} (hf : stepAppend P T T' (.slice (some a) p q) y g j = some f) : (∀ x ∈ f.r, x = a.block ∨ x ∈ srcBlk y) ∧ ∀ x ∈ f.wr, x = a.block := by
  unfold stepAppend at hf
  repeat' split at hf
  all_goals first | cases hf | skip
  all_goals simp_all [Eff.wr]

/-- What an append to a slice of one's own looks at and writes. -/
theorem Own.append_fp {P : Program} {T T' e : TypeId} {g g' : Heap} {v y : Value} {l : List Value} {n n' j : Nat} {f : Eff} (h : Own e g v l n n') (hf : stepAppend P T T' v y g' j = some f) (hn : n ≤ j) (hj : n' ≤ j) :
    (∀ x ∈ f.r, x < j ∨ x ∈ srcBlk y) ∧ ∀ x ∈ f.wr, n ≤ x ∧ x < j + f.a.length := by
  obtain ⟨i, h, hi⟩ := h
  rcases h with ⟨_, rfl, _, _⟩ | ⟨k, rfl, rfl, _, _⟩
  · obtain ⟨h1, h2⟩ := append_fp_nil hf
    exact ⟨fun x hx => .inr (h1 x hx), fun x hx => by have := h2 x hx; omega⟩
  · obtain ⟨h1, h2⟩ := append_fp_some hf
    have := hi k rfl
    refine ⟨fun x hx => ?_, fun x hx => by have := h2 x hx; simp only at this; omega⟩
    rcases h1 x hx with e | e
    · simp only at e; left; omega
    · exact .inr e

theorem newE_wr {e : TypeId} {cs : List Value} {r : List Nat} {j : Nat} : ∀ x ∈ (newE e cs r j).wr, x = j ∧ (newE e cs r j).a.length = 1 := by
  unfold newE
  split
  · simp [Eff.wr]
  · intro x hx
    simp [Eff.wr] at hx
    exact ⟨hx, rfl⟩

/-- Bytes as symbols, behind n noughts. -/
def tell : List Nat → Nat → List Nat
  | [], n => told n
  | c :: b, n => if c = 0 then tell b (n + 1) else told n ++ (c + 1) :: tell b 0

theorem tell_len (b : List Nat) : ∀ n, (tell b n).length ≤ b.length + n := by
  induction b with
  | nil => intro n; simpa [tell] using told_len n
  | cons c b ih =>
    intro n
    rw [tell]
    split
    · have := ih (n + 1); simp; omega
    · have := ih 0
      have := told_len n
      simp; omega

theorem drop_cons {l : List Nat} {k : Nat} (h : k < l.length) : l.drop k = byt l k :: l.drop (k + 1) := by
  rw [List.drop_eq_getElem_cons h, byt_eq h]

set_option maxRecDepth 10000 in
theorem tell_spec (v : Value) (l : List Nat) (g : Heap) (j : Nat) (hl : l.length ≤ 2 ^ 38) (hb : ∀ x ∈ l, x < 256) (hv : Src g v 1 l.length (bs l)) : FnSpec Try.prog 24 [v] g (newE 3 (ints (tell l 0)) (srcBlk v) j) := by
  refine spec_of_body [2] follows Try.func24 rfl (by kernel_rfl) (by simp [Try.f24]) (by kernel_rfl) rfl ?_
  intro g2 s2 n hg hfr hs hn hwf hsv
  have hv2 : Src g2 v 1 l.length (bs l) := hv.congr fun i hi => hg i (by rw [newE_fp]; exact hi)
  have hlen := hv2.len Try.underlying24
  have hdom : ∀ i ∈ srcBlk v, i < n := fun i hi => by
    obtain ⟨b, hb⟩ := Option.isSome_iff_exists.1 (hv2.dom i hi)
    exact hs i (hwf i b hb).1
  refine s_run (by simp only [runL, awant_none, astep, evl, put, ap_none, List.length_nil, Nat.add_zero, undef] <;> rfl) ?_
  refine s_run (by simp only [runL, awant_none, astep, evl, put, ap_none, List.length_nil, Nat.add_zero] <;> rfl) ?_
  refine s_run (by simp only [runL, awant_none, astep, evl, put, ap_none, List.length_nil, Nat.add_zero] <;> rfl) ?_
  refine w_assoc (s_run (by simp only [runL, Option.getD_some, List.getElem?_cons_zero, awant_none, astep, evl, put, ap_none, List.length_nil, Nat.add_zero, upd_app, stepCall, reduceCtorEq, ↓reduceIte, hlen] <;> rfl) ?_)
  have hT := tell_len l 0
  refine s_rng l.length (fun k t g n' => ∃ (z : Nat) (a : List Nat), a ++ tell (l.drop k) z = tell l 0 ∧ z ≤ k ∧ t 7 = v ∧ t 4 = .int .i64 z ∧ Own 3 g (t 3) (ints a) n n' ∧ Kp n g2 g ∧ n ≤ n') (by omega) (by simp []) (by simp [upd_app])
    (fun x => ⟨0, [], by simp, by omega, by simp [upd_app], by simp [upd_app], by simp [upd_app]; exact Own.nil 3 g2 n n, Kp.refl _ _, Nat.le_refl _⟩) (by decide) ?_ ?_
  · rintro k t g n' hk t9 t8 ⟨z, a, ha, hz, t7, t4, hO, hkp, hnn⟩
    have hvg := hkp.src hv2 hdom
    obtain ⟨p, i1, i2, _⟩ := hvg.at1 (P := Try.prog) (i := k) (c := .int .u8 (byt l k)) (bs_at hk) Try.underlying24 tsize5 aggT5
    have hal : a.length + (tell (l.drop k) z).length ≤ l.length := by rw [← List.length_append, ha]; exact hT
    rw [drop_cons hk, tell] at ha hal
    refine s_run (by simp only [runL, awant_none, astep, evl, put, ap_none, List.length_nil, Nat.add_zero, upd_app, ↓reduceIte, t7, t9, i1, i2] <;> rfl) ?_
    refine w_gen (fun t => t 9 = .int .i64 k ∧ t 8 = .int .i64 l.length ∧ t 7 = v ∧ t 4 = .int .i64 z ∧ t 6 = .int .u8 (byt l k) ∧ Own 3 g (t 3) (ints a) n n') (by simp [upd_app, t9, t8, t7, t4, hO]) ?_
    clear t9 t8 t7 t4 hO
    rintro t ⟨t9, t8, t7, t4, t6, hO⟩
    by_cases h0 : byt l k = 0
    · have d : ((byt l k : Int) == 0) = true := ieq_t (by omega)
      have w1 : IntKind.i64.wrap ((z : Int) + 1) = ((z + 1 : Nat) : Int) := wrap_succ (by omega)
      refine w_assoc (s_run (by simp only [runL, awant_none, astep, evl, put, ap_none, List.length_nil, Nat.add_zero, upd_app, stepBin, abin, ↓reduceIte, t6, d] <;> rfl) ?_)
      refine s_true (by simp [evl]) (w_assoc (s_run (by simp only [runL, awant_none, astep, evl, put, ap_none, List.length_nil, Nat.add_zero, upd_app, stepBin, abin, ↓reduceIte, Nat.reduceEqDiff, t4, w1] <;> rfl) (s_exit ?_)))
      simp only [rangePost, if_true]
      rw [if_pos h0] at ha
      exact ⟨by simp [upd_app, t9], by simp [upd_app, t8], fun _ _ _ => ⟨z + 1, a, ha, by omega, by simp [upd_app, t7], by simp [upd_app], by simpa [upd_app] using hO, hkp, hnn⟩⟩
    · have d : ((byt l k : Int) == 0) = false := ieq_f (by omega)
      have w0 : IntKind.i64.wrap (byt l k : Int) = (byt l k : Int) := wrap_nat (by have := byt_lt hb k; omega)
      have w1 : IntKind.i64.wrap ((byt l k : Int) + 1) = ((byt l k + 1 : Nat) : Int) := wrap_succ (by have := byt_lt hb k; omega)
      rw [if_neg h0] at ha hal
      simp only [List.length_append, List.length_cons] at hal
      refine w_assoc (s_run (by simp only [runL, awant_none, astep, evl, put, ap_none, List.length_nil, Nat.add_zero, upd_app, stepBin, abin, ↓reduceIte, t6, d] <;> rfl) ?_)
      refine s_false (by simp [evl]) (s_skip ?_)
      refine s_take 2 (by simp only [runL, List.take_succ_cons, List.take_zero, awant_none, astep, evl, put, ap_none, List.length_nil, Nat.add_zero, upd_app, ↓reduceIte, Nat.reduceEqDiff, t4] <;> rfl) ?_
      refine ops_call 66 _ rfl (told_spec z (by omega) g n') (by intro _; rw [newE_j]) (ops_heap fun G1 hG1 => ops_num fun N1 hN1 => ?_)
      have k1 : Kp n' g G1 := by rw [hG1]; exact newE_kp (Kp.refl _ _) (Nat.le_refl _)
      have s1 := newE_src 3 (ints (told z)) [] n' g
      rw [← hG1] at s1
      generalize (newE 3 (ints (told z)) [] n').v = u1 at s1 ⊢
      have hN : n' ≤ N1 := by omega
      obtain ⟨f1, hf1, hO1, kk1⟩ := (hO.keep k1 hN).append (P := Try.prog) (T := 22) s1 Try.underlying22 tinf3 (by simp; omega) (by omega) (by omega)
      obtain ⟨f2, hf2, hO2, kk2⟩ := hO1.push (P := Try.prog) (T := 22) (c := .int .i64 ((byt l k + 1 : Nat) : Int)) Try.underlying22 tinf3 (by simp; omega) (by omega) (by omega)
      refine ops_run (by simp only [runL, awant_none, astep, evl, put, ap_none, ap_new, List.length_nil, List.length_cons, Nat.add_zero, Nat.zero_add, upd_app, stepBin, abin, stepCall, ↓reduceIte, Nat.reduceEqDiff, List.map_cons, List.map_nil, undef, t6, conv5_3, w0, w1, hf1, lit22_1, hf2] <;> rfl) ?_
      refine region_run (id := 9) (by simp only [runL, awant_none, astep, evl, put, ap_none, List.length_nil, Nat.add_zero] <;> rfl) ?_
      simp only [rangePost]
      refine ⟨by simp [upd_app, t9], by simp [upd_app, t8], fun _ _ _ => ⟨0, a ++ told z ++ [byt l k + 1], by rw [← ha]; simp, by omega, by simp [upd_app, t7], by simp [upd_app], ?_, fun q hq => ?_, by omega⟩⟩
      · rw [← ints_app, ← ints_app]; simpa [upd_app] using hO2
      · rw [kk2 q hq, kk1 q hq, k1 q (by omega), hkp q hq]
  · rintro t g n' ⟨z, a, ha, hz, t7, t4, hO, hkp, hnn⟩
    rw [List.drop_length, tell] at ha
    have hal : a.length + (told z).length ≤ l.length := by rw [← List.length_append, ha]; exact hT
    refine s_take 2 (by simp only [runL, List.take_succ_cons, List.take_zero, awant_none, astep, evl, put, ap_none, List.length_nil, Nat.add_zero, upd_app, ↓reduceIte, Nat.reduceEqDiff, t4] <;> rfl) ?_
    refine ops_call 66 _ rfl (told_spec z (by omega) g n') (by intro _; rw [newE_j]) (ops_heap fun G1 hG1 => ops_num fun N1 hN1 => ?_)
    have k1 : Kp n' g G1 := by rw [hG1]; exact newE_kp (Kp.refl _ _) (Nat.le_refl _)
    have s1 := newE_src 3 (ints (told z)) [] n' g
    rw [← hG1] at s1
    generalize (newE 3 (ints (told z)) [] n').v = u1 at s1 ⊢
    have hN : n' ≤ N1 := by omega
    obtain ⟨f1, hf1, hO1, kk1⟩ := (hO.keep k1 hN).append (P := Try.prog) (T := 22) s1 Try.underlying22 tinf3 (by simp; omega) (by omega) (by omega)
    refine ops_run (by simp only [runL, awant_none, astep, evl, put, ap_none, List.length_nil, Nat.add_zero, upd_app, stepCall, ↓reduceIte, Nat.reduceEqDiff, hf1] <;> rfl) ?_
    refine w_ret ⟨.inr rfl, by simp, ?_⟩
    rw [ints_app, ha] at hO1
    have := hO1.fin (r := srcBlk v) (j := j) (plain_is _) hs hwf (fun q hq => by rw [kk1 q hq, k1 q (by omega), hkp q hq])
    simpa [resVal, upd_app, put] using this
end Go.Proofs.Ytahinegnblankaa
