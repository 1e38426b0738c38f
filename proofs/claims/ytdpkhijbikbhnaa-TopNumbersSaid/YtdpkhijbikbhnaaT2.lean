import Derived.Test.YtdpkhijbikbhnaaT1
import Derived.Test.YtdpkhijbikbhnaaK2
namespace Go.Proofs.Ytdpkhijbikbhnaa
open Go Abs
set_option linter.unusedSimpArgs false
set_option linter.unusedVariables false

/-- Each of so many numbers once. -/
def permB (a : List Int) : Bool := decide ((∀ x ∈ a, 0 ≤ x ∧ x < (a.length : Int)) ∧ a.Nodup)
/-- Of each number where it stands. -/
def invL (a : List Int) : List Int := (List.range a.length).map fun (x : Nat) => ((a.idxOf (x : Int) : Nat) : Int)
theorem invL_len (a : List Int) : (invL a).length = a.length := by simp [invL]

def okE (O : Option (List Int)) (r : List Nat) (j : Nat) : Eff := match O with
  | none => { v := .tuple #[.slice none 0 0, .bool false], r := r, j := j }
  | some l => { v := .tuple #[.slice (some ⟨j, 0, some l.length⟩) l.length 1, .bool true], r := r, j := j, a := [⟨false, 3, intsI l⟩] }
theorem okE_r (o : Option (List Int)) (r : List Nat) (j : Nat) : (okE o r j).r = r := by cases o <;> rfl
theorem okE_w (o : Option (List Int)) (r : List Nat) (j : Nat) : (okE o r j).w = [] := by cases o <;> rfl
theorem okE_j (o : Option (List Int)) (r : List Nat) (j : Nat) : (okE o r j).j = j := by cases o <;> rfl
theorem okE_fp (o : Option (List Int)) (r : List Nat) (j : Nat) : (okE o r j).fp = r := by simp [Eff.fp, okE_r, okE_w]
theorem okE_out {s2 : Nat → Prop} {g2 g' : Heap} {n : Nat} {rs : List Tmp} {a b : Tmp} {O : Option (List Int)} {r : List Nat} {j : Nat} {t : Nat → Value} (hrs : rs = [a, b]) (h4 : t a = .slice none 0 0) (h5 : t b = .bool false) (hs : ∀ i, s2 i → i < n) (hwf : ∀ i b, g2 i = some b → s2 i ∧ ∀ c ∈ b.cells, SV1 s2 c) (hk : Kp n g2 g') (ho : O = none) :
    (Exit.ret = .normal ∨ Exit.ret = .ret) ∧ (rs.length ≠ 1 → ∀ r ∈ rs, isTup (t r) = false) ∧ ∃ ids, Abs.Fin (okE O r j) ids s2 g2 n g' (resVal rs t) := by
  subst hrs ho
  refine ⟨.inr rfl, fun _ r hr => ?_, [], fin_plain hs hwf hk ?_ (by intro c hc; simp at hc; rcases hc with rfl | rfl <;> trivial)⟩
  · simp at hr
    rcases hr with rfl | rfl
    · rw [h4]; rfl
    · rw [h5]; rfl
  · simp [resVal, h4, h5]
theorem okE_some {s2 : Nat → Prop} {g2 g' : Heap} {n k : Nat} {rs : List Tmp} {a b : Tmp} {O : Option (List Int)} {l : List Int} {r : List Nat} {j : Nat} {t : Nat → Value} (hrs : rs = [a, b]) (h4 : t a = .slice (some ⟨k, 0, some l.length⟩) l.length 1) (h5 : t b = .bool true) (hn : n ≤ k) (hg : g' k = some ⟨false, 3, intsI l⟩) (hs : ∀ i, s2 i → i < n) (hwf : ∀ i b, g2 i = some b → s2 i ∧ ∀ c ∈ b.cells, SV1 s2 c) (hk : Kp n g2 g') (ho : O = some l) :
    (Exit.ret = .normal ∨ Exit.ret = .ret) ∧ (rs.length ≠ 1 → ∀ r ∈ rs, isTup (t r) = false) ∧ ∃ ids, Abs.Fin (okE O r j) ids s2 g2 n g' (resVal rs t) := by
  subst hrs ho
  refine ⟨.inr rfl, fun _ r hr => ?_, [k], ?_⟩
  · simp at hr
    rcases hr with rfl | rfl
    · rw [h4]; rfl
    · rw [h5]; rfl
  · refine fin_one (by simp [resVal, h4, h5, renT, renA, ren1]) (fun c hc => ?_) hn hg plain_intsI (fun i b hb => hk.at (hs i (hwf i b hb).1) hb)
    simp at hc
    rcases hc with rfl | rfl
    · exact .inr (.inr rfl)
    · trivial

/-- What was seen so far. -/
def seenL (a : List Int) (k : Nat) : List Bool := (List.range a.length).map fun (x : Nat) => decide ((x : Int) ∈ a.take k)
def outL (a : List Int) (k : Nat) (d : Int) : List Int := (List.range a.length).map fun (x : Nat) => if (x : Int) ∈ a.take k then ((a.idxOf (x : Int) : Nat) : Int) else d
theorem seenL_len (a : List Int) (k : Nat) : (seenL a k).length = a.length := by simp [seenL]
theorem outL_len (a : List Int) (k : Nat) (d : Int) : (outL a k d).length = a.length := by simp [outL]
theorem mem_take_succ {a : List Int} {k : Nat} (hk : k < a.length) (x : Int) : x ∈ a.take (k + 1) ↔ x ∈ a.take k ∨ x = a[k] := by
  rw [List.take_succ_eq_append_getElem hk, List.mem_append, List.mem_singleton]
theorem seen_set {a : List Int} {k y : Nat} (hk : k < a.length) (hy : a[k] = (y : Int)) (hlt : y < a.length) : (seenL a k).set y true = seenL a (k + 1) := by
  apply List.ext_getElem
  · simp [seenL]
  · intro i h1 h2
    rw [List.getElem_set]
    simp only [seenL, List.getElem_map, List.getElem_range]
    by_cases e : y = i
    · subst e
      rw [if_pos rfl]
      exact (decide_eq_true ((mem_take_succ hk _).2 (.inr hy.symm))).symm
    · rw [if_neg e]
      have : ((i : Int) ∈ a.take (k + 1)) ↔ ((i : Int) ∈ a.take k) := by
        rw [mem_take_succ hk, hy]
        constructor
        · rintro (h | h)
          · exact h
          · omega
        · exact .inl
      simp [this]
theorem idxOf_mid : ∀ (l : List Int) (x : Int) (m : List Int), x ∉ l → (l ++ x :: m).idxOf x = l.length
  | [], x, m, _ => by simp
  | y :: l, x, m, h => by
    have h1 : y ≠ x := fun e => h (by simp [e])
    have h2 : x ∉ l := fun e => h (by simp [e])
    have h3 : (y == x) = false := by simpa using h1
    rw [List.cons_append, List.idxOf_cons, h3, idxOf_mid l x m h2]
    simp
theorem idx_at' {a : List Int} {k : Nat} (hk : k < a.length) (h : a[k] ∉ a.take k) : a.idxOf a[k] = k := by
  have e : a = a.take k ++ a[k] :: a.drop (k + 1) := by rw [← List.drop_eq_getElem_cons hk, List.take_append_drop]
  have h1 : a.idxOf a[k] = (a.take k ++ a[k] :: a.drop (k + 1)).idxOf a[k] := by rw [← e]
  rw [h1, idxOf_mid _ _ _ h]
  simp; omega
theorem out_set' {a : List Int} {k y : Nat} {d : Int} (hk : k < a.length) (hy : a[k] = (y : Int)) (hlt : y < a.length) (hn : (y : Int) ∉ a.take k) : (outL a k d).set y (k : Int) = outL a (k + 1) d := by
  apply List.ext_getElem
  · simp [outL]
  · intro i h1 h2
    rw [List.getElem_set]
    simp only [outL, List.getElem_map, List.getElem_range]
    by_cases e : y = i
    · subst e
      rw [if_pos rfl, if_pos ((mem_take_succ hk _).2 (.inr hy.symm)), ← hy, idx_at' hk (by rw [hy]; exact hn)]
    · rw [if_neg e]
      have : ((i : Int) ∈ a.take (k + 1)) ↔ ((i : Int) ∈ a.take k) := by
        rw [mem_take_succ hk, hy]
        constructor
        · rintro (h | h)
          · exact h
          · omega
        · exact .inl
      simp [this]

/-- The first k are numbers below, each once. -/
def okTo (a : List Int) (k : Nat) : Prop := (∀ x ∈ a.take k, 0 ≤ x ∧ x < (a.length : Int)) ∧ (a.take k).Nodup
theorem okTo_zero (a : List Int) : okTo a 0 := ⟨by simp, by simp⟩
theorem okTo_succ {a : List Int} {k : Nat} (hk : k < a.length) : okTo a (k + 1) ↔ okTo a k ∧ 0 ≤ a[k] ∧ a[k] < (a.length : Int) ∧ a[k] ∉ a.take k := by
  unfold okTo
  rw [List.take_succ_eq_append_getElem hk, List.nodup_append]
  simp only [List.mem_append, List.mem_singleton]
  constructor
  · rintro ⟨h1, h2, _, h3⟩
    exact ⟨⟨fun x hx => h1 x (.inl hx), h2⟩, (h1 _ (.inr rfl)).1, (h1 _ (.inr rfl)).2, fun hm => h3 _ hm _ rfl rfl⟩
  · rintro ⟨⟨h1, h2⟩, h3, h4, h5⟩
    refine ⟨fun x hx => ?_, h2, by simp, fun x hx y hy e => h5 (by rw [← hy, ← e]; exact hx)⟩
    rcases hx with hx | rfl
    · exact h1 x hx
    · exact ⟨h3, h4⟩
theorem permB_of {a : List Int} (h : okTo a a.length) : permB a = true := by
  unfold okTo at h
  rw [List.take_length] at h
  exact decide_eq_true h
theorem permB_not {a : List Int} {k : Nat} (hk : k < a.length) (h : okTo a k) (hb : a[k] < 0 ∨ (a.length : Int) ≤ a[k] ∨ a[k] ∈ a.take k) : permB a = false := by
  refine decide_eq_false fun ⟨h1, h2⟩ => ?_
  have h3 := h1 a[k] (List.getElem_mem hk)
  rcases hb with hb | hb | hb
  · omega
  · omega
  · have e : a = a.take k ++ a[k] :: a.drop (k + 1) := by rw [← List.drop_eq_getElem_cons hk, List.take_append_drop]
    rw [e, List.nodup_append] at h2
    exact h2.2.2 _ hb _ List.mem_cons_self rfl
theorem nodup_sub_len : ∀ {l m : List Int}, l.Nodup → (∀ x ∈ l, x ∈ m) → l.length ≤ m.length
  | [], m, _, _ => by simp
  | x :: l, m, hn, hs => by
    rw [List.nodup_cons] at hn
    have hx := hs x (by simp)
    have h1 : ∀ y ∈ l, y ∈ m.erase x := fun y hy => by
      have hne : y ≠ x := fun e => hn.1 (by rw [← e]; exact hy)
      exact (List.mem_erase_of_ne hne).2 (hs y (by simp [hy]))
    have h2 := nodup_sub_len hn.2 h1
    have h3 := List.length_erase_of_mem hx
    have h4 := List.length_pos_of_mem hx
    simp; omega
theorem permB_mem {a : List Int} (h : permB a = true) {x : Nat} (hx : x < a.length) : (x : Int) ∈ a := by
  have h := of_decide_eq_true h
  apply Classical.byContradiction
  intro hn
  have h1 : ∀ y ∈ a, y ∈ ((List.range a.length).map fun (k : Nat) => (k : Int)).erase (x : Int) := fun y hy => by
    have hne : y ≠ (x : Int) := fun e => hn (by rw [← e]; exact hy)
    refine (List.mem_erase_of_ne hne).2 ?_
    have := h.1 y hy
    exact List.mem_map.2 ⟨y.toNat, by simp; omega, by omega⟩
  have h2 := nodup_sub_len h.2 h1
  have h3 := List.length_erase_of_mem (a := (x : Int)) (l := (List.range a.length).map fun (k : Nat) => (k : Int)) (List.mem_map.2 ⟨x, by simpa using hx, rfl⟩)
  rw [h3] at h2
  simp at h2
  omega
theorem outL_all {a : List Int} {d : Int} (h : permB a = true) : outL a a.length d = invL a := by
  unfold outL invL
  rw [List.take_length]
  refine List.map_congr_left fun x hx => ?_
  rw [if_pos (permB_mem h (by simpa using hx))]

set_option maxRecDepth 10000 in
theorem inverse_spec (v : Value) (a : List Int) (g : Heap) (j : Nat) (hl : a.length ≤ 2 ^ 38) (hv : Src g v 1 a.length (intsI a)) : FnSpec Try.prog 25 [v] g (okE (if permB a then some (invL a) else none) (srcBlk v) j) := by
  refine spec_of_body [2, 3] follows Try.func25 rfl (by kernel_rfl) (by simp [Try.f25]) (by kernel_rfl) rfl ?_
  intro g2 s2 n hg hfr hs hn hwf hsv
  rw [okE_fp] at hg
  have hv2 : Src g2 v 1 a.length (intsI a) := hv.congr fun i hi => hg i hi
  have hlen := hv2.len Try.underlying22
  have hdom : ∀ i ∈ srcBlk v, i < n := fun i hi => by
    obtain ⟨b, hb⟩ := Option.isSome_iff_exists.1 (hv2.dom i hi)
    exact hs i (hwf i b hb).1
  clear hg hfr hn hv
  refine s_run (by simp only [runL, awant_none, astep, evl, put, ap_none, List.length_nil, Nat.add_zero, undef] <;> rfl) ?_
  refine s_run (by simp only [runL, Option.getD_some, List.getElem?_cons_zero, awant_none, astep, evl, put, ap_none, ap_new, List.length_nil, List.length_cons, Nat.add_zero, Nat.zero_add, upd_app, stepCall, reduceCtorEq, ↓reduceIte, hlen, mkIntsI a.length n (by omega)] <;> rfl) (w_heap fun G1 hG1 => ?_)
  refine s_run (by simp only [runL, Option.getD_some, List.getElem?_cons_zero, awant_none, astep, evl, put, ap_none, ap_new, List.length_nil, List.length_cons, Nat.add_zero, Nat.zero_add, upd_app, stepCall, reduceCtorEq, ↓reduceIte, hlen, mkBools a.length (n + 1) (by omega)] <;> rfl) (w_heap fun G2 hG2 => ?_)
  have b1 : G2 n = some ⟨false, 3, intsI (outL a 0 0)⟩ := by
    have : outL a 0 0 = List.replicate a.length 0 := by unfold outL; rw [List.eq_replicate_iff]; simp
    rw [hG2, this, hG1]; simp [upd_app]
  have b2 : G2 (n + 1) = some ⟨false, 4, bools (seenL a 0)⟩ := by
    have : seenL a 0 = List.replicate a.length false := by unfold seenL; rw [List.eq_replicate_iff]; simp
    rw [hG2, this]; simp []
  have k1 : Kp n g2 G2 := by rw [hG2, hG1]; exact kp_upd (kp_upd (Kp.refl _ _) (Nat.le_refl _)) (by omega)
  refine w_assoc (s_run (by simp only [runL, Option.getD_some, List.getElem?_cons_zero, awant_none, astep, evl, put, ap_none, List.length_nil, Nat.add_zero, upd_app, stepCall, reduceCtorEq, ↓reduceIte, hlen] <;> rfl) ?_)
  refine s_rng a.length (fun k t g n' => t 0 = v ∧ t 14 = v ∧ t 4 = .slice (some ⟨n, 0, some a.length⟩) a.length 1 ∧ t 5 = .slice (some ⟨n + 1, 0, some a.length⟩) a.length 1 ∧ okTo a k ∧ g n = some ⟨false, 3, intsI (outL a k 0)⟩ ∧ g (n + 1) = some ⟨false, 4, bools (seenL a k)⟩ ∧ Kp n g2 g) (by omega) (by simp []) (by simp [upd_app])
    (fun _ => ⟨by simp [upd_app], by simp [upd_app], by simp [upd_app], by simp [upd_app], okTo_zero a, b1, b2, k1⟩) (by decide) ?_ ?_
  · clear b1 b2 k1 hG1 hG2
    rintro k t g n' hk t16 t15 ⟨t0, t14, t4, t5, hok, b1, b2, hkp⟩
    obtain ⟨p, i1, l1, _⟩ := srcI (hkp.src hv2 hdom) hk
    refine s_run (by simp only [runL, awant_none, astep, evl, put, ap_none, List.length_nil, Nat.add_zero, upd_app, ↓reduceIte, Nat.reduceEqDiff, t14, t16, i1, l1] <;> rfl) ?_
    refine w_gen (fun t => t 0 = v ∧ t 14 = v ∧ t 4 = .slice (some ⟨n, 0, some a.length⟩) a.length 1 ∧ t 5 = .slice (some ⟨n + 1, 0, some a.length⟩) a.length 1 ∧ t 6 = .int .i64 k ∧ t 7 = .int .i64 a[k] ∧ t 16 = .int .i64 k ∧ t 15 = .int .i64 a.length) (by simp [upd_app, t0, t14, t4, t5, t15, t16]) ?_
    clear t0 t14 t4 t5 t16 t15
    rintro t ⟨t0, t14, t4, t5, t6, t7, t16, t15⟩
    by_cases h0 : a[k] < 0
    · have d0 : decide (a[k] < 0) = true := decide_eq_true h0
      refine w_assoc (s_run (by simp only [runL, awant_some, List.getElem?_toArray, List.getElem?_cons_succ, List.getElem?_cons_zero, Option.bind_some, b_tf, awant_none, astep, evl, put, ap_none, List.length_nil, Nat.add_zero, upd_app, stepBin, abin, stepPick, ↓reduceIte, Nat.reduceEqDiff, undef, t7, d0] <;> rfl) ?_)
      refine s_true (by simp [evl]) (w_assoc (s_run (by simp only [runL, awant_none, astep, evl, put, ap_none, List.length_nil, Nat.add_zero] <;> rfl) ?_))
      refine s_ret ?_
      show _ ∧ _
      exact okE_out rfl (by simp [upd_app]) (by simp []) hs hwf hkp (by rw [permB_not hk hok (.inl h0)]; rfl)
    have d0 : decide (a[k] < 0) = false := decide_eq_false h0
    by_cases h1 : (a.length : Int) ≤ a[k]
    · have d1 : decide (a[k] ≥ (a.length : Int)) = true := decide_eq_true h1
      refine w_assoc (s_run (by simp only [runL, awant_some, List.getElem?_toArray, List.getElem?_cons_succ, List.getElem?_cons_zero, Option.bind_some, b_tf, b_ff, awant_none, astep, evl, put, ap_none, List.length_nil, Nat.add_zero, upd_app, stepBin, abin, stepPick, stepCall, reduceCtorEq, ↓reduceIte, Nat.reduceEqDiff, Bool.false_eq_true, undef, t7, t0, hlen, d0, d1] <;> rfl) ?_)
      refine s_true (by simp [evl]) (w_assoc (s_run (by simp only [runL, awant_none, astep, evl, put, ap_none, List.length_nil, Nat.add_zero] <;> rfl) ?_))
      refine s_ret ?_
      show _ ∧ _
      exact okE_out rfl (by simp [upd_app]) (by simp []) hs hwf hkp (by rw [permB_not hk hok (.inr (.inl h1))]; rfl)
    have d1 : decide (a[k] ≥ (a.length : Int)) = false := decide_eq_false h1
    obtain ⟨y, hy⟩ : ∃ y : Nat, a[k] = (y : Int) := ⟨a[k].toNat, by omega⟩
    have hyl : y < a.length := by omega
    rw [hy] at t7 d0 d1
    have ix := idxL (n + 1) a.length y a.length hyl
    have lx := ldL b2 (seenL_len a k) (by rw [seenL_len]; exact hyl : y < _)
    have hse : (seenL a k)[y]'(by rw [seenL_len]; exact hyl) = decide ((y : Int) ∈ a.take k) := by simp [seenL]
    rw [hse] at lx
    by_cases hm : (y : Int) ∈ a.take k
    · rw [decide_eq_true hm] at lx
      refine w_assoc (s_run (by simp only [runL, awant_some, List.getElem?_toArray, List.getElem?_cons_succ, List.getElem?_cons_zero, Option.bind_some, b_ff, awant_none, astep, evl, put, ap_none, List.length_nil, Nat.add_zero, upd_app, stepBin, abin, stepPick, stepCall, reduceCtorEq, ↓reduceIte, Nat.reduceEqDiff, Bool.false_eq_true, t7, t0, t5, hlen, d0, d1, ix, lx] <;> rfl) ?_)
      refine s_true (by simp [evl]) (w_assoc (s_run (by simp only [runL, awant_none, astep, evl, put, ap_none, List.length_nil, Nat.add_zero] <;> rfl) ?_))
      refine s_ret ?_
      show _ ∧ _
      exact okE_out rfl (by simp [upd_app]) (by simp []) hs hwf hkp (by rw [permB_not hk hok (.inr (.inr (by rw [hy]; exact hm)))]; rfl)
    · rw [decide_eq_false hm] at lx
      refine w_assoc (s_run (by simp only [runL, awant_some, List.getElem?_toArray, List.getElem?_cons_succ, List.getElem?_cons_zero, Option.bind_some, b_ff, awant_none, astep, evl, put, ap_none, List.length_nil, Nat.add_zero, upd_app, stepBin, abin, stepPick, stepCall, reduceCtorEq, ↓reduceIte, Nat.reduceEqDiff, Bool.false_eq_true, t7, t0, t5, hlen, d0, d1, ix, lx] <;> rfl) ?_)
      refine s_false (by simp [evl]) (s_skip ?_)
      refine w_gen (fun t => t 0 = v ∧ t 14 = v ∧ t 4 = .slice (some ⟨n, 0, some a.length⟩) a.length 1 ∧ t 5 = .slice (some ⟨n + 1, 0, some a.length⟩) a.length 1 ∧ t 6 = .int .i64 k ∧ t 7 = .int .i64 y ∧ t 16 = .int .i64 k ∧ t 15 = .int .i64 a.length) (by simp [upd_app, t0, t14, t4, t5, t15, t16, t6, t7]) ?_
      clear t0 t14 t4 t5 t16 t15 t6 t7
      rintro t ⟨t0, t14, t4, t5, t6, t7, t16, t15⟩
      have iy := idxI n a.length y a.length hyl
      have s1 := stI (x := (k : Int)) b1 (outL_len a k 0) (by rw [outL_len]; exact hyl : y < _)
      rw [out_set' hk hy hyl hm] at s1
      have b2' : (upd g n (some ⟨false, 3, intsI (outL a (k + 1) 0)⟩)) (n + 1) = some ⟨false, 4, bools (seenL a k)⟩ := by rw [upd_ne _ _ (by omega)]; exact b2
      have s2' := stL (x := true) b2' (seenL_len a k) (by rw [seenL_len]; exact hyl : y < _)
      rw [seen_set hk hy hyl] at s2'
      refine region_run (id := 8) (by simp only [runL, awant_none, astep, evl, put, ap_none, ap_wr, List.length_nil, Nat.add_zero, upd_app, ↓reduceIte, Nat.reduceEqDiff, undef, t4, t5, t6, t7, iy, ix, s1, s2'] <;> rfl) ?_
      simp only [rngPost]
      refine ⟨by simp [upd_app, t16], by simp [upd_app, t15], fun _ _ _ => ⟨by simp [upd_app, t0], by simp [upd_app, t14], by simp [upd_app, t4], by simp [upd_app, t5], (okTo_succ hk).2 ⟨hok, by omega, by omega, by rw [hy]; exact hm⟩, by simp [upd_app], by simp [], fun q hq => ?_⟩⟩
      show upd (upd g n _) (n + 1) _ q = g2 q
      rw [upd_ne _ _ (by omega), upd_ne _ _ (by omega), hkp q hq]
  · clear b1 b2 k1 hG1 hG2
    rintro t g n' ⟨t0, t14, t4, t5, hok, b1, b2, hkp⟩
    refine s_run (by simp only [runL, awant_none, astep, evl, put, ap_none, List.length_nil, Nat.add_zero, upd_app, ↓reduceIte, t4] <;> rfl) ?_
    have hp := permB_of hok
    rw [outL_all hp] at b1
    have hll := invL_len a
    exact w_ret (okE_some (k := n) rfl (by simp [upd_app, hll]) (by simp []) (Nat.le_refl _) b1 hs hwf hkp (by rw [hp]; rfl))
end Go.Proofs.Ytdpkhijbikbhnaa
