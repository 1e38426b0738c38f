import Derived.Test.YtdpkhijbikbhnaaT17
namespace Go.Proofs.Ytdpkhijbikbhnaa
open Go Abs Plain
set_option linter.unusedSimpArgs false
set_option linter.unusedVariables false

abbrev SXT : TypeId := 77
theorem foffX0 : foff Try.prog 77 0 = some 0 := by kernel_rfl
theorem foffX1 : foff Try.prog 77 1 = some 1 := by kernel_rfl
theorem foffX2 : foff Try.prog 77 2 = some 2 := by kernel_rfl
theorem foffX3 : foff Try.prog 77 3 = some 3 := by kernel_rfl
theorem fldX0 (X : Nat) : stepField Try.prog 77 (.pointer (some ⟨X, 0, some 4⟩)) 0 = some { v := .pointer (some ⟨X, 0, some 4⟩) } := by simp [stepField, foffX0]
theorem fldX1 (X : Nat) : stepField Try.prog 77 (.pointer (some ⟨X, 0, some 4⟩)) 1 = some { v := .pointer (some ⟨X, 1, some 4⟩) } := by simp [stepField, foffX1]
theorem fldX2 (X : Nat) : stepField Try.prog 77 (.pointer (some ⟨X, 0, some 4⟩)) 2 = some { v := .pointer (some ⟨X, 2, some 4⟩) } := by simp [stepField, foffX2]
theorem fldX3 (X : Nat) : stepField Try.prog 77 (.pointer (some ⟨X, 0, some 4⟩)) 3 = some { v := .pointer (some ⟨X, 3, some 4⟩) } := by simp [stepField, foffX3]
theorem aggTB : aggT Try.prog 67 = some false := by kernel_rfl
/-- The sorter's cells. -/
def SX (X : Nat) (sv bv cv rv : Value) (g : Heap) : Prop := g X = some ⟨false, SXT, [sv, bv, cv, rv]⟩
section
variable {X : Nat} {sv bv cv rv : Value} {g : Heap}
theorem ldX0 (h : SX X sv bv cv rv g) : stepLoad Try.prog 22 (.pointer (some ⟨X, 0, some 4⟩)) g = some { v := sv, r := [X] } := ld_at h rfl rfl aggTS
theorem ldX1 (h : SX X sv bv cv rv g) : stepLoad Try.prog 67 (.pointer (some ⟨X, 1, some 4⟩)) g = some { v := bv, r := [X] } := ld_at h rfl rfl aggTB
theorem ldX2 (h : SX X sv bv cv rv g) : stepLoad Try.prog 22 (.pointer (some ⟨X, 2, some 4⟩)) g = some { v := cv, r := [X] } := ld_at h rfl rfl aggTS
theorem ldX3 (h : SX X sv bv cv rv g) : stepLoad Try.prog 22 (.pointer (some ⟨X, 3, some 4⟩)) g = some { v := rv, r := [X] } := ld_at h rfl rfl aggTS
end

/-- Behind the last one of each bucket. -/
def endsL (c : List Nat) : List Nat := (List.range c.length).map fun i => (c.take (i + 1)).sum
theorem endsL_len (c : List Nat) : (endsL c).length = c.length := by simp [endsL]
theorem endsL_at {c : List Nat} {i : Nat} (h : i < c.length) : byt (endsL c) i = (c.take i).sum + byt c i := by
  rw [byt_eq (by rw [endsL_len]; exact h)]; simp only [endsL, List.getElem_map, List.getElem_range]; rw [take_byt h, List.sum_append]; simp
def mixR (a b : List Nat) (k : Nat) : List Nat := a.take k ++ b.drop k
theorem mixR_len {a b : List Nat} {k : Nat} (h : a.length = b.length) : (mixR a b k).length = a.length := by simp [mixR]; omega
theorem mixR_at {a b : List Nat} {k : Nat} (h : a.length = b.length) (hk : k < b.length) : byt (mixR a b k) k = byt b k := by
  rw [byt_eq (by rw [mixR_len h]; omega), byt_eq hk]
  simp only [mixR]
  rw [List.getElem_append_right (by simp; omega)]
  simp only [List.getElem_drop, List.length_take]
  congr 1; omega
theorem mixR_set {a b : List Nat} {k : Nat} (h : a.length = b.length) (hk : k < b.length) : (mixR a b k).set k (byt a k) = mixR a b (k + 1) := by
  unfold mixR
  rw [take_byt (show k < a.length by omega), List.set_append_right _ _ (by simp; omega), show k - (a.take k).length = 0 by simp; omega, List.append_assoc]
  congr 1
  rw [List.drop_eq_getElem_cons hk, List.set_cons_zero]
  rfl
theorem mixR_all {a b : List Nat} (h : a.length = b.length) : mixR a b b.length = a := by simp [mixR, ← h]

set_option maxRecDepth 20000 in
theorem ends_spec (X : Nat) (sv bv cv rv : Value) (c : List Nat) (g : Heap) (j : Nat) (hl : c.length ≤ 2 ^ 38) (hsum : c.sum ≤ 2 ^ 60) (hX : SX X sv bv cv rv g) (hv : Src g cv 1 c.length (ints c)) :
    FnSpec Try.prog 51 [.pointer (some ⟨X, 0, some 4⟩)] g { v := .slice (some ⟨j, 0, some c.length⟩) c.length 1, r := X :: srcBlk cv, j := j, a := [⟨false, 3, ints (endsL c)⟩] } := by
  refine spec_of_body [2] follows Try.func51 rfl (by kernel_rfl) (by simp [Try.f51]) (by kernel_rfl) rfl ?_
  intro g2 s2 n hg hfr hs hn hwf hsv
  have hv2 : Src g2 cv 1 c.length (ints c) := hv.congr fun i hi => hg i (by simp [Eff.fp, hi])
  have hX2 : SX X sv bv cv rv g2 := by unfold SX; rw [hg X (by simp [Eff.fp])]; exact hX
  have hvd := dom_of hs hwf hv2
  have hXd : X < n := hs X (hwf X _ hX2).1
  have hlen := hv2.len Try.underlying22
  clear hg hfr hn hv hX
  refine s_run (by simp only [runL, awant_none, astep, evl, put, ap_none, List.length_nil, Nat.add_zero, undef] <;> rfl) ?_
  refine s_take 4 (by simp only [runL, Option.getD_some, List.getElem?_cons_zero, List.take_succ_cons, List.take_zero, awant_none, astep, evl, put, ap_none, List.length_nil, Nat.add_zero, upd_app, reduceCtorEq, ↓reduceIte, nchk, fldX2, ldX2 hX2] <;> rfl) ?_
  refine ops_call 39 _ rfl (starts_spec cv c g2 n hl hsum hv2) (fun _ => rfl) ?_
  refine ops_heap fun G1 hG1 => ?_
  have b1 : G1 n = some ⟨false, 3, ints (mixR (endsL c) (startsL c) 0)⟩ := by rw [hG1]; simp [ap_new, mixR]
  have k1 : Kp n g2 G1 := by rw [hG1]; simp only [ap_new]; exact kp_upd (Kp.refl _ _) (Nat.le_refl _)
  have hX1 : SX X sv bv cv rv G1 := k1.at hXd hX2
  clear hG1
  refine ops_run (by simp only [runL, awant_none, astep, evl, put, ap_none, List.length_nil, List.length_cons, Nat.add_zero, Nat.zero_add, upd_app, ↓reduceIte] <;> rfl) ?_
  refine w_gen (fun t => t 0 = .pointer (some ⟨X, 0, some 4⟩) ∧ t 3 = .slice (some ⟨n, 0, some c.length⟩) c.length 1) (by simp [upd_app]) ?_
  rintro t ⟨t0, t3⟩
  show awp _ _ _ _ G1 (n + 1)
  refine w_assoc (s_run (by simp only [runL, awant_none, astep, evl, put, ap_none, List.length_nil, Nat.add_zero, upd_app, stepCall, ↓reduceIte, t0, nchk, fldX2, ldX2 hX1, hlen] <;> rfl) ?_)
  refine s_rng c.length (fun i t g n' => t 3 = .slice (some ⟨n, 0, some c.length⟩) c.length 1 ∧ t 14 = cv ∧ g n = some ⟨false, 3, ints (mixR (endsL c) (startsL c) i)⟩ ∧ Kp n g2 g) (by omega) (by simp []) (by simp [upd_app])
    (fun _ => ⟨by simp [upd_app, t3], by simp [upd_app], b1, k1⟩) (by decide) ?_ ?_
  · clear b1 k1 hX1 t0 t3
    rintro i t g n' hi t16 t15 ⟨t3, t14, b, hkp⟩
    obtain ⟨p, i1, l1, _⟩ := srcN (hkp.src hv2 hvd) hi
    have hee : (endsL c).length = (startsL c).length := by rw [endsL_len, startsL_len]
    have hi' : i < (startsL c).length := by rw [startsL_len]; exact hi
    have he := endsL_at hi
    have hst := startsL_at hi
    have hml : (mixR (endsL c) (startsL c) i).length = c.length := by rw [mixR_len hee, endsL_len]
    have ly := ldN (m := c.length) (i := i) b hml (by rw [hml]; exact hi)
    rw [mixR_at hee hi', hst] at ly
    have hset := mixR_set hee hi'
    rw [he] at hset
    have hle := sum_take_le c (i + 1)
    rw [take_byt hi, List.sum_append] at hle
    simp at hle
    generalize byt c i = x at *
    have s1 := stN (m := c.length) (i := i) (x := (c.take i).sum + x) b hml (by rw [hml]; exact hi)
    rw [hset] at s1
    have w1 : IntKind.i64.wrap (((c.take i).sum : Nat) + (x : Nat) : Int) = (((c.take i).sum + x : Nat) : Int) := wrap_add (by omega)
    have iy := idxI n c.length i c.length hi
    refine s_run (by simp only [runL, awant_none, astep, evl, put, ap_none, List.length_nil, Nat.add_zero, upd_app, ↓reduceIte, Nat.reduceEqDiff, t14, t16, i1, l1] <;> rfl) ?_
    refine region_run (id := 5) (by simp only [runL, awant_none, astep, evl, put, ap_none, ap_wr, List.length_nil, Nat.add_zero, upd_app, stepBin, abin, ↓reduceIte, Nat.reduceEqDiff, undef, t3, iy, ly, w1, s1] <;> rfl) ?_
    simp only [rngPost]
    exact ⟨by simp [upd_app, t16], by simp [upd_app, t15], fun _ _ _ => ⟨by simp [upd_app, t3], by simp [upd_app, t14], by simp [], kp_upd hkp (Nat.le_refl _)⟩⟩
  · rintro t g n' ⟨t3, t14, b, hkp⟩
    have e := mixR_all (a := endsL c) (b := startsL c) (by rw [endsL_len, startsL_len])
    rw [startsL_len] at e
    rw [e] at b
    refine s_run (by simp only [runL, awant_none, astep, evl, put, ap_none, List.length_nil, Nat.add_zero, upd_app, ↓reduceIte, t3] <;> rfl) ?_
    exact w_ret (sl_fin (k := n) rfl (by simp []) (by simp [endsL_len]) (Nat.le_refl _) b (plain_is _) hs hwf hkp)

section
variable {s2 : Nat → Prop} {g2 g' : Heap} {n : Nat}
theorem fin_w22 {E R : Nat} {b1 b2 : Blk} {r : List Nat} {j : Nat} {v' : Value} (hv : v' = undef) (hne : E ≠ R) (hE : (g2 E).isSome = true) (hR : (g2 R).isSome = true) (h1 : g' E = some b1) (h2 : g' R = some b2) (hp1 : ∀ c ∈ b1.cells, plain c = true) (hp2 : ∀ c ∈ b2.cells, plain c = true)
    (hold : ∀ i b, i ≠ E → i ≠ R → g2 i = some b → g' i = some b) : Abs.Fin { v := undef, r := r, w := [(E, b1), (R, b2)], j := j } [] s2 g2 n g' v' := by
  refine fin_w hv (by intro c hc; simp at hc) (fun i hi => ?_) (fun i hi => ?_) (fun p hp c hc => ?_) (fun i b hi hb => ?_)
  · simp at hi; rcases hi with rfl | rfl
    · exact hE
    · exact hR
  · simp at hi; rcases hi with rfl | rfl
    · exact ⟨b1, by simp [setAll, upd_app, hne], h1⟩
    · exact ⟨b2, by simp [setAll], h2⟩
  · simp at hp; rcases hp with rfl | rfl
    · exact SV1_plain (hp1 c hc)
    · exact SV1_plain (hp2 c hc)
  · simp at hi
    exact hold i b hi.1 hi.2 hb
end

/-- A place is laid at a bucket's end. -/
def layE (s e : List Nat) (j : Nat) : List Nat := e.set (byt s j) (byt e (byt s j) - 1)
def layEr (s e : List Nat) (row : List Int) (j : Nat) : List Int := row.set (byt e (byt s j) - 1) (j : Int)

set_option maxRecDepth 20000 in
theorem last_spec (X E R : Nat) (sv bv cv : Value) (s e : List Nat) (row : List Int) (j : Nat) (g : Heap) (jj : Nat) (hle : e.length ≤ 2 ^ 38) (hlr : row.length ≤ 2 ^ 38) (hj : j < s.length) (hc : byt s j < e.length) (h1 : 1 ≤ byt e (byt s j)) (h2 : byt e (byt s j) ≤ row.length)
    (hX : SX X sv bv cv (.slice (some ⟨R, 0, some row.length⟩) row.length 1) g) (hE : g E = some ⟨false, 3, ints e⟩) (hR : g R = some ⟨false, 3, intsI row⟩) (hu : Src g sv 1 s.length (ints s)) (hXE : X ≠ E) (hXR : X ≠ R) (hER : E ≠ R) (hdis : ∀ i ∈ srcBlk sv, i ≠ E ∧ i ≠ R) :
    FnSpec Try.prog 53 [.pointer (some ⟨X, 0, some 4⟩), .slice (some ⟨E, 0, some e.length⟩) e.length 1, .int .i64 j] g { v := undef, r := X :: E :: R :: srcBlk sv, w := [(E, ⟨false, 3, ints (layE s e j)⟩), (R, ⟨false, 3, intsI (layEr s e row j)⟩)], j := jj } := by
  refine spec_of_body [] follows Try.func53 rfl (by kernel_rfl) (by simp [Try.f53]) (by kernel_rfl) rfl ?_
  intro g2 s2 n hg hfr hs hn hwf hsv
  have hu2 : Src g2 sv 1 s.length (ints s) := hu.congr fun i hi => hg i (by simp [Eff.fp, hi])
  have hX2 : SX X sv bv cv (.slice (some ⟨R, 0, some row.length⟩) row.length 1) g2 := by unfold SX; rw [hg X (by simp [Eff.fp])]; exact hX
  have hE2 : g2 E = some ⟨false, 3, ints e⟩ := by rw [hg E (by simp [Eff.fp])]; exact hE
  have hR2 : g2 R = some ⟨false, 3, intsI row⟩ := by rw [hg R (by simp [Eff.fp])]; exact hR
  clear hg hfr hn hX hE hR hu
  obtain ⟨p, i1, l1, _⟩ := srcN hu2 hj
  obtain ⟨c, hcc⟩ : ∃ c, byt s j = c := ⟨_, rfl⟩
  have iy := idxI E e.length c e.length (by omega)
  have ly := ldN (m := e.length) (i := c) hE2 rfl (by omega)
  have w1 : IntKind.i64.wrap (((byt e c : Nat) : Int) - 1) = ((byt e c - 1 : Nat) : Int) := wrap_sub1 (by rw [← hcc]; exact h1) (by rw [hcc] at h2; omega)
  have s1 := stN (m := e.length) (i := c) (x := byt e c - 1) hE2 rfl (by omega)
  have hLE : layE s e j = e.set c (byt e c - 1) := by unfold layE; rw [hcc]
  have hLR : layEr s e row j = row.set (byt e c - 1) (j : Int) := by unfold layEr; rw [hcc]
  rw [hcc] at l1 hc h1 h2
  refine s_run (by simp only [runL, Option.getD_some, List.getElem?_cons_succ, List.getElem?_cons_zero, awant_none, astep, evl, put, ap_none, ap_wr, List.length_nil, Nat.add_zero, upd_app, stepBin, abin, reduceCtorEq, ↓reduceIte, Nat.reduceEqDiff, undef, nchk, fldX0, ldX0 hX2, i1, l1, iy, ly, w1, s1] <;> rfl) (w_heap fun G1 hG1 => ?_)
  have hX3 : SX X sv bv cv (.slice (some ⟨R, 0, some row.length⟩) row.length 1) G1 := by unfold SX; rw [hG1, upd_ne _ _ hXE]; exact hX2
  have hE3 : G1 E = some ⟨false, 3, ints (e.set c (byt e c - 1))⟩ := by rw [hG1]; simp []
  have hR3 : G1 R = some ⟨false, 3, intsI row⟩ := by rw [hG1, upd_ne _ _ (Ne.symm hER)]; exact hR2
  have hu3 : Src G1 sv 1 s.length (ints s) := hu2.congr fun i hi => by rw [hG1, upd_ne _ _ (hdis i hi).1]
  obtain ⟨p', i1', l1', _⟩ := srcN hu3 hj
  rw [hcc] at l1'
  have ly2 := ldN (m := e.length) (i := c) hE3 (by simp) (by simp; exact hc)
  have hb2 : byt (e.set c (byt e c - 1)) c = byt e c - 1 := by rw [byt_eq (by simp; exact hc)]; simp
  rw [hb2] at ly2
  have ir := idxI R row.length (byt e c - 1) row.length (by omega)
  have s2' := stI (m := row.length) (i := byt e c - 1) (x := (j : Int)) hR3 rfl (by omega)
  refine w_gen (fun t => t 0 = .pointer (some ⟨X, 0, some 4⟩) ∧ t 1 = .slice (some ⟨E, 0, some e.length⟩) e.length 1 ∧ t 2 = .int .i64 j) (by simp [upd_app]) ?_
  rintro t ⟨t0, t1, t2⟩
  refine region_drawn #[0, 1, 3, 7, 0, 0, 32, 96, 224, 0, 992, 2016, 4080, 8176, 0, 32767, 65535] (by decide +kernel) ?_
  refine d_readsB 16 (by simp) (by simp only [runR, List.take_succ_cons, List.take_zero, awant_none, astep, evl, put, upd_app, reduceCtorEq, ↓reduceIte, Nat.reduceEqDiff, List.isEmpty_nil, Bool.and_self, t0, t1, t2, nchk, fldX3, ldX3 hX3, fldX0, ldX0 hX3, i1', l1', iy, ly2, ir] <;> rfl) fun a1 ha1 => ?_
  refine d_last _ (by simp only [astep, evl, upd_app, ↓reduceIte, Nat.reduceEqDiff, undef, s2'] <;> rfl) (by simp only [awant_none] <;> rfl) ha1 rfl ?_
  refine ⟨.inl rfl, by simp, [], fin_w22 rfl hER (by rw [hE2]; rfl) (by rw [hR2]; rfl) ?_ ?_ (plain_is _) plain_intsI fun i b hi1 hi2 hb => ?_⟩
  · simp only [ap_wr]; rw [upd_ne _ _ hER, hE3, hLE]
  · simp only [ap_wr]; rw [upd_self, hLR]
  · simp only [ap_wr]; rw [upd_ne _ _ hi2, hG1, upd_ne _ _ hi1]; exact hb

/-- A place is laid at a bucket's start. -/
def layS (s e : List Nat) (j : Nat) : List Nat := e.set (byt s j) (byt e (byt s j) + 1)
def laySr (s e : List Nat) (row : List Int) (j : Nat) : List Int := row.set (byt e (byt s j)) (j : Int)

set_option maxRecDepth 20000 in
theorem sfirst_spec (X E R : Nat) (sv bv cv : Value) (s e : List Nat) (row : List Int) (j : Nat) (g : Heap) (jj : Nat) (hle : e.length ≤ 2 ^ 38) (hlr : row.length ≤ 2 ^ 38) (hj : j < s.length) (hc : byt s j < e.length) (h2 : byt e (byt s j) < row.length)
    (hX : SX X sv bv cv (.slice (some ⟨R, 0, some row.length⟩) row.length 1) g) (hE : g E = some ⟨false, 3, ints e⟩) (hR : g R = some ⟨false, 3, intsI row⟩) (hu : Src g sv 1 s.length (ints s)) (hXE : X ≠ E) (hXR : X ≠ R) (hER : E ≠ R) (hdis : ∀ i ∈ srcBlk sv, i ≠ E ∧ i ≠ R) :
    FnSpec Try.prog 71 [.pointer (some ⟨X, 0, some 4⟩), .slice (some ⟨E, 0, some e.length⟩) e.length 1, .int .i64 j] g { v := undef, r := X :: E :: R :: srcBlk sv, w := [(E, ⟨false, 3, ints (layS s e j)⟩), (R, ⟨false, 3, intsI (laySr s e row j)⟩)], j := jj } := by
  refine spec_of_body [] follows Try.func71 rfl (by kernel_rfl) (by simp [Try.f71]) (by kernel_rfl) rfl ?_
  intro g2 s2 n hg hfr hs hn hwf hsv
  have hu2 : Src g2 sv 1 s.length (ints s) := hu.congr fun i hi => hg i (by simp [Eff.fp, hi])
  have hX2 : SX X sv bv cv (.slice (some ⟨R, 0, some row.length⟩) row.length 1) g2 := by unfold SX; rw [hg X (by simp [Eff.fp])]; exact hX
  have hE2 : g2 E = some ⟨false, 3, ints e⟩ := by rw [hg E (by simp [Eff.fp])]; exact hE
  have hR2 : g2 R = some ⟨false, 3, intsI row⟩ := by rw [hg R (by simp [Eff.fp])]; exact hR
  clear hg hfr hn hX hE hR hu
  obtain ⟨p, i1, l1, _⟩ := srcN hu2 hj
  obtain ⟨c, hcc⟩ : ∃ c, byt s j = c := ⟨_, rfl⟩
  have hLE : layS s e j = e.set c (byt e c + 1) := by unfold layS; rw [hcc]
  have hLR : laySr s e row j = row.set (byt e c) (j : Int) := by unfold laySr; rw [hcc]
  rw [hcc] at l1 hc h2
  have iy := idxI E e.length c e.length (by omega)
  have ly := ldN (m := e.length) (i := c) hE2 rfl (by omega)
  have ir := idxI R row.length (byt e c) row.length h2
  have s1 := stI (m := row.length) (i := byt e c) (x := (j : Int)) hR2 rfl h2
  refine s_drawn #[0, 1, 3, 7, 0, 0, 32, 96, 224, 0, 992, 2016, 4080, 8176, 0, 32767, 65535] (by decide +kernel) ?_
  refine d_readsB 16 (by simp) (by simp only [runR, Option.getD_some, List.getElem?_cons_succ, List.getElem?_cons_zero, List.take_succ_cons, List.take_zero, awant_none, astep, evl, put, upd_app, reduceCtorEq, ↓reduceIte, Nat.reduceEqDiff, undef, List.isEmpty_nil, Bool.and_self, nchk, fldX3, ldX3 hX2, fldX0, ldX0 hX2, i1, l1, iy, ly, ir] <;> rfl) fun a1 ha1 => ?_
  refine d_last _ (by simp only [astep, evl, upd_app, ↓reduceIte, Nat.reduceEqDiff, undef, s1] <;> rfl) (by simp only [awant_none] <;> rfl) ha1 rfl ?_
  simp only [ap_wr]
  refine w_heap fun G1 hG1 => ?_
  have hX3 : SX X sv bv cv (.slice (some ⟨R, 0, some row.length⟩) row.length 1) G1 := by unfold SX; rw [hG1, upd_ne _ _ hXR]; exact hX2
  have hE3 : G1 E = some ⟨false, 3, ints e⟩ := by rw [hG1, upd_ne _ _ hER]; exact hE2
  have hR3 : G1 R = some ⟨false, 3, intsI (row.set (byt e c) (j : Int))⟩ := by rw [hG1]; simp []
  have hu3 : Src G1 sv 1 s.length (ints s) := hu2.congr fun i hi => by rw [hG1, upd_ne _ _ (hdis i hi).2]
  obtain ⟨p', i1', l1', _⟩ := srcN hu3 hj
  rw [hcc] at l1'
  have ly2 := ldN (m := e.length) (i := c) hE3 rfl hc
  have w1 : IntKind.i64.wrap (((byt e c : Nat) : Int) + 1) = ((byt e c + 1 : Nat) : Int) := wrap_succ (by omega)
  have s2' := stN (m := e.length) (i := c) (x := byt e c + 1) hE3 rfl hc
  refine w_gen (fun t => t 0 = .pointer (some ⟨X, 0, some 4⟩) ∧ t 1 = .slice (some ⟨E, 0, some e.length⟩) e.length 1 ∧ t 2 = .int .i64 j) (by simp [upd_app, put]) ?_
  rintro t ⟨t0, t1, t2⟩
  refine region_run (id := 1) (by simp only [runL, awant_none, astep, evl, put, ap_none, ap_wr, List.length_nil, Nat.add_zero, upd_app, stepBin, abin, reduceCtorEq, ↓reduceIte, Nat.reduceEqDiff, undef, t0, t1, t2, nchk, fldX0, ldX0 hX3, i1', l1', iy, ly2, w1, s2'] <;> rfl) ?_
  refine ⟨.inl rfl, by simp, [], fin_w22 rfl hER (by rw [hE2]; rfl) (by rw [hR2]; rfl) ?_ ?_ (plain_is _) plain_intsI fun i b hi1 hi2 hb => ?_⟩
  · rw [upd_self, hLE]
  · rw [upd_ne _ _ (Ne.symm hER), hR3, hLR]
  · rw [upd_ne _ _ hi1, hG1, upd_ne _ _ hi2]; exact hb
end Go.Proofs.Ytdpkhijbikbhnaa
