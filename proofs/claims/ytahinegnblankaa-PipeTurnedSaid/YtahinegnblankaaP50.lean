import Derived.Test.YtahinegnblankaaP40
import Derived.Test.YtahinegnblankaaF16
namespace Go.Proofs.Ytahinegnblankaa
open Go Abs
set_option linter.unusedSimpArgs false
set_option linter.unusedVariables false

theorem find_of {c : List Nat} : ∀ {k u : Nat}, k < c.length → u < byt c k → find c ((c.take k).sum + u) = k := by
  induction c with
  | nil => intro k u h; simp at h
  | cons x c ih =>
    intro k u hk hu
    cases k with
    | zero =>
      simp [byt] at hu
      rw [find, if_pos (by simpa using hu)]
    | succ k =>
      have := ih (k := k) (u := u) (by simpa using hk) (by simpa [byt] using hu)
      rw [List.take_succ_cons, List.sum_cons, find, if_neg (by omega), show x + (c.take k).sum + u - x = (c.take k).sum + u by omega, this]

/-- A symbol's class; the model that is asked. -/
def clsN (s : Nat) : Nat := if s < 2 then 0 else if s < 6 then 1 else 2
theorem clsN_lt (s : Nat) : clsN s < 3 := by unfold clsN; split <;> (try split) <;> omega
def whN (o s : Nat) : Nat := clsN s * o
theorem whN_lt {o s : Nat} (ho : o ≤ 1) : whN o s < 3 := by
  have := clsN_lt s
  have : o = 0 ∨ o = 1 := by omega
  unfold whN
  rcases this with rfl | rfl <;> omega
def setF (f : Nat → List Nat) (i : Nat) (c : List Nat) : Nat → List Nat := fun k => if k = i then c else f k
theorem setF_self (f : Nat → List Nat) (i : Nat) (c : List Nat) : setF f i c i = c := by simp [setF]
theorem setF_ne {f : Nat → List Nat} {i k : Nat} {c : List Nat} (h : k ≠ i) : setF f i c k = f k := by simp [setF, h]

structure PS where
  ms : Nat → List Nat
  last : Nat
  N : List Nat
  r : Nat
def pst (o : Nat) (s : PS) (x : Nat) : PS :=
  ⟨setF s.ms (whN o s.last) (saw (s.ms (whN o s.last)) x), x, nxN s.N s.r (((s.ms (whN o s.last)).take x).sum : Nat) (byt (s.ms (whN o s.last)) x : Nat) ((s.ms (whN o s.last)).sum : Nat), nxR s.r (((s.ms (whN o s.last)).take x).sum : Nat) (byt (s.ms (whN o s.last)) x : Nat) ((s.ms (whN o s.last)).sum : Nat)⟩
def ps0 : PS := ⟨fun _ => ones 258, 0, [0, 0, 0, 0], 4294967295⟩

structure PG (s : PS) : Prop where
  g : ∀ i, Good (s.ms i)
  l : ∀ i, (s.ms i).length = 258
  e : Enc s.N s.r

theorem PG.start : PG ps0 := ⟨fun _ => good_ones (by omega), fun _ => by simp [ps0], Enc.start⟩
theorem PG.step {o x : Nat} {s : PS} (h : PG s) (hx : x < 258) : PG (pst o s x) := by
  refine ⟨fun i => ?_, fun i => ?_, h.e.nx⟩
  · by_cases hi : i = whN o s.last
    · subst hi
      show Good (setF _ _ _ _)
      rw [setF_self]
      exact (h.g _).saw (by rw [h.l]; exact hx)
    · show Good (setF _ _ _ _)
      rw [setF_ne hi]
      exact h.g i
  · by_cases hi : i = whN o s.last
    · subst hi
      show (setF _ _ _ _).length = 258
      rw [setF_self, saw_len]
      exact h.l _
    · show (setF _ _ _ _).length = 258
      rw [setF_ne hi]
      exact h.l i
def pall (o : Nat) (l : List Nat) (s : PS) : PS := l.foldl (pst o) s
theorem PG.all {o : Nat} {l : List Nat} : ∀ {s : PS}, PG s → (∀ x ∈ l, x < 258) → PG (pall o l s) := by
  induction l with
  | nil => intro s h _; exact h
  | cons x l ih => intro s h hl; exact ih (h.step (hl x (by simp))) (fun y hy => hl y (by simp [hy]))
theorem pall_snoc (o : Nat) (l : List Nat) (x : Nat) (s : PS) : pall o (l ++ [x]) s = pst o (pall o l s) x := by simp [pall]
theorem pall_len {o : Nat} (l : List Nat) : ∀ (s : PS), (pall o l s).N.length ≤ s.N.length + 2 * l.length := by
  induction l with
  | nil => intro s; simp [pall]
  | cons x l ih =>
    intro s
    have h1 := ih (pst o s x)
    have h2 := (nxN_len (N := s.N) (r := s.r) (x := ((((s.ms (whN o s.last)).take x).sum : Nat) : Int)) (y := ((byt (s.ms (whN o s.last)) x : Nat) : Int)) (z := (((s.ms (whN o s.last)).sum : Nat) : Int))).2
    have h3 : (pst o s x).N.length ≤ s.N.length + 2 := h2
    show (pall o l (pst o s x)).N.length ≤ _
    rw [List.length_cons]
    omega

theorem good_span {c : List Nat} {x : Nat} (h : Good c) (hx : x < c.length) : 1 ≤ byt c x ∧ (c.take x).sum + byt c x ≤ c.sum ∧ c.sum ≤ 65504 := by
  have h1 := sum_take_succ hx
  have h2 := sum_take_le c (x + 1)
  refine ⟨?_, by omega, h.sum⟩
  rw [byt_eq hx]
  exact h.pos _ (List.getElem_mem hx)
theorem good_put {c : List Nat} {x r : Nat} (h : Good c) (hx : x < c.length) (h1 : 2 ^ 24 ≤ r) (h2 : r < 2 ^ 32) : PutOk r (c.take x).sum (byt c x) c.sum := by
  obtain ⟨a, b, d⟩ := good_span h hx
  exact ⟨h1, h2, by omega, a, b⟩
theorem good_spn {c : List Nat} {x : Nat} (h : Good c) (hx : x < c.length) : spn ((c.take x).sum : Nat) (byt c x : Nat) (c.sum : Nat) = true := by
  obtain ⟨a, b, d⟩ := good_span h hx
  exact decide_eq_true ⟨by omega, by omega, by omega, by omega, by omega⟩
theorem pst_N {o x : Nat} {s : PS} (h : PG s) (hx : x < 258) : (pst o s x).N = putN s.N s.r ((s.ms (whN o s.last)).take x).sum (byt (s.ms (whN o s.last)) x) (s.ms (whN o s.last)).sum := by
  show nxN _ _ _ _ _ = _
  unfold nxN
  rw [if_pos (good_spn (h.g _) (by rw [h.l]; exact hx))]
  rfl
theorem pst_r {o x : Nat} {s : PS} (h : PG s) (hx : x < 258) : (pst o s x).r = putR s.r (byt (s.ms (whN o s.last)) x) (s.ms (whN o s.last)).sum := by
  show nxR _ _ _ _ = _
  unfold nxR
  rw [if_pos (good_spn (h.g _) (by rw [h.l]; exact hx))]
  rfl
theorem pall_lies {o : Nat} {l : List Nat} : ∀ {s : PS}, PG s → (∀ x ∈ l, x < 258) → Lies (pall o l s).N s.N s.r := by
  induction l with
  | nil => intro s h _; exact Lies.refl (by have := h.e.r1; omega)
  | cons x l ih =>
    intro s h hl
    have hx := hl x (by simp)
    have h1 := ih (h.step (o := o) hx) (fun y hy => hl y (by simp [hy]))
    rw [pst_N h hx, pst_r h hx] at h1
    exact Lies.put h.e (good_put (h.g _) (by rw [h.l]; exact hx) h.e.r1 h.e.r2) h1

/-- The reader's side. -/
structure DS where
  ms : Nat → List Nat
  last : Nat
  u : Nat
  c : Nat
  r : Nat
def dsx (o : Nat) (s : DS) : Nat := find (s.ms (whN o s.last)) (s.c / (s.r / (s.ms (whN o s.last)).sum))
def dsB (o : Nat) (len : Nat) (s : DS) : Bool := cfB s.c s.r ((s.ms (whN o s.last)).sum : Nat) && tkB len s.u s.c s.r (((s.ms (whN o s.last)).take (dsx o s)).sum : Nat) (byt (s.ms (whN o s.last)) (dsx o s) : Nat) ((s.ms (whN o s.last)).sum : Nat)
def dsN (o : Nat) (F : List Nat) (s : DS) : DS :=
  ⟨setF s.ms (whN o s.last) (saw (s.ms (whN o s.last)) (dsx o s)), dsx o s,
   tkU F.length s.u s.c s.r (((s.ms (whN o s.last)).take (dsx o s)).sum : Nat) (byt (s.ms (whN o s.last)) (dsx o s) : Nat) ((s.ms (whN o s.last)).sum : Nat),
   tkC F s.u s.c s.r (((s.ms (whN o s.last)).take (dsx o s)).sum : Nat) (byt (s.ms (whN o s.last)) (dsx o s) : Nat) ((s.ms (whN o s.last)).sum : Nat),
   tkR F.length s.u s.c s.r (((s.ms (whN o s.last)).take (dsx o s)).sum : Nat) (byt (s.ms (whN o s.last)) (dsx o s) : Nat) ((s.ms (whN o s.last)).sum : Nat)⟩
def dall (o : Nat) (F : List Nat) : Nat → DS → Option (List Nat)
  | 0, _ => none
  | k + 1, s => if dsB o F.length s then (if dsx o s = 257 then some [] else (dall o F k (dsN o F s)).map (dsx o s :: ·)) else none
def ds0 (F : List Nat) : DS := ⟨fun _ => ones 258, 0, 4, be (F.take 4), 4294967295⟩

structure Sync (F : List Nat) (s : PS) (d : DS) : Prop where
  m : d.ms = s.ms
  a : d.last = s.last
  r : d.r = s.r
  u : d.u = s.N.length
  c : d.c + be s.N = be (F.take s.N.length)

theorem Sync.step {o x : Nat} {F : List Nat} {s : PS} {d : DS} (h : Sync F s d) (hg : PG s) (hx : x < 258) (hF : ∀ x ∈ F, x < 256) (hL : Lies F (pst o s x).N (pst o s x).r) : dsx o d = x ∧ dsB o F.length d = true ∧ Sync F (pst o s x) (dsN o F d) := by
  obtain ⟨dm, dl, du, dc, dr⟩ := d
  obtain ⟨rfl, rfl, rfl, rfl, hc⟩ := h
  dsimp only at hc
  have hxl : x < (s.ms (whN o s.last)).length := by rw [hg.l]; exact hx
  have ok := good_put (hg.g (whN o s.last)) hxl hg.e.r1 hg.e.r2
  have hsp := good_spn (hg.g (whN o s.last)) hxl
  obtain ⟨b1, b2, b3⟩ := good_span (hg.g (whN o s.last)) hxl
  have eN := pst_N (o := o) hg hx
  have eR := pst_r (o := o) hg hx
  rw [eN, eR] at hL
  obtain ⟨⟨a1, a2⟩, a3, a4⟩ := back_step hF hg.e ok hL hc
  have hp := ok.part.1
  generalize hm : s.ms (whN o s.last) = m at *
  have q1 : (m.take x).sum ≤ dc / (s.r / m.sum) := by rw [Nat.le_div_iff_mul_le (by omega), Nat.mul_comm]; exact a1
  have q2 : dc / (s.r / m.sum) < (m.take x).sum + byt m x := by rw [Nat.div_lt_iff_lt_mul (by omega), Nat.mul_comm]; exact a2
  have hdx : dsx o ⟨s.ms, s.last, s.N.length, dc, s.r⟩ = x := by
    show find (s.ms (whN o s.last)) (dc / (s.r / (s.ms (whN o s.last)).sum)) = x
    rw [hm]
    have := find_of (c := m) (k := x) (u := dc / (s.r / m.sum) - (m.take x).sum) hxl (by omega)
    rwa [show (m.take x).sum + (dc / (s.r / m.sum) - (m.take x).sum) = dc / (s.r / m.sum) by omega] at this
  have hO : tkO dc s.r ((m.take x).sum : Nat) (byt m x : Nat) (m.sum : Nat) = true := by
    unfold tkO
    rw [hsp, Bool.true_and]
    exact decide_eq_true ⟨a1, a2⟩
  have hcf : cfB dc s.r (m.sum : Nat) = true := decide_eq_true ⟨by omega, by omega, by rw [Int.toNat_natCast]; omega⟩
  have hK : tkK F.length s.N.length s.r (byt m x : Nat) (m.sum : Nat) = sh (s.r / m.sum * byt m x) := Nat.min_eq_left a3
  have hTB : tkB F.length s.N.length dc s.r ((m.take x).sum : Nat) (byt m x : Nat) (m.sum : Nat) = true := by
    unfold tkB
    rw [hO, Bool.true_and]
    exact decide_eq_true a3
  have hB : dsB o F.length ⟨s.ms, s.last, s.N.length, dc, s.r⟩ = true := by
    unfold dsB
    rw [hdx]
    show (cfB dc s.r ((s.ms (whN o s.last)).sum : Nat) && tkB F.length s.N.length dc s.r (((s.ms (whN o s.last)).take x).sum : Nat) (byt (s.ms (whN o s.last)) x : Nat) ((s.ms (whN o s.last)).sum : Nat)) = true
    rw [hm, hcf, hTB]
    rfl
  refine ⟨hdx, hB, ?_⟩
  unfold dsN
  rw [hdx]
  refine ⟨?_, rfl, ?_, ?_, ?_⟩
  · show setF s.ms (whN o s.last) (saw (s.ms (whN o s.last)) x) = setF s.ms (whN o s.last) (saw (s.ms (whN o s.last)) x)
    rfl
  · rw [eR]
    show tkR F.length s.N.length dc s.r ((((s.ms (whN o s.last)).take x).sum : Nat) : Int) ((byt (s.ms (whN o s.last)) x : Nat) : Int) (((s.ms (whN o s.last)).sum : Nat) : Int) = _
    rw [hm, tkR, if_pos hO, hK]
    rfl
  · rw [eN, putN_len]
    show tkU F.length s.N.length dc s.r ((((s.ms (whN o s.last)).take x).sum : Nat) : Int) ((byt (s.ms (whN o s.last)) x : Nat) : Int) (((s.ms (whN o s.last)).sum : Nat) : Int) = _
    rw [hm, tkU, if_pos hO, hK]
  · rw [eN, ← a4]
    show tkC F s.N.length dc s.r ((((s.ms (whN o s.last)).take x).sum : Nat) : Int) ((byt (s.ms (whN o s.last)) x : Nat) : Int) (((s.ms (whN o s.last)).sum : Nat) : Int) + _ = _
    rw [hm, tkC, if_pos hO, hK]
    rfl

theorem dall_enc {o : Nat} {F : List Nat} (hF : ∀ x ∈ F, x < 256) : ∀ (l : List Nat) (s : PS) (d : DS) (k : Nat), Sync F s d → PG s → (∀ x ∈ l, x < 257) → F = (pall o (l ++ [257]) s).N → l.length < k → dall o F k d = some l := by
  intro l
  induction l with
  | nil =>
    intro s d k h hg _ hN hk
    obtain ⟨k, rfl⟩ : ∃ j, k = j + 1 := ⟨k - 1, by simp at hk; omega⟩
    have hL : Lies F (pst o s 257).N (pst o s 257).r := by
      have := pall_lies (o := o) (l := []) (hg.step (o := o) (x := 257) (by omega)) (by simp)
      rw [hN]; exact this
    obtain ⟨e1, e2, _⟩ := h.step hg (x := 257) (by omega) hF hL
    rw [dall, if_pos e2, if_pos e1]
  | cons x l ih =>
    intro s d k h hg hl hN hk
    obtain ⟨k, rfl⟩ : ∃ j, k = j + 1 := ⟨k - 1, by simp at hk; omega⟩
    have hx := hl x (by simp)
    have hl' : ∀ y ∈ l ++ [257], y < 258 := fun y hy => by
      rcases List.mem_append.1 hy with hy | hy
      · have := hl y (by simp [hy]); omega
      · simp at hy; omega
    have hL : Lies F (pst o s x).N (pst o s x).r := by
      have := pall_lies (o := o) (l := l ++ [257]) (hg.step (o := o) (x := x) (by omega)) hl'
      rw [hN]; exact this
    obtain ⟨e1, e2, e3⟩ := h.step hg (x := x) (by omega) hF hL
    rw [dall, if_pos e2, if_neg (by rw [e1]; omega), ih _ _ k e3 (hg.step (by omega)) (fun y hy => hl y (by simp [hy])) hN (by simpa using hk), e1]
    rfl

theorem dall_len {o : Nat} {F : List Nat} : ∀ {k : Nat} {d : DS} {l : List Nat}, dall o F k d = some l → l.length < k
  | 0, d, l, h => by simp [dall] at h
  | k + 1, d, l, h => by
    rw [dall] at h
    split at h
    · split at h
      · cases h; simp
      · obtain ⟨a, ha, rfl⟩ := Option.map_eq_some_iff.1 h
        have := dall_len ha
        simpa using this
    · cases h
theorem dall_fuel {o : Nat} {F : List Nat} : ∀ {k : Nat} {d : DS} {l : List Nat}, dall o F k d = some l → ∀ {m : Nat}, l.length < m → dall o F m d = some l
  | 0, d, l, h, m, hm => by simp [dall] at h
  | k + 1, d, l, h, m, hm => by
    obtain ⟨m, rfl⟩ : ∃ j, m = j + 1 := ⟨m - 1, by omega⟩
    rw [dall] at h ⊢
    split at h
    · rename_i h1
      rw [if_pos h1]
      split at h
      · rename_i h2
        rw [if_pos h2]; exact h
      · rename_i h2
        obtain ⟨a, ha, rfl⟩ := Option.map_eq_some_iff.1 h
        rw [if_neg h2, dall_fuel ha (m := m) (by simpa using hm)]
        rfl
    · cases h

theorem more_app {F R : List Nat} {c u k : Nat} (h : u + k ≤ F.length) : more (F ++ R) c u k = more F c u k := by
  unfold more
  rw [List.drop_append_of_le_length (by omega), List.take_append_of_le_length (by simp; omega)]

theorem tkB_le {len u c r : Nat} {x y z : Int} (h : tkB len u c r x y z = true) : tkO c r x y z = true ∧ sh (tkR1 r y z) ≤ len - u := by
  unfold tkB at h
  rw [Bool.and_eq_true] at h
  exact ⟨h.1, of_decide_eq_true h.2⟩

theorem dall_app {o : Nat} {F R : List Nat} : ∀ {k : Nat} {d : DS} {l : List Nat}, d.u ≤ F.length → dall o F k d = some l → dall o (F ++ R) k d = some l
  | 0, d, l, hu, h => by simp [dall] at h
  | k + 1, d, l, hu, h => by
    rw [dall] at h ⊢
    split at h
    · rename_i h1
      have h1' := h1
      unfold dsB at h1'
      rw [Bool.and_eq_true] at h1'
      obtain ⟨hc, ht⟩ := h1'
      obtain ⟨hO, hs⟩ := tkB_le ht
      have h2 : dsB o (F ++ R).length d = true := by
        unfold dsB
        rw [hc, Bool.true_and, tkB, hO, Bool.true_and]
        exact decide_eq_true (by simp; omega)
      rw [if_pos h2]
      split at h
      · rename_i h3
        rw [if_pos h3]; exact h
      · rename_i h3
        obtain ⟨a, ha, rfl⟩ := Option.map_eq_some_iff.1 h
        have hsh := sh_le (tkR1 d.r (byt (d.ms (whN o d.last)) (dsx o d) : Nat) ((d.ms (whN o d.last)).sum : Nat))
        have hn : dsN o (F ++ R) d = dsN o F d := by
          unfold dsN tkU tkC tkR tkK
          rw [if_pos hO, if_pos hO, if_pos hO, if_pos hO, if_pos hO, if_pos hO, Nat.min_eq_left hs, Nat.min_eq_left (by simp; omega)]
          rw [more_app]
          by_cases h0 : sh (tkR1 d.r (byt (d.ms (whN o d.last)) (dsx o d) : Nat) ((d.ms (whN o d.last)).sum : Nat)) = 0
          · omega
          · omega
        have hu' : (dsN o F d).u ≤ F.length := by
          show tkU _ _ _ _ _ _ _ ≤ _
          unfold tkU tkK
          rw [if_pos hO, Nat.min_eq_left hs]
          omega
        rw [if_neg h3, hn, dall_app hu' ha]
        rfl
    · cases h

/-- The symbols of bytes; bytes pressed. -/
def syms (b : List Nat) : List Nat := tell (move b row0) 0 ++ [257]
def packB (o : Nat) (b : List Nat) : List Nat := (pall o (syms b) ps0).N

theorem tell_lt : ∀ (b : List Nat) (n : Nat), (∀ x ∈ b, x < 256) → ∀ x ∈ tell b n, x < 257 := by
  intro b
  induction b with
  | nil => intro n _ x hx; rw [tell] at hx; have := told_dig n x hx; omega
  | cons c b ih =>
    intro n hb x hx
    have hc := hb c (by simp)
    rw [tell] at hx
    split at hx
    · exact ih _ (fun y hy => hb y (by simp [hy])) x hx
    · rcases List.mem_append.1 hx with hx | hx
      · have := told_dig n x hx; omega
      · rcases List.mem_cons.1 hx with rfl | hx
        · omega
        · exact ih _ (fun y hy => hb y (by simp [hy])) x hx
theorem full0 : Full row0 := full_row
theorem tm_lt {b : List Nat} (hb : ∀ x ∈ b, x < 256) : ∀ x ∈ tell (move b row0) 0, x < 257 := tell_lt _ _ (move_lt hb full0)
theorem syms_lt {b : List Nat} (hb : ∀ x ∈ b, x < 256) : ∀ x ∈ syms b, x < 258 := by
  intro x hx
  rcases List.mem_append.1 hx with hx | hx
  · have := tm_lt hb x hx; omega
  · simp at hx; omega
theorem packB_good {o : Nat} {b : List Nat} (hb : ∀ x ∈ b, x < 256) : PG (pall o (syms b) ps0) := PG.start.all (syms_lt hb)
theorem packB_lt {o : Nat} {b : List Nat} (hb : ∀ x ∈ b, x < 256) : ∀ x ∈ packB o b, x < 256 := (packB_good hb).e.b
theorem packB_l4 {o : Nat} {b : List Nat} (hb : ∀ x ∈ b, x < 256) : 4 ≤ (packB o b).length := (packB_good hb).e.l
theorem packB_len (o : Nat) (b : List Nat) : (packB o b).length ≤ 6 + 2 * b.length := by
  have h1 := pall_len (o := o) (syms b) ps0
  have h2 := tell_len (move b row0) 0
  rw [move_len] at h2
  unfold packB
  simp only [syms, List.length_append, List.length_singleton] at h1 ⊢
  have : ps0.N.length = 4 := rfl
  omega

/-- What was pressed is told. -/
theorem dall_pack {o : Nat} {b : List Nat} (hb : ∀ x ∈ b, x < 256) {k : Nat} (hk : b.length < k) : dall o (packB o b) k (ds0 (packB o b)) = some (tell (move b row0) 0) := by
  refine dall_enc (packB_lt hb) _ ps0 _ k ⟨rfl, rfl, rfl, rfl, ?_⟩ PG.start (tm_lt hb) rfl ?_
  · show be (List.take 4 _) + be [0, 0, 0, 0] = be (List.take 4 _)
    rw [show be [0, 0, 0, 0] = 0 from rfl, Nat.add_zero]
  · have h2 := tell_len (move b row0) 0
    rw [move_len] at h2
    omega

/-- What bytes are that were pressed; k: how many symbols at most. -/
def unpP (o : Nat) (F : List Nat) (most k : Nat) : Option (List Nat) :=
  if F.length < 4 then none else
  match dall o F k (ds0 F) with
  | none => none
  | some l => match rback (zs l) most [] 1 with
    | none => none
    | some p => if packB o (back p row0) = F then some (back p row0) else none

theorem zs_inj {a b : List Nat} (h : zs a = zs b) : a = b := by
  induction a generalizing b with
  | nil => cases b with
    | nil => rfl
    | cons y b => simp [zs] at h
  | cons x a ih => cases b with
    | nil => simp [zs] at h
    | cons y b =>
      simp only [zs, List.map_cons, List.cons.injEq] at h
      rw [ih (b := b) h.2, show x = y by omega]

theorem unpP_some {o : Nat} {F : List Nat} {most k : Nat} {b : List Nat} (h : unpP o F most k = some b) : 4 ≤ F.length ∧ packB o b = F ∧ ∃ l, dall o F k (ds0 F) = some l ∧ syms b = l ++ [257] ∧ b.length ≤ most := by
  unfold unpP at h
  split at h
  · cases h
  · rename_i h4
    split at h
    · cases h
    · rename_i l hl
      split at h
      · cases h
      · rename_i p hp
        split at h
        · rename_i he
          cases h
          have h1 := zs_inj (tell_rback0 hp)
          have h2 := rback_lt hp (by simp)
          have h3 := rback_len hp (by simp)
          refine ⟨by omega, he, l, hl, ?_, by rw [back_len]; exact h3⟩
          rw [syms, move_back h2 full0 row0_nodup, h1]
        · cases h

theorem unpP_fuel {o : Nat} {F : List Nat} {most k : Nat} (hk : most < k) : unpP o F most k = unpP o F most (most + 1) := by
  unfold unpP
  split
  · rfl
  · cases h1 : dall o F k (ds0 F) with
    | none =>
      cases h2 : dall o F (most + 1) (ds0 F) with
      | none => rfl
      | some l =>
        have := dall_len h2
        rw [dall_fuel h2 (m := k) (by omega)] at h1
        cases h1
    | some l =>
      cases h3 : rback (zs l) most [] 1 with
      | none =>
        cases h2 : dall o F (most + 1) (ds0 F) with
        | none => dsimp only; rw [h3]
        | some l' =>
          have := dall_len h2
          have e := dall_fuel h2 (m := k) (by omega)
          rw [h1] at e
          cases e
          rfl
      | some p =>
        have h4 := zs_inj (tell_rback0 h3)
        have h5 := rback_len h3 (by simp)
        have h6 := tell_len p 0
        rw [h4] at h6
        rw [dall_fuel h1 (m := most + 1) (by omega)]

theorem unpP_pack {o : Nat} {b : List Nat} (hb : ∀ x ∈ b, x < 256) {most k : Nat} (hk : most < k) (hm : b.length ≤ most) : unpP o (packB o b) most k = some b := by
  unfold unpP
  have h4 := packB_l4 (o := o) hb
  rw [if_neg (by omega), dall_pack hb (by omega)]
  dsimp only
  rw [rback_tell _ _ _ (move_lt hb full0) (by simp), if_neg (by simp [move_len]; omega)]
  dsimp only
  rw [List.nil_append, List.replicate_zero, List.nil_append, back_move hb full0, if_pos rfl]

theorem unpP_less {o : Nat} {b : List Nat} (hb : ∀ x ∈ b, x < 256) {most k : Nat} (hm : most < b.length) : unpP o (packB o b) most k = none := by
  cases h : unpP o (packB o b) most k with
  | none => rfl
  | some b' =>
    obtain ⟨h1, h2, l, h3, h4, h5⟩ := unpP_some h
    have h6 := dall_fuel h3 (m := max (l.length + 1) (b.length + 1)) (by omega)
    rw [dall_pack hb (by omega)] at h6
    cases h6
    unfold unpP at h
    rw [if_neg (by omega), h3] at h
    dsimp only at h
    rw [rback_tell _ _ _ (move_lt hb full0) (by simp), if_pos (by simp [move_len]; omega)] at h
    cases h

theorem unpP_long {o : Nat} {b R : List Nat} (hb : ∀ x ∈ b, x < 256) (hR : R ≠ []) {most k : Nat} : unpP o (packB o b ++ R) most k = none := by
  cases h : unpP o (packB o b ++ R) most k with
  | none => rfl
  | some b' =>
    obtain ⟨h1, h2, l, h3, h4, h5⟩ := unpP_some h
    have hl4 := packB_l4 (o := o) hb
    have h6 := dall_fuel h3 (m := max (l.length + 1) (b.length + 1)) (by omega)
    have e0 : ds0 (packB o b ++ R) = ds0 (packB o b) := by unfold ds0; rw [List.take_append_of_le_length (by omega)]
    have h7 := dall_app (R := R) (k := max (l.length + 1) (b.length + 1)) (show (ds0 (packB o b)).u ≤ _ from hl4) (dall_pack hb (by omega))
    rw [e0, h7] at h6
    cases h6
    have h8 : syms b' = syms b := h4
    unfold packB at h2
    rw [h8] at h2
    have h9 := congrArg List.length h2
    rw [List.length_append] at h9
    have h10 := List.length_pos_iff.2 hR
    omega

theorem unpP_short {o : Nat} {b F R : List Nat} (hb : ∀ x ∈ b, x < 256) (hR : R ≠ []) (hF : packB o b = F ++ R) {most k : Nat} : unpP o F most k = none := by
  cases h : unpP o F most k with
  | none => rfl
  | some b' =>
    obtain ⟨h1, h2, l, h3, h4, h5⟩ := unpP_some h
    have e0 : ds0 (F ++ R) = ds0 F := by unfold ds0; rw [List.take_append_of_le_length h1]
    have h6 := dall_fuel h3 (m := max (l.length + 1) (b.length + 1)) (by omega)
    have h7 := dall_app (R := R) (show (ds0 F).u ≤ _ from h1) h6
    have h8 := dall_pack (o := o) hb (k := max (l.length + 1) (b.length + 1)) (by omega)
    rw [hF, e0, h7] at h8
    cases h8
    have h9 : syms b' = syms b := h4
    unfold packB at h2 hF
    rw [h9, hF] at h2
    have h10 := congrArg List.length h2
    rw [List.length_append] at h10
    have h11 := List.length_pos_iff.2 hR
    omega

theorem move_rep (c : Nat) : ∀ (m : Nat) (t : List Nat), move (List.replicate m c) (c :: t) = List.replicate m 0 := by
  intro m
  induction m with
  | zero => intro t; rfl
  | succ m ih =>
    intro t
    rw [List.replicate_succ, move, idx, if_pos rfl, List.replicate_succ]
    have : mv (c :: t) 0 = c :: t := by simp [mv, byt]
    rw [this, ih]
theorem told_small {n : Nat} (h : n ≤ 2000) : (told n).length ≤ 10 := by
  have h1 := (told_log n).1
  rcases Nat.lt_or_ge 10 (told n).length with h2 | h2
  · have := Nat.pow_le_pow_right (n := 2) (by omega) (show 11 ≤ (told n).length by omega)
    omega
  · exact h2
/-- One byte again and again becomes few. -/
theorem packB_rep {o n c : Nat} (hc : c < 256) (hn : n ≤ 2000) : (packB o (List.replicate n c)).length ≤ 32 := by
  have h1 := pall_len (o := o) (syms (List.replicate n c)) ps0
  have h2 : (syms (List.replicate n c)).length ≤ 12 := by
    unfold syms
    rw [List.length_append, List.length_singleton]
    have key : (tell (move (List.replicate n c) row0) 0).length ≤ 11 := by
      cases n with
      | zero => simp [move, tell, told_zero]
      | succ n =>
        have hm : mv row0 (idx row0 c) = c :: (row0.take (idx row0 c) ++ row0.drop (idx row0 c + 1)) := by rw [mv, idx_byt (full0.mem c hc)]
        rw [List.replicate_succ, move, hm, move_rep]
        generalize idx row0 c = k
        rw [tell]
        have hz : ∀ z, tell (List.replicate n 0) z = told (z + n) := fun z => by
          have := tell_zeros [] n z
          rw [List.append_nil] at this
          rw [this, tell]
        split
        · rw [hz]
          have := told_small (n := 0 + 1 + n) (by omega)
          omega
        · rw [told_zero, List.nil_append, List.length_cons, hz]
          have := told_small (n := 0 + n) (by omega)
          omega
    omega
  have h3 : ps0.N.length = 4 := rfl
  unfold packB
  omega
end Go.Proofs.Ytahinegnblankaa
