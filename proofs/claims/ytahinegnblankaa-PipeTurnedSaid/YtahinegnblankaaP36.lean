import Derived.Test.YtahinegnblankaaQ1
namespace Go.Proofs.Ytahinegnblankaa
open Go Abs
set_option linter.unusedSimpArgs false
set_option linter.unusedVariables false

abbrev ptr4 (p : Nat) : Value := .pointer (some ⟨p, 0, some 4⟩)
theorem foff91_0 : foff Try.prog 91 0 = some 0 := by kernel_rfl
theorem foff91_1 : foff Try.prog 91 1 = some 1 := by kernel_rfl
theorem foff91_2 : foff Try.prog 91 2 = some 2 := by kernel_rfl
theorem foff91_3 : foff Try.prog 91 3 = some 3 := by kernel_rfl
theorem foff70_0 : foff Try.prog 70 0 = some 0 := by kernel_rfl
theorem foff70_1 : foff Try.prog 70 1 = some 1 := by kernel_rfl
theorem foff70_2 : foff Try.prog 70 2 = some 2 := by kernel_rfl
theorem foff70_3 : foff Try.prog 70 3 = some 3 := by kernel_rfl
theorem fld91_0 (p : Nat) (s : Option Nat) : stepField Try.prog 91 (.pointer (some ⟨p, 0, s⟩)) 0 = some { v := .pointer (some ⟨p, 0, s⟩) } := by simp [stepField, foff91_0]
theorem fld91_1 (p : Nat) (s : Option Nat) : stepField Try.prog 91 (.pointer (some ⟨p, 0, s⟩)) 1 = some { v := .pointer (some ⟨p, 1, s⟩) } := by simp [stepField, foff91_1]
theorem fld91_2 (p : Nat) (s : Option Nat) : stepField Try.prog 91 (.pointer (some ⟨p, 0, s⟩)) 2 = some { v := .pointer (some ⟨p, 2, s⟩) } := by simp [stepField, foff91_2]
theorem fld91_3 (p : Nat) (s : Option Nat) : stepField Try.prog 91 (.pointer (some ⟨p, 0, s⟩)) 3 = some { v := .pointer (some ⟨p, 3, s⟩) } := by simp [stepField, foff91_3]
theorem fld70_0 (p : Nat) (s : Option Nat) : stepField Try.prog 70 (.pointer (some ⟨p, 0, s⟩)) 0 = some { v := .pointer (some ⟨p, 0, s⟩) } := by simp [stepField, foff70_0]
theorem fld70_1 (p : Nat) (s : Option Nat) : stepField Try.prog 70 (.pointer (some ⟨p, 0, s⟩)) 1 = some { v := .pointer (some ⟨p, 1, s⟩) } := by simp [stepField, foff70_1]
theorem fld70_2 (p : Nat) (s : Option Nat) : stepField Try.prog 70 (.pointer (some ⟨p, 0, s⟩)) 2 = some { v := .pointer (some ⟨p, 2, s⟩) } := by simp [stepField, foff70_2]
theorem fld70_3 (p : Nat) (s : Option Nat) : stepField Try.prog 70 (.pointer (some ⟨p, 0, s⟩)) 3 = some { v := .pointer (some ⟨p, 3, s⟩) } := by simp [stepField, foff70_3]

/-- A reader: its block (of type T), its row of bytes, how many it used, its bits and its range. -/
structure Rd (T : TypeId) (p : Nat) (v : Value) (F : List Nat) (u c r : Nat) (g : Heap) : Prop where
  hp : g p = some ⟨false, T, [v, .int .i64 (u : Nat), .int .u64 (c : Nat), .int .u64 (r : Nat)]⟩
  hs : Src g v 1 F.length (bs F)
  hn : p ∉ srcBlk v

section
variable {T : TypeId} {p : Nat} {v : Value} {F : List Nat} {u c r : Nat} {g g' : Heap}
theorem Rd.congr (h : Rd T p v F u c r g) (hp : g' p = g p) (hq : ∀ i ∈ srcBlk v, g' i = g i) : Rd T p v F u c r g' := ⟨by rw [hp]; exact h.hp, h.hs.congr hq, h.hn⟩
theorem Rd.ld0 (h : Rd T p v F u c r g) : stepLoad Try.prog 24 (.pointer (some ⟨p, 0, some 4⟩)) g = some { v := v, r := [p] } := ld_at h.hp rfl rfl aggT24
theorem Rd.ld1 (h : Rd T p v F u c r g) : stepLoad Try.prog 3 (.pointer (some ⟨p, 1, some 4⟩)) g = some { v := .int .i64 (u : Nat), r := [p] } := ld_at h.hp rfl rfl aggT3
theorem Rd.ld2 (h : Rd T p v F u c r g) : stepLoad Try.prog 41 (.pointer (some ⟨p, 2, some 4⟩)) g = some { v := .int .u64 (c : Nat), r := [p] } := ld_at h.hp rfl rfl aggT41
theorem Rd.ld3 (h : Rd T p v F u c r g) : stepLoad Try.prog 41 (.pointer (some ⟨p, 3, some 4⟩)) g = some { v := .int .u64 (r : Nat), r := [p] } := ld_at h.hp rfl rfl aggT41
theorem Rd.st1 (h : Rd T p v F u c r g) (x : Nat) : stepStore Try.prog 3 (.pointer (some ⟨p, 1, some 4⟩)) (.int .i64 (x : Int)) g = some { v := undef, r := [p], w := [(p, ⟨false, T, [v, .int .i64 (x : Nat), .int .u64 (c : Nat), .int .u64 (r : Nat)]⟩)] } := st_at (s := some 4) (d := undef) h.hp rfl (by simp) tsize3 rfl rfl
theorem Rd.st2 (h : Rd T p v F u c r g) (x : Nat) : stepStore Try.prog 41 (.pointer (some ⟨p, 2, some 4⟩)) (.int .u64 (x : Int)) g = some { v := undef, r := [p], w := [(p, ⟨false, T, [v, .int .i64 (u : Nat), .int .u64 (x : Nat), .int .u64 (r : Nat)]⟩)] } := st_at (s := some 4) (d := undef) h.hp rfl (by simp) tsize41 rfl rfl
theorem Rd.st3 (h : Rd T p v F u c r g) (x : Nat) : stepStore Try.prog 41 (.pointer (some ⟨p, 3, some 4⟩)) (.int .u64 (x : Int)) g = some { v := undef, r := [p], w := [(p, ⟨false, T, [v, .int .i64 (u : Nat), .int .u64 (c : Nat), .int .u64 (x : Nat)]⟩)] } := st_at (s := some 4) (d := undef) h.hp rfl (by simp) tsize41 rfl rfl
theorem Rd.upd (h : Rd T p v F u c r g) {u' c' r' : Nat} (hp : g' p = some ⟨false, T, [v, .int .i64 (u' : Nat), .int .u64 (c' : Nat), .int .u64 (r' : Nat)]⟩) (ho : ∀ i, i ≠ p → g' i = g i) : Rd T p v F u' c' r' g' :=
  ⟨hp, h.hs.congr fun i hi => ho i (fun e => h.hn (by rw [← e]; exact hi)), h.hn⟩
end

/-- The bits with k bytes more. -/
def more (F : List Nat) (c u k : Nat) : Nat := c * 256 ^ k + be ((F.drop u).take k)
theorem more_zero (F : List Nat) (c u : Nat) : more F c u 0 = c := by simp [more, be]
theorem more_succ {F : List Nat} {c u k : Nat} (h : u + k < F.length) : more F c u (k + 1) = more F c u k * 256 + byt F (u + k) := by
  have h1 : (F.drop u).take (k + 1) = (F.drop u).take k ++ [byt F (u + k)] := by
    rw [List.take_succ_eq_append_getElem (by simp; omega), byt_eq h]
    simp
  rw [more, h1, be_snoc, more, Nat.pow_succ, Nat.add_mul, Nat.mul_assoc]
  omega

def rdE (T : TypeId) (p : Nat) (v : Value) (ok : Bool) (u c r : Nat) : Eff := { v := .bool ok, r := p :: srcBlk v, w := [(p, ⟨false, T, [v, .int .i64 (u : Nat), .int .u64 (c : Nat), .int .u64 (r : Nat)]⟩)] }

set_option maxRecDepth 10000 in
theorem reads_no (p : Nat) (v : Value) (F : List Nat) (u c r : Nat) (g : Heap) (h : Rd 91 p v F u c r g) (hu : F.length ≤ u) (hu2 : u ≤ 2 ^ 40) (hl : F.length ≤ 2 ^ 40) : FnSpec Try.prog 79 [ptr4 p] g { v := .bool false, r := p :: srcBlk v } := by
  refine spec_of_body [2] follows Try.func79 rfl (by kernel_rfl) (by simp [Try.f79]) (by kernel_rfl) rfl ?_
  intro g2 s2 n hg hfr hs hn hwf hsv
  have h2 : Rd 91 p v F u c r g2 := h.congr (hg p (by simp [Eff.fp])) (fun i hi => hg i (by simp [Eff.fp, hi]))
  have hlen := h2.hs.len Try.underlying24
  have d1 : decide ((u : Int) ≥ (F.length : Int)) = true := decide_eq_true (by omega)
  refine s_run (by simp only [runL, awant_none, astep, evl, put, ap_none, List.length_nil, Nat.add_zero, undef] <;> rfl) ?_
  refine w_assoc (s_draw #[0, 1, 3, 7, 0, 16, 48, 112, 240, 511] (by decide +kernel) (by simp only [runR, Option.getD_some, List.getElem?_cons_zero, awant_none, astep, evl, put, upd_app, stepBin, abin, stepCall, reduceCtorEq, ↓reduceIte, Nat.reduceEqDiff, List.isEmpty_nil, Bool.and_self, nchk, fld91_0, fld91_1, h2.ld0, h2.ld1, hlen, d1] <;> rfl) ?_)
  refine s_true (by simp [evl]) (w_assoc (s_run (by simp only [runL, awant_none, astep, evl, put, ap_none, List.length_nil, Nat.add_zero] <;> rfl) ?_))
  exact s_ret ⟨.inr rfl, by simp, [], fin_none (by simp [resVal]) trivial (fun _ _ h => h)⟩

set_option maxRecDepth 10000 in
theorem reads_yes (p : Nat) (v : Value) (F : List Nat) (u c r : Nat) (g : Heap) (h : Rd 91 p v F u c r g) (hb : ∀ x ∈ F, x < 256) (hu : u < F.length) (hl : F.length ≤ 2 ^ 40) (hc : c < 2 ^ 40) : FnSpec Try.prog 79 [ptr4 p] g (rdE 91 p v true (u + 1) (c * 256 + byt F u) r) := by
  refine spec_of_body [2] follows Try.func79 rfl (by kernel_rfl) (by simp [Try.f79]) (by kernel_rfl) rfl ?_
  intro g2 s2 n hg hfr hs hn hwf hsv
  have h2 : Rd 91 p v F u c r g2 := h.congr (hg p (by simp [rdE, Eff.fp])) (fun i hi => hg i (by simp [rdE, Eff.fp, hi]))
  have hlen := h2.hs.len Try.underlying24
  have d1 : decide ((u : Int) ≥ (F.length : Int)) = false := decide_eq_false (by omega)
  have hbx := byt_lt hb u
  obtain ⟨pa, i1, i2, _⟩ := h2.hs.at1 (P := Try.prog) (i := u) (c := .int .u8 (byt F u)) (bs_at hu) Try.underlying24 tsize5 aggT5
  have w1 : IntKind.u64.wrap ((c : Int) * 2 ^ (min 8 IntKind.u64.bits)) = ((c * 256 : Nat) : Int) := shl64_8 c (by omega)
  have w2 : IntKind.u64.wrap ((byt F u : Nat) : Int) = (byt F u : Nat) := wrapU (by omega)
  have w3 := or8 c (byt F u) (by omega) hbx
  refine s_run (by simp only [runL, awant_none, astep, evl, put, ap_none, List.length_nil, Nat.add_zero, undef] <;> rfl) ?_
  refine w_assoc (s_draw #[0, 1, 3, 7, 0, 16, 48, 112, 240, 511] (by decide +kernel) (by simp only [runR, Option.getD_some, List.getElem?_cons_zero, awant_none, astep, evl, put, upd_app, stepBin, abin, stepCall, reduceCtorEq, ↓reduceIte, Nat.reduceEqDiff, List.isEmpty_nil, Bool.and_self, nchk, fld91_0, fld91_1, h2.ld0, h2.ld1, hlen, d1] <;> rfl) ?_)
  refine s_false (by simp [evl]) (s_skip ?_)
  refine w_gen (fun t => t 0 = ptr4 p) (by simp [upd_app]) ?_
  rintro t t0
  refine s_drawn #[0, 0, 2, 6, 14, 30, 0, 64, 192, 448, 0, 1024, 3072, 7168, 16320, 32704, 65472, 131070, 262143, 524287, 1048575] (by decide +kernel) ?_
  refine d_readsB 20 (by simp) (by simp only [runR, List.take_succ_cons, List.take_zero, awant_none, astep, evl, put, upd_app, stepBin, abin, reduceCtorEq, ↓reduceIte, Nat.reduceEqDiff, Int.reduceLE, Int.reduceToNat, List.isEmpty_nil, Bool.and_self, t0, nchk, fld91_0, fld91_1, fld91_2, h2.ld0, h2.ld1, h2.ld2, w1, i1, i2, conv5_41, w2, w3] <;> rfl) fun a1 ha1 => ?_
  refine d_last _ (by simp only [astep, evl, upd_app, ↓reduceIte, Nat.reduceEqDiff, undef, h2.st2] <;> rfl) rfl ha1 rfl (w_heap fun G1 hG1 => ?_)
  have R1 : Rd 91 p v F u (c * 256 + byt F u) r G1 := h2.upd (by rw [hG1]; simp [ap_wr]) (fun i hi => by rw [hG1]; simp [ap_wr, upd_app, hi])
  have o1 : ∀ i, i ≠ p → G1 i = g2 i := fun i hi => by rw [hG1]; simp [ap_wr, upd_app, hi]
  refine w_gen (fun t => t 0 = ptr4 p) (by simp [upd_app, put, t0]) ?_
  clear t0
  rintro t t0
  have w4 : IntKind.i64.wrap ((u : Int) + 1) = ((u + 1 : Nat) : Int) := wrap_succ (by omega)
  refine s_run (by simp only [runL, awant_none, astep, evl, put, ap_none, ap_wr, List.length_nil, Nat.add_zero, upd_app, stepBin, abin, ↓reduceIte, Nat.reduceEqDiff, undef, t0, nchk, fld91_1, R1.ld1, w4, R1.st1] <;> rfl) ?_
  refine s_run (by simp only [runL, awant_none, astep, evl, put, ap_none, List.length_nil, Nat.add_zero] <;> rfl) ?_
  refine w_ret ⟨.inr rfl, by simp, [], ?_⟩
  refine fin_w1 (by simp [resVal]) trivial (by rw [h2.hp]; rfl) (by simp []) (fun x hx => ?_) (fun i b h1 hb => by simp [upd_app, h1, o1 i h1, hb])
  simp only [List.mem_cons, List.not_mem_nil, or_false] at hx
  rcases hx with rfl | rfl | rfl | rfl
  · exact (hwf p _ h2.hp).2 _ (by simp)
  · trivial
  · trivial
  · trivial
end Go.Proofs.Ytahinegnblankaa
