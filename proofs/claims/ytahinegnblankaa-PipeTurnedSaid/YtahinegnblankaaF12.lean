import Derived.Test.YtahinegnblankaaF11
namespace Go.Proofs.Ytahinegnblankaa
open Go Abs Go.RowKit
set_option linter.unusedSimpArgs false
set_option linter.unusedVariables false

theorem run_indexByte {P : Program} {w : World} {a : Addr} {l : List Nat} {c cap : Nat} (hl : ∀ x ∈ l, x < 256) (hc : c ∈ l) (h : ∀ (j : Nat) (x : Nat), l[j]? = some x → w.cell? (a.add j) = some (.int .u8 (x : Int))) :
    (Extern.BytealgIndexByte.indexByte #[.slice (some a) l.length cap, .int .u8 (c : Int)]).run P w = .ok (.int .i64 (idx l c : Nat)) w := by
  obtain ⟨b, hb, hd⟩ := run_load_bytes (P := P) l a .empty h
  have hd' : b.data.toList = l.map UInt8.ofNat := by rw [hd]; rfl
  have hf := find_idx b hd' hl hc
  change Sem.run P (do
    let b ← Extern.Bytes.bytesOf (.slice (some a) l.length cap)
    let c ← Extern.Bytes.asByte (.int .u8 (c : Int))
    match (List.range b.size).find? fun i => b[i]! == c with
    | some i => pure (goInt i)
    | none => pure (goInt (-1))) w = _
  have hcc : (c : Int).toNat.toUInt8 = c.toUInt8 := by simp
  simp only [Extern.Bytes.bytesOf, Extern.Bytes.asByte, Sem.run_bind, Sem.run_pure, hb, Result.andThen_ok, hcc, hf]
  rfl

theorem findex_spec (v : Value) (l : List Nat) (c : Nat) (g : Heap) (hl : ∀ x ∈ l, x < 256) (hc : c ∈ l) (hv : Src g v 1 l.length (bs l)) : FnSpec Try.prog 88 [v, .int .u8 c] g { v := .int .i64 (idx l c : Nat), r := srcBlk v } := by
  intro g2 s2 hg hfr base w0 ρ w args' o a K Q hR ha hk
  have hv2 : Src g2 v 1 l.length (bs l) := hv.congr fun i hi => hg i (by simp [Eff.fp, hi])
  have hpos : 0 < l.length := by have := idx_lt hc; omega
  obtain ⟨v', hv', hVV⟩ := ha.2 0 v rfl
  obtain ⟨c', hc', hVc⟩ := ha.2 1 (.int .u8 c) rfl
  have hcc := VV_int.1 hVc
  subst hcc
  have hargs : args' = #[v', .int .u8 c] := by
    apply Array.toList_inj.1
    have h1 := ha.1
    rcases hx : args'.toList with _ | ⟨x, _ | ⟨y, _ | ⟨z, r⟩⟩⟩
    · rw [hx] at h1; simp at h1
    · rw [hx] at h1; simp at h1
    · rw [hx] at hv' hc'; simp at hv' hc'; rw [hv', hc']
    · rw [hx] at h1; simp at h1
  subst hargs
  rcases hv2 with ⟨_, h0, _⟩ | ⟨ad, _, h0, _⟩ | ⟨ad, b, rfl, h0, hb, hcs, hle⟩
  · omega
  · omega
  obtain ⟨cap', e, q1, q2, q3, q4⟩ := VR_slice_live hb (VV_slice.1 hVV).1
  obtain ⟨hsp, hgb⟩ := rd_spec hb
  obtain ⟨cs, c1, c2, c3⟩ := hR.cells hgb ad.off l.length (by omega)
  rw [Nat.mul_one] at hcs
  rw [← hcs, bs_ints] at c3
  have hcs2 := All2_ints c3
  subst hcs2
  have hcell : ∀ (j : Nat) (x : Nat), l[j]? = some x → w.cell? ((⟨(ρ ad.block).blk, (ρ ad.block).off + ad.off, none⟩ : Addr).add j) = some (.int .u8 (x : Int)) := fun j x hx => c2 j _ (by simp [hx])
  have hrun := run_indexByte (P := Try.prog) (cap := cap') hl hc hcell
  rw [run_callFunc_extern Try.func88 (by kernel_rfl) (by kernel_rfl) (by kernel_rfl) (e := Extern.BytealgIndexByte.indexByte) (by kernel_rfl), e, hrun]
  simp only [Result.andThen_ok, Oper.upon_value]
  exact hk ρ w _ (hR.sn0 _) (Mono.refl _ _ _) (VV_int.2 rfl)

set_option maxRecDepth 10000 in
theorem index_spec (v : Value) (l : List Nat) (c : Nat) (g : Heap) (hl : ∀ x ∈ l, x < 256) (hc : c ∈ l) (hv : Src g v 1 l.length (bs l)) : FnSpec Try.prog 68 [v, .int .u8 c] g { v := .int .i64 (idx l c : Nat), r := srcBlk v } := by
  refine spec_of_body [4] follows Try.func68 rfl (by kernel_rfl) (by simp [Try.f68]) (by kernel_rfl) rfl ?_
  intro g2 s2 n hg hfr hs hn hwf hsv
  have hv2 : Src g2 v 1 l.length (bs l) := hv.congr fun i hi => hg i (by simp [Eff.fp, hi])
  refine s_run (by simp only [runL, awant_none, astep, evl, put, ap_none, List.length_nil, Nat.add_zero, undef] <;> rfl) ?_
  refine s_take 2 (by simp only [runL, Option.getD_some, List.getElem?_cons_succ, List.getElem?_cons_zero, List.take_succ_cons, List.take_zero, awant_none, astep, evl, put, ap_none, List.length_nil, Nat.add_zero, upd_app, reduceCtorEq, ↓reduceIte, Nat.reduceEqDiff] <;> rfl) ?_
  refine ops_call 88 _ rfl (findex_spec v l c g2 hl hc hv2) (by simp) ?_
  refine ops_run (by simp only [runL, awant_none, astep, evl, put, ap_none, List.length_nil, Nat.add_zero, upd_app, ↓reduceIte] <;> rfl) ?_
  refine w_ret ⟨.inr rfl, by simp, [], fin_none ?_ trivial (fun _ _ h => h)⟩
  simp [resVal]

/-- What is at a place goes to the front. -/
def mv (r : List Nat) (k : Nat) : List Nat := byt r k :: (r.take k ++ r.drop (k + 1))

theorem mv_len {r : List Nat} {k : Nat} (h : k < r.length) : (mv r k).length = r.length := by simp [mv]; omega
theorem mv_mem {r : List Nat} {k x : Nat} (h : k < r.length) : x ∈ mv r k ↔ x ∈ r := by
  have e : r = r.take k ++ byt r k :: r.drop (k + 1) := by rw [← drop_cons h, List.take_append_drop]
  constructor
  · intro hx
    rw [e]
    simp only [mv, List.mem_cons, List.mem_append] at hx ⊢
    rcases hx with h | h | h
    · exact .inr (.inl h)
    · exact .inl h
    · exact .inr (.inr h)
  · intro hx
    rw [e] at hx
    simp only [mv, List.mem_cons, List.mem_append] at hx ⊢
    rcases hx with h | h | h
    · exact .inr (.inl h)
    · exact .inl h
    · exact .inr (.inr h)

/-- The bytes that are moved by their places. -/
def move : List Nat → List Nat → List Nat
  | [], _ => []
  | c :: b, r => idx r c :: move b (mv r (idx r c))

def back : List Nat → List Nat → List Nat
  | [], _ => []
  | k :: b, r => byt r k :: back b (mv r k)

theorem move_len (b : List Nat) : ∀ r, (move b r).length = b.length := by
  induction b with
  | nil => intro r; rfl
  | cons c b ih => intro r; simp [move, ih]
theorem back_len (b : List Nat) : ∀ r, (back b r).length = b.length := by
  induction b with
  | nil => intro r; rfl
  | cons c b ih => intro r; simp [back, ih]

/-- A row of all bytes. -/
structure Full (r : List Nat) : Prop where
  len : r.length = 256
  mem : ∀ x, x < 256 → x ∈ r
  lt : ∀ x ∈ r, x < 256

theorem Full.mv {r : List Nat} {k : Nat} (h : Full r) (hk : k < 256) : Full (mv r k) := by
  have hk' : k < r.length := by rw [h.len]; exact hk
  exact ⟨by rw [mv_len hk']; exact h.len, fun x hx => (mv_mem hk').2 (h.mem x hx), fun x hx => h.lt x ((mv_mem hk').1 hx)⟩
theorem Full.idx {r : List Nat} {c : Nat} (h : Full r) (hc : c < 256) : idx r c < 256 := by rw [← h.len]; exact idx_lt (h.mem c hc)
theorem full_row : Full (List.range 256) := ⟨by simp, fun x hx => by simpa using hx, fun x hx => by simpa using hx⟩

theorem move_lt {b : List Nat} (hb : ∀ x ∈ b, x < 256) : ∀ {r : List Nat}, Full r → ∀ x ∈ move b r, x < 256 := by
  induction b with
  | nil => intro r _ x hx; simp [move] at hx
  | cons c b ih =>
    intro r h x hx
    rw [move] at hx
    have hi := h.idx (hb c (by simp))
    rcases List.mem_cons.1 hx with rfl | hx
    · exact hi
    · exact ih (fun y hy => hb y (by simp [hy])) (h.mv hi) x hx
theorem back_lt {b : List Nat} (hb : ∀ x ∈ b, x < 256) : ∀ {r : List Nat}, Full r → ∀ x ∈ back b r, x < 256 := by
  induction b with
  | nil => intro r _ x hx; simp [back] at hx
  | cons c b ih =>
    intro r h x hx
    rw [back] at hx
    have hc := hb c (by simp)
    rcases List.mem_cons.1 hx with rfl | hx
    · exact byt_lt h.lt _
    · exact ih (fun y hy => hb y (by simp [hy])) (h.mv hc) x hx

set_option maxRecDepth 10000 in
theorem row_spec (g : Heap) (j : Nat) : FnSpec Try.prog 67 [] g { v := .slice (some ⟨j, 0, some 256⟩) 256 1, j := j, a := [⟨false, 5, bs (List.range 256)⟩] } := by
  refine spec_of_body [0] follows Try.func67 rfl (by kernel_rfl) (by simp [Try.f67]) (by kernel_rfl) rfl ?_
  intro g2 s2 n hg hfr hs hn hwf hsv
  have hmk : stepMake Try.prog 24 (.int .i64 256) (.int .i64 256) n = some { v := .slice (some ⟨n, 0, some 256⟩) 256 1, j := n, a := [⟨false, 5, bs (List.replicate 256 0)⟩] } := mkBytes 256 n (by omega)
  have hL : stepLen Try.prog 24 (.slice (some ⟨n, 0, some 256⟩) 256 1) = some { v := .int .i64 (256 : Nat) } := by simp [stepLen, Try.underlying24]
  refine s_run (by simp only [runL, awant_none, astep, evl, put, ap_none, List.length_nil, Nat.add_zero, undef] <;> rfl) ?_
  refine s_run (by simp only [runL, awant_none, astep, evl, put, ap_none, ap_new, List.length_nil, List.length_cons, Nat.add_zero, Nat.zero_add, upd_app, ↓reduceIte, hmk] <;> rfl) (w_heap fun G hG => ?_)
  have hGn : G n = some ⟨false, 5, bs (List.replicate 256 0)⟩ := by rw [hG]; simp []
  have hk0 : Kp n g2 G := by rw [hG]; exact kp_upd (Kp.refl _ _) (Nat.le_refl _)
  refine w_assoc (s_run (by simp only [runL, awant_none, astep, evl, put, ap_none, List.length_nil, Nat.add_zero, upd_app, stepCall, ↓reduceIte, hL] <;> rfl) ?_)
  refine s_rng 256 (fun k t g n' => t 1 = .slice (some ⟨n, 0, some 256⟩) 256 1 ∧ g n = some ⟨false, 5, bs (List.range k ++ List.replicate (256 - k) 0)⟩ ∧ Kp n g2 g) (by omega) (by simp []) (by simp [upd_app]) (fun x => ⟨by simp [upd_app], by simpa using hGn, hk0⟩) (by decide) ?_ ?_
  · rintro k t g n' hk t6 t5 ⟨t1, hgn, hkp⟩
    have hl : (bs (List.range k ++ List.replicate (256 - k) 0)).length = 256 := by simp; omega
    obtain ⟨i1, i2, i3⟩ := own_at (P := Try.prog) (T := 24) hgn (i := k) (c := .int .u8 0) (by simp [List.getElem?_append_right, List.getElem?_replicate]; omega) Try.underlying24 tsize5 aggT5
    rw [hl] at i1 i2 i3
    have w1 : IntKind.u8.wrap (k : Int) = (k : Int) := wrap8_of hk
    have hset : (bs (List.range k ++ List.replicate (256 - k) 0)).set k (.int .u8 (k : Int)) = bs (List.range (k + 1) ++ List.replicate (256 - (k + 1)) 0) := by
      rw [bs_set]
      congr 1
      rw [List.set_append_right _ _ (by simp), List.range_succ]
      simp only [List.length_range, Nat.sub_self]
      rw [show 256 - k = (256 - (k + 1)) + 1 by omega, List.replicate_succ]
      simp
    refine s_run (by simp only [runL, awant_none, astep, evl, put, ap_none, List.length_nil, Nat.add_zero, upd_app, ↓reduceIte, t6] <;> rfl) ?_
    refine region_run (id := 5) (by simp only [runL, awant_none, astep, evl, put, ap_none, ap_wr, List.length_nil, Nat.add_zero, upd_app, ↓reduceIte, Nat.reduceEqDiff, undef, t1, conv3_5, w1, i1, i3, hset] <;> rfl) ?_
    simp only [rangePost]
    refine ⟨by simp [upd_app, t6], by simp [upd_app, t5], fun _ _ _ => ⟨by simp [upd_app, t1], by simp [], kp_upd hkp (Nat.le_refl _)⟩⟩
  · rintro t g n' ⟨t1, hgn, hkp⟩
    refine s_run (by simp only [runL, awant_none, astep, evl, put, ap_none, List.length_nil, Nat.add_zero, upd_app, ↓reduceIte, t1] <;> rfl) ?_
    refine w_ret ⟨.inr rfl, by simp, [n], ?_⟩
    have := fin_slice (s2 := s2) (g2 := g2) (n := n) (j := j) (r := []) (k := n) (e := 5) (cs := bs (List.range 256)) (m := 256) (esz := 1) (v' := .slice (some ⟨n, 0, some 256⟩) 256 1) (by simp) (Nat.le_refl _) (by simpa using hgn) plain_ints (fun i b hb => hkp.at (hs i (hwf i b hb).1) hb)
    have hl : (bs (List.range 256)).length = 256 := by simp
    rw [hl] at this
    simpa [resVal, upd_app] using this
end Go.Proofs.Ytahinegnblankaa
