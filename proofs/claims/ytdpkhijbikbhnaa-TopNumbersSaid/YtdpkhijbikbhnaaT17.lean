import Derived.Test.YtdpkhijbikbhnaaT16
namespace Go.Proofs.Ytdpkhijbikbhnaa
open Go Abs Plain
set_option linter.unusedSimpArgs false
set_option linter.unusedVariables false

theorem putAll_eq : ∀ (cs l : List Value) (o : Nat), o + cs.length ≤ l.length → putAll l o cs = l.take o ++ cs ++ l.drop (o + cs.length) := by
  intro cs
  induction cs with
  | nil => intro l o h; simp [putAll]
  | cons c cs ih =>
    intro l o h
    simp only [List.length_cons] at h
    rw [putAll, ih _ _ (by simp; omega)]
    have h1 : (l.set o c).take (o + 1) = l.take o ++ [c] := by
      rw [List.take_succ_eq_append_getElem (by simp; omega), List.take_set_of_le (Nat.le_refl _)]; simp
    have h2 : (l.set o c).drop (o + 1 + cs.length) = l.drop (o + (cs.length + 1)) := by
      rw [List.drop_set_of_lt (by omega), show o + 1 + cs.length = o + (cs.length + 1) by omega]
    rw [h1, h2]
    simp

theorem conv3_96 (x : Int) (g : Heap) : stepConv Try.prog 3 93 (.int .i64 x) g = some { v := .int .u64 (IntKind.u64.wrap x) } := by simp [stepConv, Try.underlying3, Try.underlying93]
theorem conv96_3 (x : Int) (g : Heap) : stepConv Try.prog 93 3 (.int .u64 x) g = some { v := .int .i64 (IntKind.i64.wrap x) } := by simp [stepConv, Try.underlying3, Try.underlying93]
theorem slLoOwn {n c m : Nat} (h : c < m) : stepSlice Try.prog 22 (.slice (some ⟨n, 0, some m⟩) m 1) (some (.int .i64 (c : Int))) none = some { v := .slice (some ⟨n, c, some m⟩) (m - c) 1 } := by
  simp only [stepSlice, Try.underlying22, boundOf, tsize3, if_true]
  rw [if_pos ⟨by omega, by omega, by omega⟩, if_neg (by omega)]
  simp
theorem slHiOwn {n c m : Nat} (h : c ≤ m) (h0 : 0 < c) : stepSlice Try.prog 22 (.slice (some ⟨n, 0, some m⟩) m 1) none (some (.int .i64 (c : Int))) = some { v := .slice (some ⟨n, 0, some m⟩) c 1 } := by
  simp only [stepSlice, Try.underlying22, boundOf, tsize3, if_true]
  rw [if_pos ⟨by omega, by omega, by omega⟩, if_neg (by omega)]
  simp
def repL (m c : Nat) : List Int := List.replicate c (-1) ++ List.replicate (m - c) 0
theorem repL_len {m c : Nat} (h : c ≤ m) : (repL m c).length = m := by simp [repL]; omega
theorem repL_put {m c q : Nat} (h : c + q ≤ m) (cs : List Value) (hcs : cs = intsI (List.replicate q (-1))) : putAll (intsI (repL m c)) c cs = intsI (repL m (c + q)) := by
  subst hcs
  rw [putAll_eq _ _ _ (by simp [repL_len (show c ≤ m by omega)]; omega)]
  have h1 : (intsI (repL m c)).take c = intsI (List.replicate c (-1)) := by simp [intsI, repL]
  have h2 : (intsI (repL m c)).drop (c + (intsI (List.replicate q (-1))).length) = intsI (List.replicate (m - (c + q)) 0) := by
    simp only [intsI, repL, List.length_replicate, List.map_append, List.map_replicate]
    rw [List.drop_append, List.length_replicate, List.drop_eq_nil_of_le (by simp), List.nil_append, List.drop_replicate]
    congr 1; omega
  rw [h1, h2, intsI_app, intsI_app]
  unfold repL
  rw [← List.replicate_append_replicate]

theorem copyOwn {n c m : Nat} {g : Heap} {cells : List Value} (hg : g n = some ⟨false, 3, cells⟩) (hm : cells.length = m) (h : c < m) (h0 : 0 < c) : stepCopy Try.prog 22 (.slice (some ⟨n, c, some m⟩) (m - c) 1) (.slice (some ⟨n, 0, some m⟩) c 1) g =
    some { v := .int .i64 ((min c (m - c) : Nat) : Int), r := n :: srcBlk (.slice (some ⟨n, 0, some m⟩) c 1), w := [(n, ⟨false, 3, putAll cells c ((cells.take c).take (min c (m - c)))⟩)] } := by
  subst hm
  have hc : srcCells (.slice (some ⟨n, 0, some cells.length⟩) c 1) g 1 = some (c, cells.take c) := by
    simp [srcCells, rd, hg, show c ≠ 0 by omega]
  simp only [stepCopy, Try.underlying22, tsize3, hc]
  rw [if_pos ⟨trivial, trivial⟩]
  rw [if_neg (by omega)]
  simp [rd, hg]
theorem copyFirst {n m : Nat} {g : Heap} {cells : List Value} {v x : Value} (hg : g n = some ⟨false, 3, cells⟩) (hm : cells.length = m) (h : 0 < m) (hv : Src g v 1 1 [x]) : stepCopy Try.prog 22 (.slice (some ⟨n, 0, some m⟩) m 1) v g =
    some { v := .int .i64 1, r := n :: srcBlk v, w := [(n, ⟨false, 3, putAll cells 0 [x]⟩)] } := by
  subst hm
  have hc := hv.cells
  simp only [stepCopy, Try.underlying22, tsize3, hc]
  rw [if_pos ⟨trivial, trivial⟩]
  rw [show min 1 cells.length = 1 by omega, if_neg (by omega)]
  simp [rd, hg]

set_option maxRecDepth 20000 in
theorem repeat_spec (v : Value) (m : Nat) (g : Heap) (j : Nat) (h0 : 1 ≤ m) (hm : m ≤ 2 ^ 38) (hv : Src g v 1 1 [.int .i64 (-1)]) :
    FnSpec Try.prog 50 [v, .int .i64 m] g { v := .slice (some ⟨j, 0, some m⟩) m 1, r := srcBlk v, j := j, a := [⟨false, 3, intsI (List.replicate m (-1))⟩] } := by
  refine spec_of_body [4] follows Try.func50 rfl (by kernel_rfl) (by simp [Try.f50]) (by kernel_rfl) rfl ?_
  intro g2 s2 n hg hfr hs hn hwf hsv
  have hv2 : Src g2 v 1 1 [.int .i64 (-1)] := hv.congr fun i hi => hg i (by simp [Eff.fp, hi])
  have hvd : ∀ i ∈ srcBlk v, i < n := dom_of hs hwf hv2
  have hlen := hv2.len Try.underlying22
  clear hg hfr hn hv
  have d0 : decide ((m : Int) < 0) = false := decide_eq_false (by omega)
  refine s_run (by simp only [runL, awant_none, astep, evl, put, ap_none, List.length_nil, Nat.add_zero, undef] <;> rfl) ?_
  refine w_assoc (s_run (by simp only [runL, Option.getD_some, List.getElem?_cons_succ, List.getElem?_cons_zero, awant_none, astep, evl, put, ap_none, List.length_nil, Nat.add_zero, upd_app, stepBin, abin, ↓reduceIte, Nat.reduceEqDiff, d0] <;> rfl) ?_)
  refine s_false (by simp [evl]) (s_skip ?_)
  have w1 : IntKind.u64.wrap (((1 : Nat) : Int)) = ((1 : Nat) : Int) := wrapU64_of (by omega) (by omega)
  have w2 : IntKind.u64.wrap (m : Int) = (m : Int) := wrapU64_of (by omega) (by omega)
  have w3 : IntKind.i64.wrap ((1 * m : Nat) : Int) = (m : Int) := by rw [Nat.one_mul]; exact wrap_nat (by omega)
  have hmul := mul_spec 1 m g2 (by omega) (by omega) (by omega)
  refine s_take 5 (by simp only [runL, Option.getD_some, List.getElem?_cons_succ, List.getElem?_cons_zero, List.take_succ_cons, List.take_zero, awant_none, astep, evl, put, ap_none, List.length_nil, Nat.add_zero, upd_app, stepCall, reduceCtorEq, ↓reduceIte, Nat.reduceEqDiff, hlen, conv3_96, w1, w2] <;> rfl) ?_
  refine ops_call 69 _ rfl (by simp only [upd_app, evl, List.map_cons, List.map_nil]; exact hmul) (fun h => (h rfl).elim) ?_
  refine ops_run (by simp only [runL, List.getElem?_toArray, List.getElem?_cons_succ, List.getElem?_cons_zero, awant_none, astep, evl, put, ap_none, List.length_nil, Nat.add_zero, upd_app, stepExtract, ↓reduceIte, Nat.reduceEqDiff] <;> rfl) ?_
  refine w_gen (fun t => t 0 = v ∧ t 5 = .int .u64 0 ∧ t 6 = .int .u64 ((1 * m : Nat) : Int)) (by simp [upd_app]) ?_
  rintro t ⟨t0, t5, t6⟩
  have d1 : decide (((1 * m : Nat) : Int) > 9223372036854775807) = false := decide_eq_false (by omega)
  refine w_assoc (s_run (by simp only [runL, awant_some, List.getElem?_toArray, List.getElem?_cons_succ, List.getElem?_cons_zero, Option.bind_some, b_ff, awant_none, astep, evl, put, ap_none, List.length_nil, Nat.add_zero, upd_app, stepBin, abin, stepPick, ↓reduceIte, Nat.reduceEqDiff, Bool.false_eq_true, decide_false, t5, t6, d1, gt_iff_lt, Int.lt_irrefl] <;> rfl) ?_)
  refine s_false (by simp [evl]) (s_skip ?_)
  show awp _ _ _ _ g2 n
  refine s_run (by simp only [runL, awant_none, astep, evl, put, ap_none, ap_new, List.length_nil, List.length_cons, Nat.add_zero, Nat.zero_add, upd_app, ↓reduceIte, Nat.reduceEqDiff, t6, conv96_3, w3, mkIntsI m n (by omega)] <;> rfl) (w_heap fun G1 hG1 => ?_)
  have b1 : G1 n = some ⟨false, 3, intsI (repL m 0)⟩ := by rw [hG1]; simp [repL]
  have k1 : Kp n g2 G1 := by rw [hG1]; exact kp_upd (Kp.refl _ _) (Nat.le_refl _)
  have hcp := copyFirst (m := m) b1 (by simp [repL_len]) (by omega) (k1.src hv2 hvd)
  rw [repL_put (m := m) (c := 0) (q := 1) (by omega) [.int .i64 (-1)] rfl] at hcp
  refine s_run (by simp only [runL, awant_none, astep, evl, put, ap_none, ap_wr, List.length_nil, Nat.add_zero, Nat.zero_add, upd_app, stepCall, reduceCtorEq, ↓reduceIte, Nat.reduceEqDiff, t0, hcp] <;> rfl) (w_heap fun G2 hG2 => ?_)
  have b2 : G2 n = some ⟨false, 3, intsI (repL m (0 + 1))⟩ := by rw [hG2]; simp []
  have k2 : Kp n g2 G2 := by rw [hG2]; exact kp_upd k1 (Nat.le_refl _)
  refine s_block (fun t g n' => t 7 = .slice (some ⟨n, 0, some m⟩) m 1 ∧ g n = some ⟨false, 3, intsI (List.replicate m (-1))⟩ ∧ Kp n g2 g) ?_ ?_
  · refine w_loop (fun t g n' => ∃ c : Nat, 1 ≤ c ∧ c ≤ m ∧ t 8 = .int .i64 c ∧ t 7 = .slice (some ⟨n, 0, some m⟩) m 1 ∧ g n = some ⟨false, 3, intsI (repL m c)⟩ ∧ Kp n g2 g) (fun t _ _ => match t 8 with | .int _ k => m - k.toNat | _ => 0) ⟨1, Nat.le_refl _, h0, by simp [], by simp [upd_app], by simpa using b2, k2⟩ ?_
    clear b1 k1 hG1 b2 k2 hG2 hcp
    rintro t G n' ⟨c, hc1, hcm, t8, t7, b, hkp⟩
    have hμ : (match t 8 with | .int _ k => m - k.toNat | _ => 0) = m - c := by rw [t8]; rfl
    by_cases hlt : c < m
    · have d : decide ((c : Int) < (m : Int)) = true := decide_eq_true (by omega)
      refine w_assoc (s_run (by simp only [runL, awant_none, astep, evl, put, ap_none, List.length_nil, Nat.add_zero, upd_app, stepBin, abin, stepCall, ↓reduceIte, Nat.reduceEqDiff, t7, t8, lenI, d] <;> rfl) ?_)
      refine s_true (by simp [evl]) (s_skip (w_block ?_))
      rw [hμ]
      refine w_gen (fun t => t 7 = .slice (some ⟨n, 0, some m⟩) m 1 ∧ t 8 = .int .i64 c) (by simp [upd_app, t7, t8]) ?_
      clear t7 t8 hμ
      rintro t ⟨t7, t8⟩
      have hcp := copyOwn (m := m) b (by simp [repL_len hcm]) hlt hc1
      rw [repL_put (q := min c (m - c)) (by omega) _ (by simp only [repL, intsI, List.map_append, List.map_replicate]; rw [List.take_append_of_le_length (by simp), List.take_take]; simp)] at hcp
      have w4 : IntKind.i64.wrap ((c : Int) + ((min c (m - c) : Nat) : Int)) = ((c + min c (m - c) : Nat) : Int) := wrap_add (by omega)
      refine region_drawn #[0, 0, 0, 6, 0, 0, 48, 126, 255, 511] (by decide +kernel) ?_
      refine d_pure 7 (by simp only [runP, List.take_succ_cons, List.take_zero, awant_none, astep, evl, put, upd_app, ↓reduceIte, Nat.reduceEqDiff, Option.map_some, Option.map_none, List.isEmpty_nil, Bool.and_self, t7, t8, slLoOwn hlt, slHiOwn hcm hc1] <;> rfl) ?_
      dsimp only
      refine d_step _ (by simp only [astep, evl, upd_app, stepCall, ↓reduceIte, Nat.reduceEqDiff, hcp] <;> rfl) rfl (by simp) ?_
      refine d_pure 2 (by simp only [runP, List.take_succ_cons, List.take_zero, awant_none, astep, evl, put, ap_wr, List.length_nil, Nat.add_zero, upd_app, stepBin, abin, ↓reduceIte, Nat.reduceEqDiff, List.isEmpty_nil, Bool.and_self, w4] <;> rfl) ?_
      dsimp only
      refine ⟨⟨c + min c (m - c), by omega, by omega, by simp [], by simp [upd_app, t7], by simp [], ?_⟩, ?_⟩
      · exact kp_upd hkp (Nat.le_refl _)
      · show m - ((c + min c (m - c) : Nat) : Int).toNat < _
        rw [Int.toNat_natCast]
        omega
    · have d : decide ((c : Int) < (m : Int)) = false := decide_eq_false (by omega)
      refine w_assoc (s_run (by simp only [runL, awant_none, astep, evl, put, ap_none, List.length_nil, Nat.add_zero, upd_app, stepBin, abin, stepCall, ↓reduceIte, Nat.reduceEqDiff, t7, t8, lenI, d] <;> rfl) ?_)
      refine s_false (by simp [evl]) (s_exit ?_)
      have : c = m := by omega
      subst this
      exact ⟨by simp [upd_app, t7], by simpa [repL] using b, hkp⟩
  · rintro t G n' ⟨t7, b, hkp⟩
    refine s_run (by simp only [runL, awant_none, astep, evl, put, ap_none, List.length_nil, Nat.add_zero, upd_app, ↓reduceIte, t7] <;> rfl) ?_
    exact w_ret (sl_fin (k := n) rfl (by simp []) (by simp) (Nat.le_refl _) b plain_intsI hs hwf hkp)
end Go.Proofs.Ytdpkhijbikbhnaa
