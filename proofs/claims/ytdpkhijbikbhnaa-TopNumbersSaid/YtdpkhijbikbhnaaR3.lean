import Derived.Test.YtdpkhijbikbhnaaAbsC
import Derived.Test.YtdpkhijbikbhnaaProg
import Derived.RangeFuncBox
import Derived.Shelf.Abstract
import Derived.WalkKit
import Derived.OwnWalkIn
import Derived.TacticsInMore
import Derived.LoopNIn
import Derived.LoopIn
namespace Go.Proofs.Ytdpkhijbikbhnaa
open Go Go.RowKit Go.Shelf Go.Proofs.Ytdpkhijbikbhnaa.Abs
set_option linter.unusedSimpArgs false
set_option linter.unusedVariables false

attribute [local go_sem] Oper.semAt_some

def BoxF (Bs b off m : Nat) (xs : Nat → Int) (W : World) : Prop := (∃ cap, W.cell? ⟨Bs, 0, none⟩ = some (.slice (some ⟨b, off, none⟩) m cap)) ∧ ∀ j, j < m → W.cell? ⟨b, off + j, none⟩ = some (.int .i64 (xs j))
def BoxN (Bs : Nat) (W : World) : Prop := ∃ x cap, W.cell? ⟨Bs, 0, none⟩ = some (.slice x 0 cap)

set_option maxRecDepth 100000 in
set_option maxHeartbeats 2000000 in
theorem values1_in (F : Fence) (n : Nat) (h7 : F.fn 68) (hro : F.round = none) (hn : 1 ≤ n) (l Bs b off len : Nat) (xs : Nat → Int) (hreach : len * 8 ≤ 140737488351232) (J : Nat → World → Prop) (hJ : ∀ k W, J k W → BoxF Bs b off len xs W)
    (hY : ∀ k W, k < len → J k W → YieldAt F (n - 1) Try.prog l #[.int .i64 (xs k)] W fun e W' => e = .returned (.bool true) ∧ J (k + 1) W')
    (W : World) (h0 : J 0 W) :
    CallsIn F n Try.prog 68 #[.func (.yield l) #[] #[], .pointer (some ⟨Bs, 0, none⟩)] W fun e W' => (∃ v, e = .returned v) ∧ J len W' := by
  obtain ⟨⟨cap, hBs⟩, _⟩ := hJ 0 W h0
  refine callsIn_of_wp Try.func68 rfl h7 ?_ hro
  simp only [Try.ntmps68, List.size_toArray, List.length_cons, List.length_nil, Nat.reduceAdd, Nat.reduceSub, Array.replicate_succ, Array.replicate_zero, List.push_toArray, List.append_toArray, List.nil_append, List.cons_append]
  gi_wp2
  gi_loopw [7] (fun i wr => ∃ k : Nat, k ≤ len ∧ i = .int .i64 k ∧ J k wr)
    (fun i _ => len - (intOf i).toNat)
  case atStart => exact ⟨0, Nat.zero_le _, rfl, h0⟩
  case round =>
    obtain ⟨k, hk, rfl, hJs⟩ := hrel
    have hcx := (hJ k wr hJs).2 k
    by_cases hlt : k < len
    · obtain ⟨fn, tmps, assign, body, hy, hR⟩ := hY k wr hlt hJs
      have hcx' := hcx hlt
      gi_wp2
      refine hR.mono ?_
      rintro e W3 ⟨rfl, hJ3⟩
      gi_wp2
      go_roundw
      case rel => exact ⟨k + 1, by omega, by simp, hJ3⟩
      case measure => simp [intOf]; omega
    · obtain rfl : k = len := by omega
      gi_wp2
      go_end0
      exact ⟨⟨_, rfl⟩, hJs⟩

set_option maxRecDepth 100000 in
set_option maxHeartbeats 1000000 in
theorem values1_nil (F : Fence) (n : Nat) (h7 : F.fn 68) (hro : F.round = none) (l Bs : Nat) (J : Nat → World → Prop) (hJ : ∀ k W, J k W → BoxN Bs W) (W : World) (h0 : J 0 W) :
    CallsIn F n Try.prog 68 #[.func (.yield l) #[] #[], .pointer (some ⟨Bs, 0, none⟩)] W fun e W' => (∃ v, e = .returned v) ∧ J 0 W' := by
  obtain ⟨x, cap, hBs⟩ := hJ 0 W h0
  refine callsIn_of_wp Try.func68 rfl h7 ?_ hro
  simp only [Try.ntmps68, List.size_toArray, List.length_cons, List.length_nil, Nat.reduceAdd, Nat.reduceSub, Array.replicate_succ, Array.replicate_zero, List.push_toArray, List.append_toArray, List.nil_append, List.cons_append]
  gi_wp2
  gi_loopw [7] (fun i wr => i = .int .i64 0 ∧ J 0 wr) (fun _ _ => 0)
  case atStart => exact ⟨rfl, h0⟩
  case round =>
    obtain ⟨rfl, hJs⟩ := hrel
    gi_wp2
    go_end0
    exact ⟨⟨_, rfl⟩, hJs⟩

theorem values_seq (Bs b off m : Nat) (xs : Nat → Int) (hm : m * 8 ≤ 140737488351232) :
    SeqN 1 Try.prog 68 #[.pointer (some ⟨Bs, 0, none⟩)] m (fun k => #[.int .i64 (xs k)]) (fun _ W => BoxF Bs b off m xs W) := fun l J W hJ hY h0 =>
  values1_in Fence.wide 2 trivial rfl (by omega) l Bs b off m xs hm J hJ hY W h0
theorem values_seq0 (Bs : Nat) (xs : Nat → Int) :
    SeqN 1 Try.prog 68 #[.pointer (some ⟨Bs, 0, none⟩)] 0 (fun k => #[.int .i64 (xs k)]) (fun _ W => BoxN Bs W) := fun l J W hJ _ h0 =>
  values1_nil Fence.wide 2 trivial rfl l Bs J hJ W h0

set_option maxRecDepth 100000 in
set_option maxHeartbeats 2000000 in
theorem backward1_in (F : Fence) (n : Nat) (h7 : F.fn 70) (hro : F.round = none) (hn : 1 ≤ n) (l Bs b off len : Nat) (xs : Nat → Int) (hreach : len * 8 ≤ 140737488351232) (J : Nat → World → Prop) (hJ : ∀ k W, J k W → BoxF Bs b off len xs W)
    (hY : ∀ k W, k < len → J k W → YieldAt F (n - 1) Try.prog l #[.int .i64 ((len - 1 - k : Nat) : Int), .int .i64 (xs (len - 1 - k))] W fun e W' => e = .returned (.bool true) ∧ J (k + 1) W')
    (W : World) (h0 : J 0 W) :
    CallsIn F n Try.prog 70 #[.func (.yield l) #[] #[], .pointer (some ⟨Bs, 0, none⟩)] W fun e W' => (∃ v, e = .returned v) ∧ J len W' := by
  obtain ⟨⟨cap, hBs⟩, _⟩ := hJ 0 W h0
  refine callsIn_of_wp Try.func70 rfl h7 ?_ hro
  simp only [Try.ntmps70, List.size_toArray, List.length_cons, List.length_nil, Nat.reduceAdd, Nat.reduceSub, Array.replicate_succ, Array.replicate_zero, List.push_toArray, List.append_toArray, List.nil_append, List.cons_append]
  gi_wp2
  gi_loopw [3] (fun i wr => ∃ k : Nat, k ≤ len ∧ i = .int .i64 ((len : Int) - 1 - k) ∧ J k wr)
    (fun i _ => (intOf i + 1).toNat)
  case atStart => exact ⟨0, Nat.zero_le _, by simp, h0⟩
  case round =>
    obtain ⟨k, hk, rfl, hJs⟩ := hrel
    by_cases hlt : k < len
    · obtain ⟨⟨cap', hBr⟩, hcx⟩ := hJ k wr hJs
      have hcx' := hcx (len - 1 - k) (by omega)
      obtain ⟨fn, tmps, assign, body, hy, hR⟩ := hY k wr hlt hJs
      have e0 : ((len - 1 - k : Nat) : Int) = (len : Int) - 1 - k := by omega
      rw [e0] at hy
      gi_wp2
      refine hR.mono ?_
      rintro e W3 ⟨rfl, hJ3⟩
      gi_wp2
      go_roundw
      case rel => exact ⟨k + 1, by omega, by simp; omega, hJ3⟩
      case measure => simp [intOf]; omega
    · obtain rfl : k = len := by omega
      gi_wp2
      go_end0
      exact ⟨⟨_, rfl⟩, hJs⟩

set_option maxRecDepth 100000 in
set_option maxHeartbeats 1000000 in
theorem backward1_nil (F : Fence) (n : Nat) (h7 : F.fn 70) (hro : F.round = none) (l Bs : Nat) (J : Nat → World → Prop) (hJ : ∀ k W, J k W → BoxN Bs W) (W : World) (h0 : J 0 W) :
    CallsIn F n Try.prog 70 #[.func (.yield l) #[] #[], .pointer (some ⟨Bs, 0, none⟩)] W fun e W' => (∃ v, e = .returned v) ∧ J 0 W' := by
  obtain ⟨x, cap, hBs⟩ := hJ 0 W h0
  refine callsIn_of_wp Try.func70 rfl h7 ?_ hro
  simp only [Try.ntmps70, List.size_toArray, List.length_cons, List.length_nil, Nat.reduceAdd, Nat.reduceSub, Array.replicate_succ, Array.replicate_zero, List.push_toArray, List.append_toArray, List.nil_append, List.cons_append]
  gi_wp2
  gi_loopw [3] (fun i wr => i = .int .i64 (-1) ∧ J 0 wr) (fun _ _ => 0)
  case atStart => exact ⟨rfl, h0⟩
  case round =>
    obtain ⟨rfl, hJs⟩ := hrel
    gi_wp2
    go_end0
    exact ⟨⟨_, rfl⟩, hJs⟩

theorem backward_seq (Bs b off m : Nat) (xs : Nat → Int) (hm : m * 8 ≤ 140737488351232) :
    SeqN 1 Try.prog 70 #[.pointer (some ⟨Bs, 0, none⟩)] m (fun k => #[.int .i64 ((m - 1 - k : Nat) : Int), .int .i64 (xs (m - 1 - k))]) (fun _ W => BoxF Bs b off m xs W) := fun l J W hJ hY h0 =>
  backward1_in Fence.wide 2 trivial rfl (by omega) l Bs b off m xs hm J hJ hY W h0
theorem backward_seq0 (Bs : Nat) (enc : Nat → Array Value) :
    SeqN 1 Try.prog 70 #[.pointer (some ⟨Bs, 0, none⟩)] 0 enc (fun _ W => BoxN Bs W) := fun l J W hJ _ h0 =>
  backward1_nil Fence.wide 2 trivial rfl l Bs J hJ W h0

/-- What the two iterators read: a slice in a box. -/
def BoxA (q : Nat) (v : Value) (xs : List Int) (g : Heap) : Prop := g q = some ⟨false, 22, [v]⟩ ∧ Src g v 1 xs.length (xs.map (Value.int .i64))

theorem box_ptr {ρs : Abs.Ren} {g : Heap} {q : Nat} {v : Value} {lb : Array Value} {base : Nat} {w0 : World} {s : Nat → Prop} {w : World} (hR : HR base w0 ρs g s w) (hq : g q = some ⟨false, 22, [v]⟩) (hl : All2 (VR ρs g) [.pointer (some ⟨q, 0, some 1⟩)] lb.toList) : lb = #[.pointer (some ⟨(ρs q).blk, 0, none⟩)] := by
  obtain ⟨h1, h2⟩ := hl
  obtain ⟨c, hc, hv⟩ := h2 0 _ rfl
  have hp := VR_ptr_live (a := ⟨q, 0, some 1⟩) (b := ⟨false, 22, [v]⟩) (by simp [rd, hq]) hv
  obtain ⟨_, h0, _⟩ := hR.own q _ hq rfl
  rw [h0] at hp
  have hlen : lb.toList.length = 1 := by simpa using h1.symm
  apply Array.ext'
  rw [List.length_eq_one_iff] at hlen
  obtain ⟨x, hx⟩ := hlen
  rw [hx] at hc ⊢
  simp at hc
  subst hc
  simp [hp]

theorem box_facts {base : Nat} {w0 w W : World} {ρs ρ' : Abs.Ren} {g g' : Heap} {n n' q : Nat} {v : Value} {xs : List Int} (hR : HR base w0 ρs g (· < n) w) (hA : BoxA q v xs g) (hA' : BoxA q v xs g') (hR' : HR base w0 ρ' g' (· < n') W) (hM : Mono ρs g (· < n) ρ' g') :
    ∃ c', W.cell? ⟨(ρs q).blk, 0, none⟩ = some c' ∧ VR ρ' g' v c' := by
  obtain ⟨b, hb, _, _, h3⟩ := hM q _ (hR.seen q _ hA.1) hA'.1
  rw [hA.1] at hb
  cases hb
  have e := h3 rfl
  obtain ⟨c', hc, hv⟩ := hR'.cell hA'.1 (k := 0) (c := v) rfl
  obtain ⟨_, h0, _⟩ := hR'.own q _ hA'.1 rfl
  rw [h0, e] at hc
  exact ⟨c', hc, hv⟩

theorem boxN_of {base : Nat} {w0 w W : World} {ρs ρ' : Abs.Ren} {g g' : Heap} {n n' q : Nat} {v : Value} {xs : List Int} (hR : HR base w0 ρs g (· < n) w) (hA : BoxA q v xs g) (hx : xs = []) (hA' : BoxA q v xs g') (hR' : HR base w0 ρ' g' (· < n') W) (hM : Mono ρs g (· < n) ρ' g') : BoxN (ρs q).blk W := by
  obtain ⟨c', hc, hv⟩ := box_facts hR hA hA' hR' hM
  subst hx
  rcases hA.2 with ⟨rfl, _⟩ | ⟨a, rfl, _⟩ | ⟨a, b, _, h, _⟩
  · obtain ⟨rfl, _⟩ := VR_nilslice hv
    exact ⟨none, 0, hc⟩
  · obtain ⟨a', cap', rfl, _⟩ := VR_slice hv
    exact ⟨some a', cap', hc⟩
  · simp at h

theorem boxF_of {base : Nat} {w0 w : World} {ρs : Abs.Ren} {g : Heap} {n q : Nat} {v : Value} {xs : List Int} (hR : HR base w0 ρs g (· < n) w) (hA : BoxA q v xs g) (hx : xs ≠ []) : ∃ b off, ∀ (ρ' : Abs.Ren) (g' : Heap) (n' : Nat) (W : World), BoxA q v xs g' → HR base w0 ρ' g' (· < n') W → Mono ρs g (· < n) ρ' g' → BoxF (ρs q).blk b off xs.length (fun j => xs[j]?.getD 0) W := by
  rcases hA.2 with ⟨_, h, _⟩ | ⟨a, _, h, _⟩ | ⟨a, bk, hv0, h0, hb, hcs, hle⟩
  · exact absurd (List.eq_nil_of_length_eq_zero h) hx
  · exact absurd (List.eq_nil_of_length_eq_zero h) hx
  refine ⟨(ρs a.block).blk, (ρs a.block).off + a.off, fun ρ' g' n' W hA' hR' hM => ?_⟩
  obtain ⟨c', hc, hv⟩ := box_facts hR hA hA' hR' hM
  obtain ⟨s1, s2⟩ := rd_spec hb
  rcases hA'.2 with ⟨h, _⟩ | ⟨a2, h, _⟩ | ⟨a2, bk', hv1, _, hb', hcs', hle'⟩
  · rw [hv0] at h; cases h
  · rw [hv0] at h; simp at h; exact absurd h.2 hx
  rw [hv0] at hv1
  simp at hv1
  subst hv1
  obtain ⟨s3, s4⟩ := rd_spec hb'
  rw [s1] at s3
  simp at s3
  obtain ⟨b2, hb2, _, _, h3⟩ := hM a.block _ (hR.seen a.block _ s2) s4
  rw [s2] at hb2
  cases hb2
  have e := h3 s3
  rw [hv0] at hv
  obtain ⟨cap', rfl, _⟩ := VR_slice_live hb' hv
  rw [e] at hc
  refine ⟨⟨cap', hc⟩, fun j hj => ?_⟩
  have hk : bk'.cells[a.off + j]? = some (.int .i64 (xs[j]?.getD 0)) := by
    have := congrArg (fun l => l[j]?) hcs'
    simp only [List.getElem?_map, List.getElem?_take, List.getElem?_drop, Nat.mul_one] at this
    rw [if_pos hj] at this
    rw [← this, List.getElem?_eq_getElem hj]
    rfl
  obtain ⟨c2, hc2, hv2⟩ := hR'.cell s4 hk
  rw [e] at hc2
  rw [Nat.add_assoc, hc2]
  exact congrArg some hv2

theorem iter_values (q : Nat) (v : Value) (xs : List Int) (hm : xs.length ≤ 2 ^ 40) : IterSpec Try.prog 68 [.pointer (some ⟨q, 0, some 1⟩)] xs.length (fun k => #[.int .i64 (xs[k]?.getD 0)]) (BoxA q v xs) := by
  refine ⟨enters_of Try.func68 (by kernel_rfl) rfl, fun base w0 ρs g n w lb hR hA hl => ?_⟩
  have e := box_ptr hR hA.1 hl
  subst e
  by_cases hx : xs = []
  · refine ⟨fun _ W => BoxN (ρs q).blk W, ?_, fun k ρ' g' n' W hA' hR' hM => boxN_of hR hA hx hA' hR' hM⟩
    subst hx
    exact values_seq0 (ρs q).blk _
  · obtain ⟨b, off, h⟩ := boxF_of hR hA hx
    exact ⟨fun _ W => BoxF (ρs q).blk b off xs.length (fun j => xs[j]?.getD 0) W, values_seq (ρs q).blk b off xs.length _ (by omega), fun k ρ' g' n' W hA' hR' hM => h ρ' g' n' W hA' hR' hM⟩

theorem iter_backward (q : Nat) (v : Value) (xs : List Int) (hm : xs.length ≤ 2 ^ 40) : IterSpec Try.prog 70 [.pointer (some ⟨q, 0, some 1⟩)] xs.length (fun k => #[.int .i64 ((xs.length - 1 - k : Nat) : Int), .int .i64 (xs[xs.length - 1 - k]?.getD 0)]) (BoxA q v xs) := by
  refine ⟨enters_of Try.func70 (by kernel_rfl) rfl, fun base w0 ρs g n w lb hR hA hl => ?_⟩
  have e := box_ptr hR hA.1 hl
  subst e
  by_cases hx : xs = []
  · refine ⟨fun _ W => BoxN (ρs q).blk W, ?_, fun k ρ' g' n' W hA' hR' hM => boxN_of hR hA hx hA' hR' hM⟩
    subst hx
    exact backward_seq0 (ρs q).blk _
  · obtain ⟨b, off, h⟩ := boxF_of hR hA hx
    exact ⟨fun _ W => BoxF (ρs q).blk b off xs.length (fun j => xs[j]?.getD 0) W, backward_seq (ρs q).blk b off xs.length (fun j => xs[j]?.getD 0) (by omega), fun k ρ' g' n' W hA' hR' hM => h ρ' g' n' W hA' hR' hM⟩
end Go.Proofs.Ytdpkhijbikbhnaa
