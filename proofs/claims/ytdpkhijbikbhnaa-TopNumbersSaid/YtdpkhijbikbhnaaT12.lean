import Derived.Test.YtdpkhijbikbhnaaT11
import Derived.Test.YtdpkhijbikbhnaaR3
import Derived.Test.YtdpkhijbikbhnaaSh
import Derived.Sort.OwnSortedInts
namespace Go.Proofs.Ytdpkhijbikbhnaa
open Go Abs Plain Go.RowKit
set_option linter.unusedSimpArgs false
set_option linter.unusedVariables false

/-- A contract out of one over worlds. -/
theorem callsim_of {P : Program} {k : FuncId} {args : List Value} {g : Heap} {s : Nat → Prop} {f : Eff} (eg : ∀ args w, (callFunc k args).run P w = .ok (.enter k args) w)
    (h : ∀ (base : Nat) (w0 : World) (ρ : Abs.Ren) (w : World) (args' : Array Value), HR base w0 ρ g s w → All2 (VV ρ g s) args args'.toList → Calls P k args' w fun e w' => ∃ ρ' v', e = .returned v' ∧ HR base w0 ρ' (f.ap g) (f.sn s) w' ∧ Mono ρ g s ρ' (f.ap g) ∧ VV ρ' (f.ap g) (f.sn s) f.v v') : CallSim P k args g s f := by
  intro base w0 ρ w args' o a K Q hR ha hk
  rw [eg, Oper.upon_enter]
  refine Calls.mono (h base w0 ρ w args' hR ha) ?_
  rintro e w' ⟨ρ', v', rfl, h1, h2, h3⟩
  exact hk ρ' w' v' h1 h2 h3

theorem all2_one {R : Value → Value → Prop} {x : Value} {a : Array Value} (h : All2 R [x] a.toList) : ∃ y, a = #[y] ∧ R x y := by
  obtain ⟨h1, h2⟩ := h
  obtain ⟨c, hc, hv⟩ := h2 0 _ rfl
  have hlen : a.toList.length = 1 := by simpa using h1.symm
  rw [List.length_eq_one_iff] at hlen
  obtain ⟨y, hy⟩ := hlen
  rw [hy] at hc
  simp at hc
  subst hc
  exact ⟨y, by apply Array.ext'; simpa using hy, hv⟩
theorem all2_two {R : Value → Value → Prop} {x y : Value} {a : Array Value} (h : All2 R [x, y] a.toList) : ∃ u v, a = #[u, v] ∧ R x u ∧ R y v := by
  obtain ⟨h1, h2⟩ := h
  obtain ⟨c, hc, hv⟩ := h2 0 _ rfl
  obtain ⟨d, hd, hw⟩ := h2 1 _ rfl
  have hlen : a.toList.length = 2 := by simpa using h1.symm
  obtain ⟨l, hl⟩ : ∃ l, a.toList = l := ⟨_, rfl⟩
  rw [hl] at hc hd hlen
  rcases l with _ | ⟨u, _ | ⟨v, _ | ⟨w, l⟩⟩⟩
  · simp at hlen
  · simp at hlen
  · simp at hc hd
    subst hc hd
    exact ⟨u, v, by apply Array.ext'; simpa using hl, hv, hw⟩
  · simp at hlen

def srt (l : List Int) : List Int := l.mergeSort fun x y => decide (x ≤ y)
theorem srt_len (l : List Int) : (srt l).length = l.length := List.length_mergeSort ..

set_option maxRecDepth 100000 in
/-- slices.Sort: the library's contract. -/
theorem sort_spec (k : Nat) (zs : List Int) (g : Heap) (hl : zs.length ≤ 2 ^ 38) (hk : g k = some ⟨false, 3, intsI zs⟩) : FnSpec Try.prog 67 [.slice (some ⟨k, 0, some zs.length⟩) zs.length 1] g { v := undef, r := [k], w := [(k, ⟨false, 3, intsI (srt zs)⟩)] } := by
  intro g2 s2 hg hfr
  refine callsim_of (enters_of Try.func67 (by kernel_rfl) rfl) fun base w0 ρ w args' hR ha => ?_
  have hk2 : g2 k = some ⟨false, 3, intsI zs⟩ := by rw [hg k (by simp [Eff.fp])]; exact hk
  obtain ⟨y, rfl, hv⟩ := all2_one ha
  have hv1 := (VV_slice.1 hv).1
  obtain ⟨cap, rfl, _⟩ := VR_slice_live (a := ⟨k, 0, some zs.length⟩) (b := ⟨false, 3, intsI zs⟩) (by simp [rd, hk2]) hv1
  obtain ⟨h1, h2, cur, h3, h4, h5⟩ := hR.own k _ hk2 rfl
  rw [h2]
  have hcur : ∀ j, j < zs.length → cur[j]? = some (.int .i64 (zs[j]?.getD 0)) := fun j hj => by
    obtain ⟨c', hc, hvc⟩ := h5 j (.int .i64 (zs[j]?.getD 0)) (by simp [hj])
    rw [hc]; exact congrArg some hvc
  have ht : cur.toList.take zs.length = zs.map (Value.int .i64) := by
    apply List.ext_getElem?
    intro j
    by_cases hj : j < zs.length
    · rw [List.getElem?_take_of_lt hj, Array.getElem?_toList, hcur j hj]; simp [hj]
    · rw [List.getElem?_take_eq_none (by omega), List.getElem?_eq_none (by simp; omega)]
  have hle : zs.length ≤ cur.size := by
    have := congrArg List.length ht
    simp at this
    omega
  refine Calls.mono (Any.slices_Sort_int Try.lays189 (ρ k).blk 0 cap zs w (holds_of_blockI h3 ht) (Array.getElem?_eq_some_iff.1 h3).1 (by omega)) ?_
  rintro e w' ⟨rfl, n, os, rfl⟩
  have hch := hR.change hk2 rfl (ri := ρ k) (cs := intsI (srt zs)) (grownBy_sortedI (n := n) (os := os) (srt zs).toArray) (.inl rfl) h2 (heap_sortedI (srt zs).toArray h3) (by simp [Sort.putCells, h4]) (by simp [srt_len]) (fun _ => rfl) (fun j c hc => by
    have hj : j < zs.length := by
      have := (List.getElem?_eq_some_iff.1 hc).1
      simpa [srt_len] using this
    refine ⟨c, ?_, ?_⟩
    · have hj' : j < (srt zs).length := by rw [srt_len]; exact hj
      have := congrArg (fun l => l[j]?) (take_putCellsI cur (srt zs) (by rw [srt_len]; exact hle))
      simp only [List.getElem?_take_of_lt hj', Array.getElem?_toList] at this
      rw [this]; exact hc
    · obtain ⟨z, _, rfl⟩ := List.mem_map.1 (List.mem_of_getElem? hc)
      rfl) (fun c hc => by obtain ⟨z, _, rfl⟩ := List.mem_map.1 hc; trivial)
  have eρ : upd ρ k (ρ k) = ρ := by funext i; by_cases e : i = k <;> simp [upd_app, e]
  rw [eρ] at hch
  exact ⟨ρ, _, rfl, (hch.1.sn0 _), hch.2, VV_undef⟩

set_option maxRecDepth 100000 in
theorem sort_nil (g : Heap) : FnSpec Try.prog 67 [.slice none 0 0] g { v := undef } := by
  intro g2 s2 hg hfr
  refine callsim_of (enters_of Try.func67 (by kernel_rfl) rfl) fun base w0 ρ w args' hR ha => ?_
  obtain ⟨y, rfl, hv⟩ := all2_one ha
  obtain ⟨rfl, _⟩ := VR_nilslice (VV_slice.1 hv).1
  refine Calls.mono (Any.slices_Sort_int_none Try.lays189 none 0 w) ?_
  rintro e w' ⟨rfl, rfl⟩
  exact ⟨ρ, _, rfl, hR.sn0 _, Mono.refl _ _ _, VV_undef⟩

set_option maxRecDepth 100000 in
/-- math/bits.Mul of small numbers. -/
theorem mul_spec (x y : Nat) (g : Heap) (h : x * y < 18446744073709551616) (hx : x < 18446744073709551616) (hy : y < 18446744073709551616) : FnSpec Try.prog 69 [.int .u64 x, .int .u64 y] g { v := .tuple #[.int .u64 0, .int .u64 ((x * y : Nat) : Int)] } := by
  intro g2 s2 hg hfr
  refine callsim_of (enters_of Try.func69 (by kernel_rfl) rfl) fun base w0 ρ w args' hR ha => ?_
  obtain ⟨u, v, rfl, hu, hv⟩ := all2_two ha
  obtain rfl := VV_int.1 hu
  obtain rfl := VV_int.1 hv
  refine Calls.mono (Any.bits_Mul Try.lays212 x y hx hy w) ?_
  rintro e w' ⟨rfl, rfl⟩
  refine ⟨ρ, _, rfl, hR.sn0 _, Mono.refl _ _ _, ?_⟩
  rw [Nat.div_eq_of_lt h, Nat.mod_eq_of_lt h]
  refine ⟨⟨_, rfl, by simp, fun i a hi => ?_⟩, fun c hc => ?_⟩
  · rcases i with _ | _ | i
    · simp at hi; subst hi; exact ⟨_, rfl, rfl⟩
    · simp at hi; subst hi; exact ⟨_, rfl, rfl⟩
    · simp at hi
  · simp at hc
    rcases hc with rfl | rfl <;> trivial

set_option maxRecDepth 100000 in
/-- slices.BinarySearch over a row in order. -/
theorem bsearch_spec (v : Value) (zs : List Int) (x : Int) (g : Heap) (hl : zs.length ≤ 2 ^ 38) (hv : Src g v 1 zs.length (intsI zs)) (hs : zs.Pairwise (· ≤ ·)) :
    FnSpec Try.prog 60 [v, .int .i64 x] g { v := .tuple #[.int .i64 (zs.countP (· < x) : Nat), .bool (zs.contains x)], r := srcBlk v } := by
  intro g2 s2 hg hfr
  have hv2 : Src g2 v 1 zs.length (intsI zs) := hv.congr fun i hi => hg i (by simp [Eff.fp, hi])
  refine callsim_of (enters_of Try.func60 (by kernel_rfl) rfl) fun base w0 ρ w args' hR ha => ?_
  obtain ⟨u, y, rfl, hu, hy⟩ := all2_two ha
  obtain rfl := VV_int.1 hy
  have fin : ∀ (w' : World) (v' : Value), w'.heap = w.heap → Below w.heap.size w w' → v' = .tuple #[.int .i64 (zs.countP (· < x) : Nat), .bool (zs.contains x)] → ∃ ρ' v'', Ending.returned v' = .returned v'' ∧ HR base w0 ρ' (({ v := .tuple #[.int .i64 (zs.countP (· < x) : Nat), .bool (zs.contains x)], r := srcBlk v } : Eff).ap g2) (({ v := .tuple #[.int .i64 (zs.countP (· < x) : Nat), .bool (zs.contains x)], r := srcBlk v } : Eff).sn s2) w' ∧ Mono ρ g2 s2 ρ' (({ v := .tuple #[.int .i64 (zs.countP (· < x) : Nat), .bool (zs.contains x)], r := srcBlk v } : Eff).ap g2) ∧ VV ρ' (({ v := .tuple #[.int .i64 (zs.countP (· < x) : Nat), .bool (zs.contains x)], r := srcBlk v } : Eff).ap g2) (({ v := .tuple #[.int .i64 (zs.countP (· < x) : Nat), .bool (zs.contains x)], r := srcBlk v } : Eff).sn s2) (.tuple #[.int .i64 (zs.countP (· < x) : Nat), .bool (zs.contains x)]) v'' := by
    rintro w' v' hh hB rfl
    refine ⟨ρ, _, rfl, (hR.world hh (hR.below.trans (hB.mono hR.hb))).sn0 _, Mono.refl _ _ _, ?_⟩
    refine ⟨⟨_, rfl, by simp, fun i a hi => ?_⟩, fun c hc => ?_⟩
    · rcases i with _ | _ | i
      · obtain rfl := Option.some.inj hi; exact ⟨_, rfl, rfl⟩
      · obtain rfl := Option.some.inj hi; exact ⟨_, rfl, rfl⟩
      · simp at hi
    · simp at hc
      rcases hc with rfl | rfl <;> trivial
  have emp : zs = [] → ∀ (a : Option Addr) (c : Nat), u = .slice a 0 c → Calls Try.prog 60 #[u, .int .i64 x] w fun e w' => ∃ ρ' v', e = .returned v' ∧ HR base w0 ρ' (({ v := .tuple #[.int .i64 (zs.countP (· < x) : Nat), .bool (zs.contains x)], r := srcBlk v } : Eff).ap g2) (({ v := .tuple #[.int .i64 (zs.countP (· < x) : Nat), .bool (zs.contains x)], r := srcBlk v } : Eff).sn s2) w' ∧ Mono ρ g2 s2 ρ' (({ v := .tuple #[.int .i64 (zs.countP (· < x) : Nat), .bool (zs.contains x)], r := srcBlk v } : Eff).ap g2) ∧ VV ρ' (({ v := .tuple #[.int .i64 (zs.countP (· < x) : Nat), .bool (zs.contains x)], r := srcBlk v } : Eff).ap g2) (({ v := .tuple #[.int .i64 (zs.countP (· < x) : Nat), .bool (zs.contains x)], r := srcBlk v } : Eff).sn s2) (.tuple #[.int .i64 (zs.countP (· < x) : Nat), .bool (zs.contains x)]) v' := by
    rintro hz a c rfl
    refine Calls.mono (Any.slices_BinarySearch_int_empty Try.laysNm225 a c x w) ?_
    rintro e w' ⟨rfl, rfl⟩
    exact fin _ _ rfl (Below.refl _ _) (by subst hz; rfl)
  rcases hv2 with ⟨rfl, h0, _⟩ | ⟨a, rfl, h0, _⟩ | ⟨a, b, rfl, h0, hb, hcs, hle⟩
  · obtain ⟨rfl, _⟩ := VR_nilslice (VV_slice.1 hu).1
    exact emp (List.eq_nil_of_length_eq_zero h0) none 0 rfl
  · obtain ⟨a', cap', rfl, _⟩ := VR_slice (VV_slice.1 hu).1
    exact emp (List.eq_nil_of_length_eq_zero h0) (some a') cap' rfl
  · obtain ⟨cap, rfl, _⟩ := VR_slice_live hb (VV_slice.1 hu).1
    obtain ⟨_, hb'⟩ := rd_spec hb
    refine Calls.mono (Any.slices_BinarySearch_int Try.laysNm225 (ρ a.block).blk ((ρ a.block).off + a.off) zs.length cap zs x w (Nat.le_refl _) (by omega) (fun j hj => ?_) (by rw [List.take_length]; exact hs)) ?_
    · have hk : b.cells[a.off + j]? = some (.int .i64 (zs[j]?.getD 0)) := by
        have := congrArg (fun l => l[j]?) hcs
        simp only [List.getElem?_map, List.getElem?_take, List.getElem?_drop, Nat.mul_one] at this
        rw [if_pos hj] at this
        rw [← this, List.getElem?_eq_getElem hj]
        rfl
      obtain ⟨c2, hc2, hv2⟩ := hR.cell hb' hk
      rw [Nat.add_assoc, hc2]
      exact congrArg some (hv2.trans (by simp))
    · rintro e w' ⟨rfl, q, rfl⟩
      rw [List.take_length]
      exact fin _ _ rfl ⟨rfl, rfl, rfl, Nat.le_refl _, fun i _ => rfl⟩ rfl
end Go.Proofs.Ytdpkhijbikbhnaa
