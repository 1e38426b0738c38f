import Derived.Test.YtdpkhijbikbhnaaAbsA
import Derived.Tactics
import Derived.RangeFuncNested
import Derived.RangeFuncBound
import Derived.RangeFuncCalls
import Derived.RangeFuncLeaves
import Derived.TacticsIn
/-
  The abstract machine, part 5: append and copy; all operations in one function.
-/
namespace Go.Proofs.Ytdpkhijbikbhnaa.Abs
open Go Go.RowKit

/-- What a slice lends to append or copy: how many elements, and their cells. -/
def srcCells (y : Value) (g : Heap) (esz : Nat) : Option (Nat × List Value) :=
  match y with
  | .slice none _ _ => some (0, [])
  | .slice (some a) m esz' => if m = 0 then some (0, []) else match rd g a with
    | some b => if esz' = esz then some (m, (b.cells.drop a.off).take (m * esz)) else none
    | none => none
  | _ => none

def srcBlk : Value → List Nat
  | .slice (some a) m _ => if m = 0 then [] else [a.block]
  | _ => []

def stepAppend (P : Program) (T T' : TypeId) (x y : Value) (g : Heap) (j : Nat) : Option Eff :=
  if T = T' then match P.underlying T with
    | some (.slice e) => match tinf P e with
      | some (_, esz, bytes) => match srcCells y g esz with
        | some (m, news) => match x with
          | .slice none _ _ => if m = 0 then some { v := .slice none 0 0 } else
            if 0 < esz ∧ m ≤ 140737488355328 ∧ m * bytes ≤ 140737488355328 then
              some { v := .slice (some ⟨j, 0, some news.length⟩) m esz, r := srcBlk y, j := j, a := [⟨false, e, news⟩] } else none
          | .slice (some a) n esz' => match rd g a with
            | some b => if b.ro = false ∧ b.e = e ∧ a.off = 0 ∧ esz' = esz ∧ n * esz = b.cells.length ∧ 0 < esz ∧ n + m ≤ 140737488355328 ∧ (n + m) * bytes ≤ 140737488355328 then
                some { v := .slice (some ⟨a.block, 0, some (b.cells ++ news).length⟩) (n + m) esz, r := a.block :: srcBlk y, w := [(a.block, ⟨false, e, b.cells ++ news⟩)] } else none
            | none => none
          | _ => none
        | none => none
      | none => none
    | _ => none
  else none

section
variable {P : Program} {o : Oper} {ev : Operand → Value} {g : Heap} {s : Nat → Prop} {f : Eff}

/-- The source, in the world. -/
theorem src_spec {base : Nat} {w0 : World} {ρ : Ren} {w : World} (hR : HR base w0 ρ g s w) {y y' : Value} {esz m : Nat} {news : List Value} (hy : VV ρ g s y y') (h : srcCells y g esz = some (m, news)) :
    (y' = .slice none 0 0 ∧ m = 0 ∧ news = []) ∨ ∃ (a : Addr) (c : Nat) (cs : List Value), y' = .slice (some a) m c ∧ cs.length = m * esz ∧ (∀ (j : Nat) (v : Value), cs[j]? = some v → w.cell? (a.add j) = some v) ∧
      All2 (VR ρ g) news cs ∧ (∀ c ∈ news, SV1 s c) := by
  unfold srcCells at h
  split at h
  · cases h
    rw [VV_slice] at hy
    exact .inl ⟨(VR_nilslice hy.1).1, rfl, rfl⟩
  · rename_i a m0 esz'
    rw [VV_slice] at hy
    split at h
    · rename_i hm
      cases h
      subst hm
      obtain ⟨a', c', e, _⟩ := VR_slice hy.1
      exact .inr ⟨a', c', [], e, by simp, by simp, by simp [All2], by simp⟩
    · split at h
      · rename_i b hb
        split at h
        · rename_i he
          subst he
          cases h
          obtain ⟨hsp, hg⟩ := rd_spec hb
          obtain ⟨cap', e, q1, q2, q3, q4⟩ := VR_slice_live hb hy.1
          obtain ⟨cs, c1, c2, c3⟩ := hR.cells hg a.off (m * esz') q3
          refine .inr ⟨_, cap', cs, e, c1, c2, c3, fun c hc => ?_⟩
          exact hR.wf _ b hg c (List.mem_of_mem_drop (List.mem_of_mem_take hc))
        · cases h
      · cases h
  · cases h

theorem All2_oneCell {ρ : Ren} {l l' : List Value} (h : All2 (VR ρ g) l l') : ∀ c ∈ l', c.oneCell' = true := by
  intro c hc
  obtain ⟨i, hi, hci⟩ := List.mem_iff_getElem.1 hc
  have hi' : i < l.length := by rw [h.1]; exact hi
  obtain ⟨b, hb, hr⟩ := h.2 i _ (List.getElem?_eq_getElem hi')
  rw [List.getElem?_eq_getElem hi] at hb
  cases hb
  rw [← hci]
  exact (VR_one hr).2

theorem PreR.of_take {R : Value → Value → Prop} {l l' : List Value} {cur : Array Value} {n : Nat} (h : All2 R l l') (hc : cur.toList.take n = l') : PreR R l cur := by
  intro k c hk
  obtain ⟨b, hb, hr⟩ := h.2 k c hk
  refine ⟨b, ?_, hr⟩
  rw [← hc, List.getElem?_take] at hb
  split at hb
  · simpa using hb
  · cases hb

theorem All2.append {R : Value → Value → Prop} {l1 l2 m1 m2 : List Value} (h : All2 R l1 m1) (k : All2 R l2 m2) : All2 R (l1 ++ l2) (m1 ++ m2) := by
  refine ⟨by simp [h.1, k.1], fun i a hi => ?_⟩
  rcases Nat.lt_or_ge i l1.length with hlt | hge
  · rw [List.getElem?_append_left hlt] at hi
    obtain ⟨b, hb, hr⟩ := h.2 i a hi
    exact ⟨b, by rw [List.getElem?_append_left (by rw [← h.1]; exact hlt)]; exact hb, hr⟩
  · rw [List.getElem?_append_right hge] at hi
    obtain ⟨b, hb, hr⟩ := k.2 _ a hi
    exact ⟨b, by rw [List.getElem?_append_right (by rw [← h.1]; exact hge), ← h.1]; exact hb, hr⟩

theorem exec_append {x y : Operand} {T T' : TypeId} {act : Act} {w w' : World} {v : Value} (ho : o.op = .call { callee := .builtin .append, args := #[x, y], argTypes := #[T, T'] })
    (hr : (Builtin.append_ #[T, T'] o.type #[act.eval x, act.eval y]).run P w = .ok v w') : (execOp act.eval o).run P w = .ok (.value v) w' := by
  unfold execOp
  simp only [ho, resolve, invoke, builtin, Sem.run_bind, Sem.run_pure, Result.andThen_ok, List.map_toArray, List.map_cons, List.map_nil, hr]

theorem exec_copy {x y : Operand} {T T' : TypeId} {act : Act} {w w' : World} {v : Value} (ho : o.op = .call { callee := .builtin .copy, args := #[x, y], argTypes := #[T, T'] })
    (hr : (Builtin.copy_ #[T, T'] o.type #[act.eval x, act.eval y]).run P w = .ok v w') : (execOp act.eval o).run P w = .ok (.value v) w' := by
  unfold execOp
  simp only [ho, resolve, invoke, builtin, Sem.run_bind, Sem.run_pure, Result.andThen_ok, List.map_toArray, List.map_cons, List.map_nil, hr]

theorem sim_append {T T' : TypeId} {x y : Operand} {j : Nat} (ho : o.op = .call { callee := .builtin .append, args := #[x, y], argTypes := #[T, T'] }) (h : stepAppend P T T' (ev x) (ev y) g j = some f) (hj : f.a ≠ [] → ¬ s j) : OpSim P o ev g s f := by
  unfold stepAppend at h
  split at h
  · rename_i hT
    subst hT
    split at h
    · rename_i e hu
      split at h
      · rename_i zs esz bytes hti
        split at h
        · rename_i m news hsrc
          obtain ⟨i, z, hi, hz, h1, h2, h3, h4, h5, h6⟩ := tinf_spec hti
          intro base w0 ρ w act K Q hR hv hk
          have hvx := hv x (by simp [ho, Op.operands, Call.operands])
          have hvy := hv y (by simp [ho, Op.operands, Call.operands])
          have hsp := src_spec hR hvy hsrc
          have hex : ∀ {v : Value} {w' : World}, (Builtin.append_ #[T, T] o.type #[act.eval x, act.eval y]).run P w = .ok v w' → (execOp act.eval o).run P w = .ok (.value v) w' :=
            fun hr => exec_append ho hr
          split at h
          · rename_i l0 c0 hx
            rw [hx, VV_slice] at hvx
            obtain ⟨ex, rfl, rfl⟩ := VR_nilslice hvx.1
            have hown := World.ownsRow_nil w base e esz
            split at h
            · rename_i hm
              cases h
              subst hm
              refine wp_of_run (hex (v := .slice none 0 0) (w' := w) ?_) (hk ρ w _ (hR.sn0 _) (Mono.refl _ _ _) (by rw [VV_slice]; exact ⟨⟨rfl, rfl, rfl⟩, trivial⟩))
              rcases hsp with ⟨e', _, _⟩ | ⟨a, c, cs, e', hl, hc, ha, _⟩
              · rw [ex, e']
                exact run_append_owned_none (P := P) w base T o.type e i esz hu hi _ 0 [] hown
              · rw [ex, e']
                have hcs : cs = [] := List.eq_nil_of_length_eq_zero (by simpa using hl)
                subst hcs
                simp [Builtin.append_, run_underlying hu, sizeOf, typeInfo, hi, Builtin.lenOf, Builtin.firstCells, loadCells, loadCellsFrom]
            · rename_i hm
              split at h
              · rename_i hc0
                obtain ⟨hpos, hlim, hby⟩ := hc0
                cases h
                rcases hsp with ⟨_, e', _⟩ | ⟨a, c, cs, e', hl, hc, ha, hsv⟩
                · exact absurd e' hm
                · obtain ⟨v', w', hr, hown', hg, _, hat⟩ := run_append_own_at (P := P) w base T o.type e i z esz bytes hu hi hz h1 h2 h4 hpos _ 0 [] hown a m c cs hl hc (All2_oneCell ha)
                    (by simp only [maxLen]; omega) (by simpa using hby) hR.hb
                  rw [List.nil_append, Nat.zero_add] at hown'
                  rcases hown'.2 with ⟨_, e0⟩ | ⟨k0, cap, cur, rfl, hbk, hcur, hnc, hcm, hcs, htake⟩
                  · exact absurd e0 hm
                  · have hk0 : k0 = w.heap.size := by
                      rcases hat with hat | hat
                      · simp [Value.ownBlock] at hat
                      · simpa [Value.ownBlock] using hat
                    have hg' : w.grownBy w' none := by simpa [Value.ownBlock] using hg
                    obtain ⟨r1, r2⟩ := hR.added (.slice (some ⟨j, 0, some news.length⟩) m esz) (srcBlk (ev y)) (hj (by simp)) hg' (Nat.le_of_eq hk0.symm) hcur (PreR.of_take ha htake) hsv _ rfl
                    refine wp_of_run (hex (by rw [ex, e']; exact hr)) (hk _ _ _ r1 r2 (VV_newSlice (.inr ⟨Nat.le_refl _, by simp⟩) (by rw [ha.1, hl]; exact Nat.le_refl _) cap hnc hcm _ hcs.symm))
              · cases h
          · rename_i a n esz' hx
            split at h
            · rename_i b hb
              split at h
              · rename_i hc0
                obtain ⟨hro, rfl, h00, rfl, hfull, hpos, hlim, hby⟩ := hc0
                cases h
                obtain ⟨hspot, hg⟩ := rd_spec hb
                rw [hx, VV_slice] at hvx
                obtain ⟨cap', ex, q1, q2, q3, q4⟩ := VR_slice_live hb hvx.1
                obtain ⟨hbb, hoff, cur, hcur, hK, hh⟩ := hR.own _ b hg hro
                rw [hoff, h00, Nat.zero_add] at ex
                have hcap : cur.size = cap' * esz' := by have := q4 hro; omega
                have hall : All2 (VR ρ g) b.cells (cur.toList.take (n * esz')) := by
                  refine ⟨?_, fun k c hkc => ?_⟩
                  · have : n * esz' ≤ cap' * esz' := Nat.mul_le_mul_right _ q1
                    simp only [List.length_take, Array.length_toList]
                    omega
                  · obtain ⟨c', hc', hr⟩ := hh k c hkc
                    refine ⟨c', ?_, hr⟩
                    have hlt := (List.getElem?_eq_some_iff.1 hkc).1
                    rw [List.getElem?_take, if_pos (by omega)]
                    simpa using hc'
                have hown : w.ownsRow base b.e esz' (.slice (some ⟨(ρ a.block).blk, 0, none⟩) n cap') n (cur.toList.take (n * esz')) :=
                  ⟨by rw [← hall.1, hfull], .inr ⟨_, cap', cur, rfl, hbb, hcur, q1, q2, hcap, rfl⟩⟩
                have hsvb : (∀ c ∈ news, SV1 s c) → ∀ c ∈ b.cells ++ news, SV1 s c := fun hsv c hc => by
                  rcases List.mem_append.1 hc with hc | hc
                  · exact hR.wf _ b hg c hc
                  · exact hsv c hc
                -- what closes every arm
                have close : ∀ {k1 cap1 : Nat} {cur1 : Array Value} {w' : World} {cs : List Value}, (Builtin.append_ #[T, T] o.type #[act.eval x, act.eval y]).run P w = .ok (.slice (some ⟨k1, 0, none⟩) (n + m) cap1) w' →
                    w.grownBy w' (some (ρ a.block).blk) → (k1 = (ρ a.block).blk ∨ w.heap.size ≤ k1) → w'.heap[k1]? = some (.cells cur1 b.e (0, 0)) → n + m ≤ cap1 → cap1 ≤ maxLen → cur1.size = cap1 * esz' →
                    cur1.toList.take ((n + m) * esz') = cur.toList.take (n * esz') ++ cs → All2 (VR ρ g) news cs → (∀ c ∈ news, SV1 s c) → news.length = m * esz' → (m = 0 → k1 = (ρ a.block).blk ∧ cap1 = cap') → o.wp P act w K Q := by
                  intro k1 cap1 cur1 w' cs hr hgr hk1 hcur1 hn1 hm1 hs1 htake ha hsv hnl hz0
                  obtain ⟨r1, r2⟩ := hR.change (ri := ⟨k1, 0, cur1.size⟩) (cs := b.cells ++ news) hg hro hgr hk1 rfl hcur1 rfl (by simp) (fun e => by
                      have hm0 : m = 0 := by
                        have : m * esz' = 0 := by simp only [List.length_append] at e; omega
                        rcases Nat.mul_eq_zero.1 this with h | h
                        · exact h
                        · omega
                      obtain ⟨e1, e2⟩ := hz0 hm0
                      subst e1 e2
                      rw [hs1, ← hcap, hK]
                      cases hρ : ρ a.block
                      rw [hρ] at hoff
                      simp only at hoff
                      subst hoff
                      rfl) (PreR.of_take (All2.append hall ha) htake) (hsvb hsv)
                  refine wp_of_run (hex hr) (hk _ _ _ (r1.sn0 _) r2 ?_)
                  rw [VV_slice]
                  refine ⟨⟨_, _, rfl, hn1, hm1, fun h => (by cases h), fun ver b' hv' hb' => ?_⟩, .inr (.inl (hR.seen _ b hg))⟩
                  simp only [Eff.ap, setAll, addAll, upd_self, Option.some.injEq] at hb' hv'
                  subst hb' hv'
                  refine ⟨Nat.le_refl _, fun _ => ⟨by simp, ?_, fun _ => by simp [hs1]⟩⟩
                  simp only [List.length_append, hnl, ← hfull, Nat.zero_add, ← Nat.add_mul]
                  exact Nat.le_refl _
                rcases hsp with ⟨e', rfl, rfl⟩ | ⟨ad, c, cs, e', hl, hc, ha, hsv⟩
                · refine close (k1 := (ρ a.block).blk) (cap1 := cap') (cur1 := cur) (w' := w) (cs := []) ?_ ⟨rfl, rfl, rfl, Nat.le_refl _, fun _ _ _ => rfl⟩ (.inl rfl) hcur q1 q2 hcap (by simp) (by simp [All2]) (by simp) (by simp) (fun _ => ⟨rfl, rfl⟩)
                  rw [ex, e']
                  exact run_append_owned_none (P := P) w base T o.type b.e i esz' hu hi _ n _ hown
                · by_cases hroom : n + m ≤ cap'
                  · obtain ⟨w', hr, hown', hgr⟩ := run_append_fits (P := P) w base T o.type b.e i esz' hu hi h1 _ n cap' _ hown ad m c cs hl hc (All2_oneCell ha) hroom
                    rcases hown'.2 with ⟨e0, _⟩ | ⟨k0, cap, cur1, e0, hbk, hcur1, hnc, hcm, hcs1, htake⟩
                    · cases e0
                    · simp only [Value.slice.injEq, Option.some.injEq, Addr.mk.injEq, and_true, true_and] at e0
                      obtain ⟨e1, e2⟩ := e0
                      subst e1 e2
                      exact close (by rw [ex, e']; exact hr) hgr (.inl rfl) hcur1 hnc hcm hcs1 htake ha hsv (by rw [ha.1, hl]) (fun _ => ⟨rfl, rfl⟩)
                  · obtain ⟨v', w', hr, hown', hgr, _, hat⟩ := run_append_own_at (P := P) w base T o.type b.e i z esz' bytes hu hi hz h1 h2 h4 hpos _ n _ hown ad m c cs hl hc (All2_oneCell ha)
                      (by simp only [maxLen]; omega) hby hR.hb
                    rcases hown'.2 with ⟨_, e0⟩ | ⟨k0, cap, cur1, rfl, hbk, hcur1, hnc, hcm, hcs1, htake⟩
                    · omega
                    · have hk0 : k0 = (ρ a.block).blk ∨ w.heap.size ≤ k0 := by
                        rcases hat with hat | hat
                        · simp [Value.ownBlock] at hat; exact .inl hat
                        · simp [Value.ownBlock] at hat; exact .inr (by omega)
                      exact close (by rw [ex, e']; exact hr) (by simpa [Value.ownBlock] using hgr) hk0 hcur1 hnc hcm hcs1 htake ha hsv (by rw [ha.1, hl]) (fun h0 => by omega)
              · cases h
            · cases h
          · cases h
        · cases h
      · cases h
    · cases h
  · cases h

/-- 'append(x, make(T, m)...)', which the compiler hands over as the number m: noughts behind a slice of one's own. -/
def stepZeros (P : Program) (T T' : TypeId) (x y : Value) (g : Heap) : Option Eff :=
  match P.underlying T, P.underlying T', x, y with
  | some (.slice e), some (.int _), .slice (some a) n esz, .int _ m => match tinf P e with
    | some ([z], 1, bytes) => match rd g a with
      | some b => if b.ro = false ∧ b.e = e ∧ a.off = 0 ∧ esz = 1 ∧ n = b.cells.length ∧ 0 < m ∧ n + m.toNat ≤ 140737488355328 ∧ (n + m.toNat) * bytes ≤ 140737488355328 then
          some { v := .slice (some ⟨a.block, 0, some (b.cells.length + m.toNat)⟩) (n + m.toNat) 1, r := [a.block], w := [(a.block, ⟨false, e, b.cells ++ List.replicate m.toNat z⟩)] } else none
      | none => none
    | _ => none
  | _, _, _, _ => none

theorem run_append_room_zeros {P : Program} (w : World) (t tn ty e : TypeId) (i : TypeInfo) (z : Value) (kq kn : IntKind) (ht : P.underlying t = some (.slice e)) (htn : P.underlying tn = some (.int kn)) (hi : P.info? e = some i) (hz : i.zero = some z) (hs : i.size = 1)
    (g sLen sCap : Nat) (cur : Array Value) (hg : w.heap[g]? = some (.cells cur e (0, 0))) (k : Nat) (h0 : 0 < k) (h63 : (k : Int) ≤ 9223372036854775807) (h48 : k * i.bytes ≤ 281474976710656) (hroom : sLen + k ≤ sCap)
    (hl : (Builtin.zeroCells z.cells k).toList.length = k) (hfit : sLen + k ≤ cur.size) (h1 : ∀ u ∈ (Builtin.zeroCells z.cells k).toList, u.oneCell' = true) :
    (Builtin.append_ #[t, tn] ty #[.slice (some ⟨g, 0, none⟩) sLen sCap, .int kq k]).run P w =
      .ok (.slice (some ⟨g, 0, none⟩) (sLen + k) sCap) (w.setRow g (cur.toList.take sLen ++ (Builtin.zeroCells z.cells k).toList ++ cur.toList.drop (sLen + k)).toArray) := by
  have hst := run_storeCells_at P g sLen e (Builtin.zeroCells z.cells k).toList 0 cur w hg (by rw [hl]; simpa using hfit) h1
  simp only [Nat.add_zero, hl] at hst
  have hw : IntKind.i64.wrap (k : Int) = k := by rw [IntKind.wrap_i64]; omega
  have h48i : ¬ (281474976710656 < (k : Int) * (i.bytes : Int)) := by
    rw [← Int.natCast_mul]
    omega
  have hneg : ¬ ((k : Int) < 0) := by omega
  have hns : ¬ (k = 0) := by omega
  simp [Builtin.append_, run_underlying ht, run_underlying htn, sizeOf, typeInfo, zeroValue, hi, hz, hs, asInt, asIntOf, hw, hneg, hns, h48i, hroom, Addr.add_lit, hst]

/-- The same where there is no room. -/
theorem grow_noughts {P : Program} (w : World) (t tn ty e : TypeId) (i : TypeInfo) (z : Value) (kq kn : IntKind) (ht : P.underlying t = some (.slice e)) (htn : P.underlying tn = some (.int kn)) (hi : P.info? e = some i) (hz : i.zero = some z) (hs : i.size = 1)
    (b : Option Addr) (n c : Nat) (old : Array Value) (hold : (Builtin.firstCells 1 n (.slice b n c)).run P w.drew = .ok old w.drew) (m : Nat) (h0 : 0 < m) (hg : ¬ n + m ≤ c) (h63 : n + m ≤ 140737488355328) (h48 : m * i.bytes ≤ 281474976710656)
    (hfit : Builtin.nextslicecap (n + m) c * i.bytes ≤ 281474976710656) : (Builtin.append_ #[t, tn] ty #[.slice b n c, .int kq m]).run P w =
      .ok (.slice (some ⟨w.heap.size, 0, none⟩) (n + m) (grownCap w (n + m) c e)) (w.drew.alloc (.cells (old ++ Builtin.zeroCells z.cells m ++ Builtin.zeroCells z.cells (grownCap w (n + m) c e - (n + m))) e)) := by
  have hw : IntKind.i64.wrap (m : Int) = m := by rw [IntKind.wrap_i64]; omega
  have h1 : ¬ (9223372036854775807 < ((n : Int) + (m : Int))) := by omega
  have h2 : ¬ (281474976710656 < Builtin.nextslicecap (n + m) c * i.bytes) := by omega
  have h3 : ¬ (281474976710656 < (m : Int) * (i.bytes : Int)) := by rw [← Int.natCast_mul]; omega
  have h4 : ¬ ((m : Int) < 0) := by omega
  have h5 : ¬ (m = 0) := by omega
  simp [Builtin.append_, run_underlying ht, run_underlying htn, sizeOf, typeInfo, zeroValue, hi, hz, hs, asInt, asIntOf, hw, hg, h1, h2, h3, h4, h5, Question.forced, hold, newRow, grownCap]

section
variable {P : Program} {o : Oper} {ev : Operand → Value} {g : Heap} {s : Nat → Prop} {f : Eff}

theorem zeros_rep {z0 : Value} {z : Value} (h : z0.cells.toList = [z]) (k : Nat) : (Builtin.zeroCells z0.cells k).toList = List.replicate k z := by
  have hz : z0.cells = #[z] := Array.toList_inj.1 (by simpa using h)
  unfold Builtin.zeroCells
  rw [hz]
  apply List.ext_getElem?
  intro j
  by_cases hj : j < k
  · simp [hj, Nat.mod_one]
  · rw [List.getElem?_eq_none (by simp; omega), List.getElem?_eq_none (by simp; omega)]

theorem All2_rep {R : Value → Value → Prop} {z : Value} (h : R z z) (k : Nat) : All2 R (List.replicate k z) (List.replicate k z) :=
  ⟨rfl, fun i a ha => ⟨a, ha, by
    have := List.mem_of_getElem? ha
    rw [List.mem_replicate] at this
    rw [this.2]; exact h⟩⟩

theorem sim_zeros {T T' : TypeId} {x y : Operand} (ho : o.op = .call { callee := .builtin .append, args := #[x, y], argTypes := #[T, T'] }) (h : stepZeros P T T' (ev x) (ev y) g = some f) : OpSim P o ev g s f := by
  unfold stepZeros at h
  split at h
  · rename_i e kt a n esz ky m hu hu' hx hy
    split at h
    · rename_i z bytes hti
      split at h
      · rename_i b hb
        split at h
        · rename_i hc0
          obtain ⟨hro, rfl, h00, rfl, rfl, hm0, hlim, hby⟩ := hc0
          cases h
          obtain ⟨i, z0, hi, hz, h1, h2, h3, h4, h5, h6⟩ := tinf_spec hti
          intro base w0 ρ w act K Q hR hv hk
          have hvx := hv x (by simp [ho, Op.operands, Call.operands])
          have hvy := hv y (by simp [ho, Op.operands, Call.operands])
          rw [hy, VV_int] at hvy
          obtain ⟨hspot, hg⟩ := rd_spec hb
          rw [hx, VV_slice] at hvx
          obtain ⟨cap', ex, q1, q2, q3, q4⟩ := VR_slice_live hb hvx.1
          obtain ⟨hbb, hoff, cur, hcur, hK, hh⟩ := hR.own _ b hg hro
          rw [hoff, h00, Nat.zero_add] at ex
          have hcap : cur.size = cap' := by have := q4 hro; omega
          obtain ⟨k, rfl⟩ : ∃ k : Nat, m = k := ⟨m.toNat, by omega⟩
          simp only [Int.toNat_natCast] at hlim hby hk ⊢
          have hzr := zeros_rep h3 k
          have hzp : plain z = true := h6 z (by simp)
          have hone : ∀ u ∈ (Builtin.zeroCells z0.cells k).toList, u.oneCell' = true := fun u hu => by
            rw [hzr, List.mem_replicate] at hu
            rw [hu.2]
            exact (VR_one (VR_plain (ρ := ρ) (g := g) hzp)).2
          have hnews : All2 (VR ρ g) (List.replicate k z) (List.replicate k z) := All2_rep (VR_plain hzp) k
          have hall : All2 (VR ρ g) b.cells (cur.toList.take b.cells.length) := by
            refine ⟨?_, fun j c hjc => ?_⟩
            · simp only [List.length_take, Array.length_toList]
              omega
            · obtain ⟨c', hc', hr⟩ := hh j c hjc
              refine ⟨c', ?_, hr⟩
              have hlt := (List.getElem?_eq_some_iff.1 hjc).1
              rw [List.getElem?_take, if_pos (by omega)]
              simpa using hc'
          have hsvb : ∀ c ∈ b.cells ++ List.replicate k z, SV1 s c := fun c hc => by
            rcases List.mem_append.1 hc with hc | hc
            · exact hR.wf _ b hg c hc
            · rw [List.mem_replicate] at hc
              rw [hc.2]; exact SV1_plain hzp
          have hex : ∀ {v : Value} {w' : World}, (Builtin.append_ #[T, T'] o.type #[act.eval x, act.eval y]).run P w = .ok v w' → (execOp act.eval o).run P w = .ok (.value v) w' := fun hr => exec_append ho hr
          have hb2 : bytes * k ≤ 140737488355328 := by
            rw [Nat.mul_comm]
            exact Nat.le_trans (Nat.mul_le_mul_right _ (by omega)) hby
          have close : ∀ {k1 cap1 : Nat} {cur1 : Array Value} {w' : World}, (Builtin.append_ #[T, T'] o.type #[act.eval x, act.eval y]).run P w = .ok (.slice (some ⟨k1, 0, none⟩) (b.cells.length + k) cap1) w' →
              w.grownBy w' (some (ρ a.block).blk) → (k1 = (ρ a.block).blk ∨ w.heap.size ≤ k1) → w'.heap[k1]? = some (.cells cur1 b.e (0, 0)) → b.cells.length + k ≤ cap1 → cap1 ≤ maxLen → cur1.size = cap1 →
              cur1.toList.take (b.cells.length + k) = cur.toList.take b.cells.length ++ List.replicate k z → o.wp P act w K Q := by
            intro k1 cap1 cur1 w' hr hgr hk1 hcur1 hn1 hm1 hs1 htake
            obtain ⟨r1, r2⟩ := hR.change (ri := ⟨k1, 0, cur1.size⟩) (cs := b.cells ++ List.replicate k z) hg hro hgr hk1 rfl hcur1 rfl (by simp) (fun e => by
              simp only [List.length_append, List.length_replicate] at e
              omega) (PreR.of_take (All2.append hall hnews) htake) hsvb
            refine wp_of_run (hex hr) (hk _ _ _ (r1.sn0 _) r2 ?_)
            rw [VV_slice]
            refine ⟨⟨_, _, rfl, hn1, hm1, fun h => (by cases h), fun ver b' hv' hb' => ?_⟩, .inr (.inl (hR.seen _ b hg))⟩
            simp only [Eff.ap, setAll, addAll, upd_self, Option.some.injEq] at hb' hv'
            subst hb' hv'
            refine ⟨by simp, fun _ => ⟨by simp, ?_, fun _ => by simp [hs1]⟩⟩
            simp
          rw [ex, hvy] at hex
          by_cases hroom : b.cells.length + k ≤ cap'
          · have hr := run_append_room_zeros (P := P) w T T' o.type b.e i z0 ky kt hu hu' hi hz h1 (ρ a.block).blk b.cells.length cap' cur hcur k (by omega) (by omega) (by rw [h2, Nat.mul_comm]; omega) hroom (by rw [hzr]; simp) (by omega) hone
            rw [← ex, ← hvy] at hr
            refine close hr ⟨rfl, rfl, rfl, by simp, fun q _ hq => setRow_other w _ q _ (fun e => hq (by simp [e]))⟩ (.inl rfl) (setRow_heap w _ cur _ b.e _ hcur) hroom q2 ?_ ?_
            · rw [hzr]
              simp only [List.size_toArray, List.length_append, List.length_take, List.length_drop, Array.length_toList, List.length_replicate]
              omega
            · rw [hzr]
              have hl : (cur.toList.take b.cells.length ++ List.replicate k z).length = b.cells.length + k := by
                simp only [List.length_append, List.length_take, Array.length_toList, List.length_replicate]; omega
              simp only
              rw [← hl]
              exact List.take_left
          · have hmod : ∀ j u, (cur.toList.take b.cells.length)[j]? = some u → w.cell? ((⟨(ρ a.block).blk, 0, none⟩ : Addr).add j) = some u := by
              intro j u hj
              have hadd : (⟨(ρ a.block).blk, 0, none⟩ : Addr).add j = ⟨(ρ a.block).blk, j, none⟩ := by unfold Addr.add; split <;> simp_all
              rw [hadd, cell_of_row w _ j cur b.e (0, 0) hcur]
              rw [List.getElem?_take] at hj
              split at hj
              · simpa using hj
              · cases hj
            have hlo : (cur.toList.take b.cells.length).length = b.cells.length * i.size := by rw [h1, Nat.mul_one, ← hall.1]
            have hold : (Builtin.firstCells 1 b.cells.length (.slice (some ⟨(ρ a.block).blk, 0, none⟩) b.cells.length cap')).run P w.drew = .ok (cur.toList.take b.cells.length).toArray w.drew :=
              run_firstCells_some (P := P) w.drew 1 b.cells.length _ _ _ (cur.toList.take b.cells.length) (by rw [← h1]; exact hlo) (fun j u hj => hmod j u hj)
            have hfit := growslice_fits (need := b.cells.length + k) (old := cap') (bytes := i.bytes) (by omega) (by rw [h2]; exact hby)
            have hr := grow_noughts (P := P) w T T' o.type b.e i z0 ky kt hu hu' hi hz h1 (some ⟨(ρ a.block).blk, 0, none⟩) b.cells.length cap' _ hold k (by omega) hroom (by omega) (by rw [h2, Nat.mul_comm]; omega) hfit
            have hge := grownCap_ge w (b.cells.length + k) cap' b.e
            have hcm : grownCap w (b.cells.length + k) cap' b.e ≤ maxLen := grownCap_le_maxLen w (b.cells.length + k) cap' b.e (by simp only [maxLen]; omega)
            rw [← ex, ← hvy] at hr
            refine close hr ⟨rfl, rfl, rfl, by simp, fun q hq _ => heap_alloc_old w.drew _ hq⟩ (.inr (Nat.le_refl _)) (heap_alloc_new w.drew _) hge hcm ?_ ?_
            · simp only [Array.size_append, List.size_toArray, size_zeroCells, h4, Nat.mul_one]
              rw [← hall.1]
              omega
            · simp only [Array.toList_append, List.append_assoc, hzr]
              rw [← List.append_assoc]
              have hl : (cur.toList.take b.cells.length ++ List.replicate k z).length = b.cells.length + k := by
                simp only [List.length_append, List.length_take, Array.length_toList, List.length_replicate]; omega
              rw [← hl]
              exact List.take_left
        · cases h
      · cases h
    · cases h
  · cases h
end

def stepCopy (P : Program) (T : TypeId) (x y : Value) (g : Heap) : Option Eff :=
  match P.underlying T, x with
  | some (.slice e), .slice (some a) n esz => if tsize P e = some 1 ∧ esz = 1 then match srcCells y g 1 with
      | some (m, cs) => if min m n = 0 then some { v := .int .i64 0, r := srcBlk y } else match rd g a with
        | some b => if b.ro = false then some { v := .int .i64 (min m n : Nat), r := a.block :: srcBlk y, w := [(a.block, ⟨false, b.e, putAll b.cells a.off (cs.take (min m n))⟩)] } else none
        | none => none
      | none => none
    else none
  | _, _ => none

theorem All2.take {R : Value → Value → Prop} {l l' : List Value} (h : All2 R l l') (n : Nat) : All2 R (l.take n) (l'.take n) := by
  refine ⟨by simp [h.1], fun i a hi => ?_⟩
  rw [List.getElem?_take] at hi
  split at hi
  · rename_i hlt
    obtain ⟨b, hb, hr⟩ := h.2 i a hi
    exact ⟨b, by rw [List.getElem?_take, if_pos hlt]; exact hb, hr⟩
  · cases hi

theorem sim_copy {T T' : TypeId} {x y : Operand} (ho : o.op = .call { callee := .builtin .copy, args := #[x, y], argTypes := #[T, T'] }) (h : stepCopy P T (ev x) (ev y) g = some f) : OpSim P o ev g s f := by
  unfold stepCopy at h
  split at h
  · rename_i e a n esz hu hx
    split at h
    · rename_i hc0
      obtain ⟨hts, rfl⟩ := hc0
      split at h
      · rename_i m cs hsrc
        intro base w0 ρ w act K Q hR hv hk
        have hvx := hv x (by simp [ho, Op.operands, Call.operands])
        have hvy := hv y (by simp [ho, Op.operands, Call.operands])
        have hsp := src_spec hR hvy hsrc
        have hex : ∀ {v : Value} {w' : World}, (Builtin.copy_ #[T, T'] o.type #[act.eval x, act.eval y]).run P w = .ok v w' → (execOp act.eval o).run P w = .ok (.value v) w' :=
          fun hr => exec_copy ho hr
        rw [hx, VV_slice] at hvx
        split at h
        · rename_i h0
          cases h
          obtain ⟨a', c', ex, _⟩ := VR_slice hvx.1
          refine wp_of_run (hex (v := goInt 0) (w' := w) ?_) (hk ρ w _ (hR.sn0 _) (Mono.refl _ _ _) (VV_plain rfl))
          rcases hsp with ⟨e', hm, _⟩ | ⟨ad, c, cs', e', _⟩
          · rw [ex, e']; exact run_copy_none w T T' o.type e _ _ _ _ _ _ hu hts (by simp)
          · rw [ex, e']; exact run_copy_none w T T' o.type e _ _ _ _ _ _ hu hts h0
        · rename_i h0
          split at h
          · rename_i b hb
            split at h
            · rename_i hro
              cases h
              obtain ⟨hspot, hg⟩ := rd_spec hb
              obtain ⟨cap', ex, q1, q2, q3, q4⟩ := VR_slice_live hb hvx.1
              obtain ⟨hbb, hoff, cur, hcur, hK, hh⟩ := hR.own _ b hg hro
              rw [hoff, Nat.zero_add] at ex
              rcases hsp with ⟨_, hm, _⟩ | ⟨ad, c, cs', e', hl, hc, ha, hsv⟩
              · exact absurd (by simp [hm]) h0
              · have hsz : cur.size ≥ b.cells.length := PreR.len hh
                have hl' : (cs'.take (min m n)).length = min m n := by simp; omega
                have hrun := run_copy_cells (P := P) w T T' o.type e (ρ a.block).blk a.off n cap' ad m c (cs'.take (min m n)) hu hts hl'
                  (fun j v hj => hc j v (by rw [List.getElem?_take] at hj; split at hj; exact hj; cases hj))
                  (fun j hj => by rw [cell_of_row w _ _ cur _ _ hcur]; simp; omega) (fun j hj => frozen_of_row w _ _ cur _ hcur)
                  (fun v hv => All2_oneCell ha v (List.mem_of_mem_take hv))
                obtain ⟨p1, p2⟩ := heap_setCells (ρ a.block).blk b.e (cs'.take (min m n)) a.off w cur hcur
                have hct := ha.take (min m n)
                obtain ⟨r1, r2⟩ := hR.change (ri := ρ a.block) (cs := putAll b.cells a.off (cs.take (min m n))) hg hro p2 (.inl rfl) hoff p1 (by rw [size_arrPut, hK]) (by simp) (fun _ => rfl)
                  (PreR.put hh hct (by rw [hct.1, hl']; omega)) (fun c hc => by
                    rcases mem_putAll hc with hc | hc
                    · exact hR.wf _ b hg c hc
                    · exact hsv c (List.mem_of_mem_take hc))
                refine wp_of_run (hex (by rw [ex, e']; exact hrun)) (hk (upd ρ a.block (ρ a.block)) _ _ (r1.sn0 _) r2 ?_)
                rw [hl']
                exact VV_plain rfl
            · cases h
          · cases h
      · cases h
    · cases h
  · cases h

end

/-- A call of a function that is built in. -/
def stepCall (P : Program) (c : Call) (ev : Operand → Value) (g : Heap) (j : Nat) : Option Eff :=
  match c.callee with
  | .builtin b => match b, c.args.toList, c.argTypes.toList with
    | .len, [x], [T] => stepLen P T (ev x)
    | .min, [x, y], [_, _] => stepMin (ev x) (ev y)
    | .max, [x, y], [_, _] => stepMax (ev x) (ev y)
    | .append, [x, y], [T, T'] => if T = T' then stepAppend P T T' (ev x) (ev y) g j else stepZeros P T T' (ev x) (ev y) g
    | .copy, [x, y], [T, _] => stepCopy P T (ev x) (ev y) g
    | _, _, _ => none
  | _ => none

/-- One cell's value. -/
def oneV : Value → Bool
  | .bool _ | .int _ _ | .string _ | .pointer _ | .slice _ _ _ => true
  | _ => false
/-- A function that holds values. -/
def stepClo (fn : Fn) (first : List Operand) (cap : List Value) : Option Eff :=
  match fn, first with
  | .func k, [] => if cap.all oneV then some { v := .iface k (.agg cap.toArray) } else none
  | _, _ => none

theorem sim_clo {P : Program} {o : Oper} {ev : Operand → Value} {g : Heap} {s : Nat → Prop} {f : Eff} {fn : Fn} {first cap : Array Operand} (ho : o.op = .makeFunc fn first cap) (h : stepClo fn first.toList (cap.toList.map ev) = some f) : OpSim P o ev g s f := by
  unfold stepClo at h
  split at h
  · rename_i k hf
    split at h
    · rename_i hall
      cases h
      have hfe : first = #[] := Array.toList_inj.1 hf
      subst hfe
      refine sim_pure [] _ ?_
      intro base w0 ρ w a hR hv
      have hcap : ∀ x ∈ cap, VV ρ g s (ev x) (a.eval x) := fun x hx => hv x (by simp [ho, Op.operands, hx])
      have hone : ∀ x ∈ cap, oneV (ev x) = true := fun x hx => List.all_eq_true.1 hall _ (List.mem_map.2 ⟨x, by simpa using hx, rfl⟩)
      have hcell : ∀ x ∈ cap, VR ρ g (ev x) (a.eval x) ∧ SV1 s (ev x) := fun x hx => by
        have h1 := hcap x hx
        have h2 := hone x hx
        cases he : ev x with
        | bool b => rw [he] at h1; exact h1
        | int k n => rw [he] at h1; exact h1
        | string b => rw [he] at h1; exact h1
        | pointer p => rw [he] at h1; exact h1
        | slice p l c => rw [he] at h1; exact h1
        | _ => rw [he] at h2; simp [oneV] at h2
      refine ⟨.func (.func k) #[] (cap.map a.eval), ?_, VV_clo.2 ⟨⟨_, rfl, by simp, fun i v hi => ?_⟩, fun c hc => ?_⟩⟩
      · unfold execOp
        simp only [ho, Instr.makeFunc, Sem.run_bind, Sem.run_pure, Result.andThen_ok]
        simp
      · simp only [List.getElem?_toArray, List.getElem?_map, Option.map_eq_some_iff] at hi
        obtain ⟨x, hx, rfl⟩ := hi
        have hm : x ∈ cap := by simpa using List.mem_of_getElem? hx
        exact ⟨a.eval x, by simp only [Array.toList_map, List.getElem?_map, hx, Option.map_some], (hcell x hm).1⟩
      · simp only [List.mem_map] at hc
        obtain ⟨x, hx, rfl⟩ := hc
        exact (hcell x (by simpa using hx)).2
    · cases h
  · cases h

/-- What an operation does that calls no function. j: the number of a new block. -/
def astep (P : Program) (o : Op) (ev : Operand → Value) (g : Heap) (j : Nat) : Option Eff :=
  match o with
  | .move x => some { v := ev x }
  | .assign x => some { v := ev x }
  | .pick c x y => stepPick (ev c) (ev x) (ev y)
  | .load T x => stepLoad P T (ev x) g
  | .store T x y => stepStore P T (ev x) (ev y) g
  | .nilCheck x => stepNilCheck (ev x)
  | .fieldAddr S x n => stepField P S (ev x) n
  | .indexAddr T x i => stepIndex P T (ev x) (ev i)
  | .index T x i => stepIdx P T (ev x) (ev i)
  | .slice T x lo hi mx => match mx with
    | none => stepSlice P T (ev x) (lo.map ev) (hi.map ev)
    | some _ => none
  | .binOp op T x y _ => stepBin P op T (ev x) (ev y)
  | .unOp op _ x => stepUn op (ev x)
  | .extract x i => stepExtract (ev x) i
  | .convert S D x => stepConv P S D (ev x) g
  | .box T x => stepBox T (ev x) j
  | .alloc T => stepAlloc P T j
  | .build T ps => stepBuild P T (ps.toList.map fun p => (p.1, ev p.2))
  | .buildSlice T n ps => stepBuildSlice P T n (ps.toList.map fun p => (p.1, ev p.2)) j
  | .makeSlice T l c => stepMake P T (ev l) (ev c) j
  | .makeFunc fn first cap => stepClo fn first.toList (cap.toList.map ev)
  | .call c => stepCall P c ev g j
  | _ => none

theorem sim_call {P : Program} {o : Oper} {ev : Operand → Value} {g : Heap} {s : Nat → Prop} {f : Eff} {j : Nat} {c : Call} (ho : o.op = .call c) (h : stepCall P c ev g j = some f) (hj : f.a ≠ [] → ¬ s j) : OpSim P o ev g s f := by
  obtain ⟨callee, args, argTypes⟩ := c
  unfold stepCall at h
  split at h
  · rename_i b hb
    simp only at hb h
    subst hb
    split at h
    · rename_i x T ha ht
      obtain rfl := Array.toList_inj.1 (ha : args.toList = #[x].toList)
      obtain rfl := Array.toList_inj.1 (ht : argTypes.toList = #[T].toList)
      exact sim_len ho h
    · rename_i x y T T' ha ht
      obtain rfl := Array.toList_inj.1 (ha : args.toList = #[x, y].toList)
      obtain rfl := Array.toList_inj.1 (ht : argTypes.toList = #[T, T'].toList)
      exact sim_min ho h
    · rename_i x y T T' ha ht
      obtain rfl := Array.toList_inj.1 (ha : args.toList = #[x, y].toList)
      obtain rfl := Array.toList_inj.1 (ht : argTypes.toList = #[T, T'].toList)
      exact sim_max ho h
    · rename_i x y T T' ha ht
      obtain rfl := Array.toList_inj.1 (ha : args.toList = #[x, y].toList)
      obtain rfl := Array.toList_inj.1 (ht : argTypes.toList = #[T, T'].toList)
      split at h
      · exact sim_append ho h hj
      · exact sim_zeros ho h
    · rename_i x y T T' ha ht
      obtain rfl := Array.toList_inj.1 (ha : args.toList = #[x, y].toList)
      obtain rfl := Array.toList_inj.1 (ht : argTypes.toList = #[T, T'].toList)
      exact sim_copy ho h
    · cases h
  · cases h

theorem sim_step {P : Program} {o : Oper} {ev : Operand → Value} {g : Heap} {s : Nat → Prop} {f : Eff} {j : Nat} (h : astep P o.op ev g j = some f) (hj : f.a ≠ [] → ¬ s j) : OpSim P o ev g s f := by
  cases ho : o.op <;> rw [ho] at h <;> simp only [astep, reduceCtorEq] at h
  case move => cases h; exact sim_move (.inl ho)
  case assign => cases h; exact sim_move (.inr ho)
  case pick => exact sim_pick ho h
  case load => exact sim_load ho h
  case store => exact sim_store ho h
  case nilCheck => exact sim_nilCheck ho h
  case fieldAddr => exact sim_field ho h
  case indexAddr => exact sim_index ho h
  case index => exact sim_idx ho h
  case slice T x lo hi mx =>
    cases mx with
    | none => exact sim_slice ho h
    | some m => cases h
  case binOp => exact sim_bin ho h
  case unOp => exact sim_un ho h
  case extract => exact sim_extract ho h
  case convert => exact sim_conv ho h
  case box => exact sim_box ho h hj
  case alloc => exact sim_alloc ho h hj
  case build => exact sim_build ho h
  case buildSlice => exact sim_buildSlice ho h hj
  case makeSlice => exact sim_make ho h hj
  case makeFunc => exact sim_clo ho h
  case call => exact sim_call ho h hj

end Go.Proofs.Ytdpkhijbikbhnaa.Abs

/-
  The abstract machine, part 6: what an operation looks at; calls; code; a function's contract out of its body.
-/
namespace Go.Proofs.Ytdpkhijbikbhnaa.Abs
open Go Go.RowKit

-- An operation's effect hangs on the blocks that it names alone.
theorem rd_congr {g g' : Heap} {a : Addr} (h : g' a.block = g a.block) : rd g' a = rd g a := by
  unfold rd
  rw [h]

theorem srcCells_congr {g g' : Heap} {y : Value} {esz : Nat} (h : ∀ i ∈ srcBlk y, g' i = g i) : srcCells y g' esz = srcCells y g esz := by
  unfold srcCells
  split
  · rfl
  · rename_i a m e
    split
    · rfl
    · rename_i hm
      rw [rd_congr (h a.block (by simp [srcBlk, hm]))]
  · rfl

section
variable {P : Program} {g g' : Heap} {f : Eff} {j : Nat}

theorem load_local {T : TypeId} {x : Value} (h : stepLoad P T x g = some f) (hg : ∀ i ∈ f.fp, g' i = g i) : stepLoad P T x g' = some f := by
  unfold stepLoad at h ⊢
  split at h
  · rename_i a
    have key : f.r = [a.block] := by
      split at h
      · split at h
        · split at h
          · split at h
            · cases h; rfl
            · cases h
          · cases h
        · split at h
          · cases h; rfl
          · cases h
        · cases h
      · cases h
    have hr : rd g' a = rd g a := rd_congr (hg _ (by simp [Eff.fp, key]))
    simp only [hr]
    exact h
  · cases h

theorem store_local {T : TypeId} {x y : Value} (h : stepStore P T x y g = some f) (hg : ∀ i ∈ f.fp, g' i = g i) : stepStore P T x y g' = some f := by
  unfold stepStore at h ⊢
  split at h
  · rename_i a
    have key : f.r = [a.block] := by
      split at h
      · split at h
        · cases h; rfl
        · cases h
      · cases h
    have hr : rd g' a = rd g a := rd_congr (hg _ (by simp [Eff.fp, key]))
    simp only [hr]
    exact h
  · cases h

theorem conv_local {S D : TypeId} {x : Value} (h : stepConv P S D x g = some f) (hg : ∀ i ∈ f.fp, g' i = g i) : stepConv P S D x g' = some f := by
  unfold stepConv at h ⊢
  split at h
  · exact h
  · exact h
  · split at h
    · split at h
      · exact h
      · rename_i a
        split at h
        · rename_i h0
          simp only [h0, if_true]
          exact h
        · rename_i h0
          have key : f.r = [a.block] := by
            split at h
            · split at h
              · split at h
                · cases h; rfl
                · cases h
              · cases h
            · cases h
          have hr : rd g' a = rd g a := rd_congr (hg _ (by simp [Eff.fp, key]))
          simp only [h0, if_false, hr]
          exact h
    · cases h
  · rename_i a _ _ _ _
    split at h
    · have key : f.r = [a.block] := by
        split at h
        · split at h
          · cases h; rfl
          · cases h
        · cases h
      have hr : rd g' a = rd g a := rd_congr (hg _ (by simp [Eff.fp, key]))
      simp only [hr]
      exact h
    · cases h
  · cases h

theorem append_local {T T' : TypeId} {x y : Value} (h : stepAppend P T T' x y g j = some f) (hg : ∀ i ∈ f.fp, g' i = g i) : stepAppend P T T' x y g' j = some f := by
  unfold stepAppend at h ⊢
  split at h
  · rename_i hT
    rw [if_pos hT]
    split at h
    · split at h
      · rename_i zs esz bytes hti
        split at h
        · rename_i m news hsrc
          have hm0 : m = 0 → srcBlk y = [] := by
            intro h0
            unfold srcCells at hsrc
            split at hsrc
            · rfl
            · split at hsrc
              · rename_i hm; simp [srcBlk, hm]
              · rename_i hm
                split at hsrc
                · split at hsrc
                  · cases hsrc; exact absurd h0 hm
                  · cases hsrc
                · cases hsrc
            · cases hsrc
          split at h
          · split at h
            · rename_i hm
              rw [srcCells_congr (g := g) (by rw [hm0 hm]; simp), hsrc]
              simp only [hm, if_true] at h ⊢
              exact h
            · rename_i hm
              split at h
              · rename_i hc
                cases h
                rw [srcCells_congr (g := g) (fun i hi => hg i (by simp [Eff.fp, hi])), hsrc]
                simp only [hm, if_false, hc, and_self, if_true]
              · cases h
          · rename_i a n esz'
            split at h
            · rename_i b hb
              split at h
              · rename_i hc
                cases h
                rw [srcCells_congr (g := g) (fun i hi => hg i (by simp [Eff.fp, hi])), hsrc]
                have hr : rd g' a = rd g a := rd_congr (hg _ (by simp [Eff.fp]))
                simp only [hr, hb]
                rw [if_pos hc]
              · cases h
            · cases h
          · cases h
        · cases h
      · cases h
    · cases h
  · cases h

theorem copy_local {T : TypeId} {x y : Value} (h : stepCopy P T x y g = some f) (hg : ∀ i ∈ f.fp, g' i = g i) : stepCopy P T x y g' = some f := by
  unfold stepCopy at h ⊢
  split at h
  · rename_i e a n esz hu
    split at h
    · rename_i hc
      rw [if_pos hc]
      split at h
      · rename_i m cs hsrc
        split at h
        · rename_i h0
          cases h
          rw [srcCells_congr (g := g) (fun i hi => hg i (by simp [Eff.fp, hi])), hsrc]
          simp only [h0, if_true]
        · rename_i h0
          split at h
          · rename_i b hb
            split at h
            · rename_i hro
              cases h
              rw [srcCells_congr (g := g) (fun i hi => hg i (by simp [Eff.fp, hi])), hsrc]
              have hr : rd g' a = rd g a := rd_congr (hg _ (by simp [Eff.fp]))
              simp only [h0, if_false, hr, hb, hro, if_true]
            · cases h
          · cases h
      · cases h
    · cases h
  · cases h

theorem zeros_local {T T' : TypeId} {x y : Value} (h : stepZeros P T T' x y g = some f) (hg : ∀ i ∈ f.fp, g' i = g i) : stepZeros P T T' x y g' = some f := by
  unfold stepZeros at h ⊢
  split at h
  · rename_i e kt a n esz ky m hu hu'
    split at h
    · split at h
      · rename_i b hb
        split at h
        · rename_i hc
          cases h
          have hr : rd g' a = rd g a := rd_congr (hg _ (by simp [Eff.fp]))
          simp only [hr, hb]
          rw [if_pos hc]
        · cases h
      · cases h
    · cases h
  · cases h

theorem call_local {c : Call} {ev : Operand → Value} (h : stepCall P c ev g j = some f) (hg : ∀ i ∈ f.fp, g' i = g i) : stepCall P c ev g' j = some f := by
  unfold stepCall at h ⊢
  split at h
  · split at h
    · exact h
    · exact h
    · exact h
    · split at h
      · rename_i hT; rw [if_pos hT]; exact append_local h hg
      · rename_i hT; rw [if_neg hT]; exact zeros_local h hg
    · exact copy_local h hg
    · cases h
  · cases h

theorem step_local {o : Op} {ev : Operand → Value} (h : astep P o ev g j = some f) (hg : ∀ i ∈ f.fp, g' i = g i) : astep P o ev g' j = some f := by
  cases o <;> simp only [astep, reduceCtorEq] at h ⊢
  case load => exact load_local h hg
  case store => exact store_local h hg
  case convert => exact conv_local h hg
  case call => exact call_local h hg
  all_goals exact h

theorem step_j {o : Op} {ev : Operand → Value} (h : astep P o ev g j = some f) (ha : f.a ≠ []) : f.j = j := by
  cases o <;> simp only [astep, reduceCtorEq] at h
  case move => cases h; exact absurd rfl ha
  case assign => cases h; exact absurd rfl ha
  case pick => unfold stepPick at h; split at h <;> cases h; exact absurd rfl ha
  case load =>
    unfold stepLoad at h
    split at h <;> try (cases h; done)
    split at h <;> try (cases h; done)
    split at h <;> try (cases h; done)
    · split at h <;> try (cases h; done)
      split at h <;> cases h
      exact absurd rfl ha
    · split at h <;> cases h
      exact absurd rfl ha
  case store =>
    unfold stepStore at h
    split at h <;> try (cases h; done)
    split at h <;> try (cases h; done)
    split at h <;> cases h
    exact absurd rfl ha
  case nilCheck => unfold stepNilCheck at h; split at h <;> cases h; exact absurd rfl ha
  case fieldAddr => unfold stepField at h; split at h <;> cases h; exact absurd rfl ha
  case indexAddr =>
    unfold stepIndex at h
    split at h <;> try (cases h; done)
    split at h <;> try (cases h; done)
    · split at h <;> try (cases h; done)
      split at h <;> cases h
      exact absurd rfl ha
    · split at h <;> try (cases h; done)
      split at h <;> cases h
      exact absurd rfl ha
  case index =>
    unfold stepIdx at h
    split at h <;> try (cases h; done)
    · split at h <;> cases h
      exact absurd rfl ha
    · split at h <;> cases h
      exact absurd rfl ha
  case slice T x lo hi mx =>
    cases mx with
    | some m => cases h
    | none =>
      simp only at h
      unfold stepSlice at h
      split at h <;> try (cases h; done)
      split at h <;> try (cases h; done)
      split at h <;> try (cases h; done)
      split at h
      · split at h <;> cases h
        exact absurd rfl ha
      · split at h <;> cases h
        exact absurd rfl ha
  case binOp => unfold stepBin at h; split at h <;> cases h; exact absurd rfl ha
  case unOp => unfold stepUn at h; split at h <;> cases h <;> exact absurd rfl ha
  case makeFunc =>
    unfold stepClo at h
    split at h <;> try (cases h; done)
    split at h <;> cases h
    exact absurd rfl ha
  case extract =>
    unfold stepExtract at h
    split at h <;> try (cases h; done)
    split at h <;> cases h
    exact absurd rfl ha
  case convert =>
    have key : f.a = [] := by
      unfold stepConv at h
      split at h
      · cases h; rfl
      · cases h; rfl
      · split at h
        · split at h
          · cases h; rfl
          · split at h
            · cases h; rfl
            · split at h
              · split at h
                · split at h <;> cases h; rfl
                · cases h
              · cases h
        · cases h
      · split at h
        · split at h
          · split at h <;> cases h; rfl
          · cases h
        · cases h
      · cases h
    exact absurd key ha
  case box => unfold stepBox at h; split at h <;> cases h; rfl
  case alloc => unfold stepAlloc at h; split at h <;> cases h; rfl
  case build =>
    unfold stepBuild at h
    split at h
    · split at h <;> cases h
      exact absurd rfl ha
    · split at h <;> try (cases h; done)
      split at h <;> cases h
      exact absurd rfl ha
  case buildSlice =>
    unfold stepBuildSlice at h
    split at h <;> try (cases h; done)
    split at h <;> try (cases h; done)
    split at h <;> try (cases h; done)
    split at h <;> cases h
    rfl
  case makeSlice =>
    unfold stepMake at h
    split at h <;> try (cases h; done)
    split at h <;> try (cases h; done)
    split at h <;> cases h
    rfl
  case call =>
    unfold stepCall at h
    split at h <;> try (cases h; done)
    split at h
    · unfold stepLen at h; split at h <;> cases h <;> exact absurd rfl ha
    · unfold stepMin at h; split at h <;> cases h; exact absurd rfl ha
    · unfold stepMax at h; split at h <;> cases h; exact absurd rfl ha
    · split at h
      · unfold stepAppend at h
        split at h <;> try (first | contradiction | (cases h; done))
        split at h <;> try (cases h; done)
        split at h <;> try (cases h; done)
        split at h <;> try (cases h; done)
        split at h
        · split at h
          · cases h; exact absurd rfl ha
          · split at h <;> cases h; rfl
        · split at h <;> try (cases h; done)
          split at h <;> cases h
          exact absurd rfl ha
        · cases h
      · unfold stepZeros at h
        split at h <;> try (cases h; done)
        split at h <;> try (cases h; done)
        split at h <;> try (cases h; done)
        split at h <;> cases h
        exact absurd rfl ha
    · unfold stepCopy at h
      split at h <;> try (cases h; done)
      split at h <;> try (cases h; done)
      split at h <;> try (cases h; done)
      split at h
      · cases h; exact absurd rfl ha
      · split at h <;> try (cases h; done)
        split at h <;> cases h
        exact absurd rfl ha
    · cases h

theorem step_ev {o : Op} {ev ev' : Operand → Value} (he : ∀ x ∈ o.operands, ev' x = ev x) : astep P o ev' g j = astep P o ev g j := by
  have pairs : ∀ ps : Array (Nat × Operand), (∀ x ∈ (ps.toList.map (·.2)).toArray, ev' x = ev x) → (ps.toList.map fun p => (p.1, ev' p.2)) = ps.toList.map fun p => (p.1, ev p.2) := fun ps hp =>
    List.map_congr_left fun p hm => by rw [hp p.2 (by simp only [List.mem_toArray, List.mem_map]; exact ⟨p, hm, rfl⟩)]
  cases o <;> simp only [astep]
  case slice T x lo hi mx =>
    cases mx with
    | some m => rfl
    | none =>
      simp only [Op.operands] at he
      have h1 : lo.map ev' = lo.map ev := by cases lo with
        | none => rfl
        | some l => simp [he l (by simp)]
      have h2 : hi.map ev' = hi.map ev := by cases hi with
        | none => rfl
        | some l => simp [he l (by simp)]
      simp only [h1, h2, he x (by simp)]
  case makeFunc fn first cap =>
    have : cap.toList.map ev' = cap.toList.map ev := List.map_congr_left fun x hx => he x (by simp only [Op.operands, Array.mem_append]; exact .inr (by simpa using hx))
    rw [this]
  case build T ps => rw [pairs ps (by simpa [Op.operands] using he)]
  case buildSlice T n ps => rw [pairs ps (by simpa [Op.operands] using he)]
  case call c =>
    obtain ⟨callee, args, argTypes⟩ := c
    unfold stepCall
    cases callee with
    | builtin b =>
      simp only [Op.operands, Call.operands] at he
      simp only
      rcases ha : args.toList with _ | ⟨x, _ | ⟨y, _ | ⟨z, l⟩⟩⟩
      · cases b <;> rfl
      · have hx := he x (by have : x ∈ args.toList := by simp [ha]
                            simpa using this)
        cases b <;> first | rfl | simp only [hx] | (split <;> simp_all)
      · have hx := he x (by have : x ∈ args.toList := by simp [ha]
                            simpa using this)
        have hy := he y (by have : y ∈ args.toList := by simp [ha]
                            simpa using this)
        cases b <;> first | rfl | simp only [hx, hy] | simp only [hx] | (split <;> simp_all)
      · cases b <;> rfl
    | _ => rfl
  all_goals first | rfl | (simp [Op.operands] at he; simp only [he])
end

end Go.Proofs.Ytdpkhijbikbhnaa.Abs

/-
  The abstract machine, part 7: contracts of functions, single steps, the state of a frame.
-/
namespace Go.Proofs.Ytdpkhijbikbhnaa.Abs
open Go Go.RowKit

/-- What a call of function k does. -/
def CallSim (P : Program) (k : FuncId) (args : List Value) (g : Heap) (s : Nat → Prop) (f : Eff) : Prop :=
  ∀ (base : Nat) (w0 : World) (ρ : Ren) (w : World) (args' : Array Value) (o : Oper) (a : Act) (K : Act → World → Prop) (Q : Exit → Act → World → Prop), HR base w0 ρ g s w →
    All2 (VV ρ g s) args args'.toList →
    (∀ ρ' w' v', HR base w0 ρ' (f.ap g) (f.sn s) w' → Mono ρ g s ρ' (f.ap g) → VV ρ' (f.ap g) (f.sn s) f.v v' → K (a.put o.dst v') w') →
    o.upon P a K Q ((callFunc k args').run P w)

def Fresh (f : Eff) (s : Nat → Prop) : Prop := ∀ i, f.j ≤ i → i < f.j + f.a.length → ¬ s i

/-- A contract: it hangs on the blocks that its effect names alone. -/
def FnSpec (P : Program) (k : FuncId) (args : List Value) (g : Heap) (f : Eff) : Prop :=
  ∀ (g2 : Heap) (s2 : Nat → Prop), (∀ i ∈ f.fp, g2 i = g i) → Fresh f s2 → CallSim P k args g2 s2 f

/-- One operation. -/
def Stp (P : Program) (o : Op) (ev : Operand → Value) (g : Heap) (j : Nat) (f : Eff) : Prop :=
  astep P o ev g j = some f ∨ (∃ c fo k, o = .call c ∧ c.callee = .value fo ∧ ev fo = .func (.func k) #[] #[] ∧ (f.a ≠ [] → f.j = j) ∧ FnSpec P k (c.args.toList.map ev) g f) ∨
    ∃ c fo k cs, o = .call c ∧ c.callee = .value fo ∧ ev fo = .iface k (.agg cs) ∧ (f.a ≠ [] → f.j = j) ∧ FnSpec P k (c.args.toList.map ev ++ cs.toList) g f

theorem Stp.j {P : Program} {o : Op} {ev : Operand → Value} {g : Heap} {j : Nat} {f : Eff} (h : Stp P o ev g j f) (ha : f.a ≠ []) : f.j = j := by
  rcases h with h | ⟨c, fo, k, _, _, _, hj, _⟩ | ⟨c, fo, k, cs, _, _, _, hj, _⟩
  · exact step_j h ha
  · exact hj ha
  · exact hj ha

theorem callFunc_app {P : Program} (k : FuncId) (args : Array Value) : (#[] : Array Value) ++ args ++ (#[] : Array Value) = args := by simp

theorem Stp.sim {P : Program} {o : Oper} {ev ev' : Operand → Value} {g g' : Heap} {s' : Nat → Prop} {j : Nat} {f : Eff} (h : Stp P o.op ev g j f) (he : ∀ x ∈ o.op.operands, ev' x = ev x)
    (hg : ∀ i ∈ f.fp, g' i = g i) (hs : Fresh f s') : OpSim P o ev' g' s' f := by
  rcases h with h | ⟨c, fo, k, ho, hc, hf, _, hspec⟩ | ⟨c, fo, k, cs, ho, hc, hf, _, hspec⟩
  · have h1 := step_local h hg
    rw [← step_ev he] at h1
    refine sim_step h1 fun ha => ?_
    have := step_j h ha
    subst this
    refine hs _ (Nat.le_refl _) ?_
    have : 0 < f.a.length := List.length_pos_iff.2 ha
    omega
  · intro base w0 ρ w a K Q hR hv hk
    obtain ⟨callee, args, argTypes⟩ := c
    simp only at hc
    subst hc
    simp only [ho, Op.operands, Call.operands] at he hv
    have hfo := hv fo (by simp)
    rw [he fo (by simp), hf, VV_func] at hfo
    unfold Oper.wp
    have hex : (execOp a.eval o).run P w = (callFunc k (args.map a.eval)).run P w := by
      unfold execOp
      simp only [ho, resolve, hfo, Deferred.ofValue, invoke, Sem.run_bind, Sem.run_pure, Result.andThen_ok]
      simp
    rw [hex]
    refine hspec g' s' hg hs base w0 ρ w (args.map a.eval) o a K Q hR ⟨by simp, fun i v hi => ?_⟩ hk
    simp only [List.getElem?_map, Option.map_eq_some_iff] at hi
    obtain ⟨x, hx, rfl⟩ := hi
    have hm : x ∈ args := by simpa using List.mem_of_getElem? hx
    refine ⟨a.eval x, by simp only [Array.toList_map, List.getElem?_map, hx, Option.map_some], ?_⟩
    have h2 := hv x (by simp [hm])
    rw [he x (by simp [hm])] at h2
    exact h2
  · intro base w0 ρ w a K Q hR hv hk
    obtain ⟨callee, args, argTypes⟩ := c
    simp only at hc
    subst hc
    simp only [ho, Op.operands, Call.operands] at he hv
    have hfo := hv fo (by simp)
    rw [he fo (by simp), hf, VV_clo] at hfo
    obtain ⟨⟨cs', hfo, hcs⟩, hsv⟩ := hfo
    unfold Oper.wp
    have hex : (execOp a.eval o).run P w = (callFunc k (args.map a.eval ++ cs')).run P w := by
      unfold execOp
      simp only [ho, resolve, hfo, Deferred.ofValue, invoke, Sem.run_bind, Sem.run_pure, Result.andThen_ok]
      simp
    rw [hex]
    refine hspec g' s' hg hs base w0 ρ w (args.map a.eval ++ cs') o a K Q hR ?_ hk
    rw [Array.toList_append]
    refine All2.app ⟨by simp, fun i v hi => ?_⟩ (hcs.imp fun c hc v hv => ⟨VR_VT hv, SV1_SVT hv (hsv c hc)⟩)
    simp only [List.getElem?_map, Option.map_eq_some_iff] at hi
    obtain ⟨x, hx, rfl⟩ := hi
    have hm : x ∈ args := by simpa using List.mem_of_getElem? hx
    refine ⟨a.eval x, by simp only [Array.toList_map, List.getElem?_map, hx, Option.map_some], ?_⟩
    have h2 := hv x (by simp [hm])
    rw [he x (by simp [hm])] at h2
    exact h2

-- the state of a frame
def evl (t : Nat → Value) : Operand → Value
  | .tmp i => t i
  | .const v => v
  | .func f => .func (.func f) #[] #[]
  | .global _ => undef

def okv : Value → Bool
  | .agg cs => cs.toList.all plain
  | .tuple vs => vs.isEmpty
  | v => plain v

def okOperand : Operand → Bool
  | .tmp _ => true
  | .const v => okv v
  | .func _ => true
  | .global _ => false

theorem VV_okv {ρ : Ren} {g : Heap} {s : Nat → Prop} {v : Value} (h : okv v = true) : VV ρ g s v v := by
  cases v with
  | agg cs =>
    have h' : ∀ c ∈ cs.toList, plain c = true := fun c hc => List.all_eq_true.1 h c hc
    exact ⟨⟨cs, rfl, All2_plain h'⟩, fun c hc => SV1_plain (h' c hc)⟩
  | tuple vs =>
    have : vs = #[] := by simpa [okv] using h
    subst this
    exact VV_undef
  | _ => exact VV_plain h

def put (t : Nat → Value) (dst : Option Tmp) (v : Value) : Nat → Value :=
  match dst with
  | some d => upd t d v
  | none => t

structure TR (ds : List Deferred) (N : Nat) (ρ : Ren) (g : Heap) (s : Nat → Prop) (t : Nat → Value) (a : Act) : Prop where
  defers : a.defers = ds
  size : a.tmps.size = N
  val : ∀ i, VV ρ g s (t i) (a.tmps.getD i undef)

theorem TR.eval {ds : List Deferred} {N : Nat} {ρ : Ren} {g : Heap} {s : Nat → Prop} {t : Nat → Value} {a : Act} (h : TR ds N ρ g s t a) {x : Operand} (hx : okOperand x = true) : VV ρ g s (evl t x) (a.eval x) := by
  cases x with
  | tmp i => exact h.val i
  | const v => exact VV_okv hx
  | func f => exact VV_func.2 rfl
  | global g => simp [okOperand] at hx

theorem VV.mono {ρ ρ' : Ren} {g g' : Heap} {s s' : Nat → Prop} {v v' : Value} (hm : Mono ρ g s ρ' g') (hs : ∀ i, s i → s' i) (h : VV ρ g s v v') : VV ρ' g' s' v v' :=
  ⟨VT.mono hm h.2 h.1, SVT.imp hs h.2⟩

theorem TR.mono {ds : List Deferred} {N : Nat} {ρ ρ' : Ren} {g g' : Heap} {s s' : Nat → Prop} {t : Nat → Value} {a : Act} (h : TR ds N ρ g s t a) (hm : Mono ρ g s ρ' g') (hs : ∀ i, s i → s' i) : TR ds N ρ' g' s' t a :=
  ⟨h.defers, h.size, fun i => (h.val i).mono hm hs⟩

def okDst (N : Nat) (dst : Option Tmp) : Bool :=
  match dst with
  | some d => decide (d < N)
  | none => true

theorem TR.put {ds : List Deferred} {N : Nat} {ρ : Ren} {g : Heap} {s : Nat → Prop} {t : Nat → Value} {a : Act} (h : TR ds N ρ g s t a) {dst : Option Tmp} (hd : okDst N dst = true) {v v' : Value} (hv : VV ρ g s v v') :
    TR ds N ρ g s (put t dst v) (a.put dst v') := by
  cases dst with
  | none => exact h
  | some d =>
    have hd' : d < N := by simpa [okDst] using hd
    refine ⟨h.defers, by simp [Act.put, h.size], fun i => ?_⟩
    by_cases e : i = d
    · subst e
      have : ((a.put (some i) v').tmps).getD i undef = v' := by simp [Act.put, h.size, hd']
      rw [this]
      simpa [Abs.put] using hv
    · have : ((a.put (some d) v').tmps).getD i undef = a.tmps.getD i undef := by simp [Act.put, Array.getElem?_setIfInBounds_ne (Ne.symm e)]
      rw [this]
      simpa [Abs.put, upd_ne _ _ e] using h.val i

/-- Whether an operation is wanted: its guard is a bool by then. -/
def awant (ops : Array Oper) (o : Oper) (t : Nat → Value) : Option Bool :=
  match o.guard with
  | none => some true
  | some (j, want) => match (ops[j]?).bind (·.dst) with
    | some d => match t d with
      | .bool b => some (b == want)
      | .tuple _ => some false
      | _ => none
    | none => none

theorem awant_spec {ds : List Deferred} {N : Nat} {ρ : Ren} {g : Heap} {s : Nat → Prop} {t : Nat → Value} {a : Act} (h : TR ds N ρ g s t a) {ops : Array Oper} {o : Oper} {b : Bool} (hw : awant ops o t = some b) :
    Region.wanted o (yielded ops a.tmps) = b := by
  unfold awant at hw
  unfold Region.wanted
  cases hg : o.guard with
  | none => simp [hg] at hw; simp [hw]
  | some p =>
    obtain ⟨j, want⟩ := p
    simp only [hg] at hw ⊢
    cases hd : (ops[j]?).bind (·.dst) with
    | none => simp [hd] at hw
    | some d =>
      simp only [hd] at hw
      cases ht : t d <;> simp only [ht, reduceCtorEq, Option.some.injEq] at hw
      case tuple vs =>
        have hv := h.val d
        rw [ht] at hv
        obtain ⟨vs', hv', _⟩ := hv.1
        have hn : ∀ x, a.tmps[d]? = some x → x = .tuple vs' := fun x hx => by
          rw [← hv', Array.getD_eq_getD_getElem?, hx]; rfl
        unfold yielded
        simp only [hd, Option.bind_some]
        rw [← hw]
        cases hx : a.tmps[d]? with
        | none => rfl
        | some x => rw [hn x hx]; rfl
      rename_i b'
      have hv := h.val d
      rw [ht, VV_bool] at hv
      have hlt : d < a.tmps.size := by
        rcases Nat.lt_or_ge d a.tmps.size with hlt | hge
        · exact hlt
        · have : a.tmps.getD d undef = undef := by simp [hge]
          rw [this] at hv
          cases hv
      have hget : a.tmps[d]? = some (.bool b') := by
        rw [Array.getElem?_eq_getElem hlt]
        simp only [Array.getD, hlt, dite_true] at hv
        rw [← hv]
        rfl
      unfold yielded
      simp only [hd, Option.bind_some, hget]
      rw [← hw]
      cases b' <;> cases want <;> rfl

def okOper (N : Nat) (o : Oper) : Bool := okDst N o.dst && o.op.operands.toList.all okOperand

/-- The operations in the text's order. -/
def awpOps (P : Program) (ops : Array Oper) (K : (Nat → Value) → Heap → Nat → Prop) : List Oper → (Nat → Value) → Heap → Nat → Prop
  | [], t, g, n => K t g n
  | o :: rest, t, g, n => ∃ b, awant ops o t = some b ∧
    if b then ∃ f, Stp P o.op (evl t) g n f ∧ awpOps P ops K rest (put t o.dst f.v) (f.ap g) (n + f.a.length)
    else awpOps P ops K rest (put t o.dst undef) g n

theorem sn_lt {f : Eff} {n : Nat} (hf : f.a ≠ [] → f.j = n) : ∀ i, f.sn (· < n) i → i < n + f.a.length := by
  intro i hi
  rcases hi with hi | hi
  · omega
  · by_cases ha : f.a = []
    · simp [ha] at hi; omega
    · have := hf ha; omega

theorem awpOps_sound {ds : List Deferred} {P : Program} {N : Nat} {ops : Array Oper} {K : (Nat → Value) → Heap → Nat → Prop} {base : Nat} {w0 : World} {ρ0 : Ren} {g0 : Heap} {s0 : Nat → Prop} {Q : Exit → Act → World → Prop}
    (hQ : ∀ ρ t g n w a, K t g n → HR base w0 ρ g (· < n) w → TR ds N ρ g (· < n) t a → Mono ρ0 g0 s0 ρ g → (∀ i, s0 i → i < n) → Q .normal a w) :
    ∀ (l : List Oper) (ρ : Ren) (t : Nat → Value) (g : Heap) (n : Nat) (w : World) (a : Act), (∀ o ∈ l, okOper N o = true) → awpOps P ops K l t g n → HR base w0 ρ g (· < n) w → TR ds N ρ g (· < n) t a →
      Mono ρ0 g0 s0 ρ g → (∀ i, s0 i → i < n) → wpList P ops Q l a w
  | [], ρ, t, g, n, w, a, _, h, hR, hT, hM, hS => hQ ρ t g n w a h hR hT hM hS
  | o :: l, ρ, t, g, n, w, a, hok, h, hR, hT, hM, hS => by
    obtain ⟨b, hb, h⟩ := h
    have hok0 := hok o (by simp)
    simp only [okOper, Bool.and_eq_true] at hok0
    have hops : ∀ x ∈ o.op.operands, okOperand x = true := fun x hx => List.all_eq_true.1 hok0.2 x (by simpa using hx)
    have hw := awant_spec hT hb
    unfold wpList
    cases b with
    | false =>
      rw [if_neg (by simp [hw])]
      exact awpOps_sound hQ l ρ _ g n w _ (fun o ho => hok o (by simp [ho])) (by simpa using h) hR (hT.put hok0.1 VV_undef) hM hS
    | true =>
      rw [if_pos hw]
      simp only [if_true] at h
      obtain ⟨f, hf, h⟩ := h
      refine .inl (hf.sim (ev' := evl t) (fun _ _ => rfl) (fun _ _ => rfl) (fun i h1 h2 => ?_) base w0 ρ w a _ Q hR (fun x hx => hT.eval (hops x hx)) fun ρ' w' v' hR' hM' hv' => ?_)
      · have : f.a ≠ [] := by
          intro e
          simp [e] at h2
          omega
        have := hf.j this
        show ¬ i < n
        omega
      · have hlt := sn_lt (n := n) hf.j
        have hR2 : HR base w0 ρ' (f.ap g) (· < n + f.a.length) w' := hR'.seenMore hlt ⟨_, fun i hi => hi⟩
        refine awpOps_sound hQ l ρ' _ _ _ w' _ (fun o ho => hok o (by simp [ho])) h hR2 ((hT.mono hM' (fun i hi => by omega)).put hok0.1 (hv'.imp hlt)) (hM.trans hS hM') (fun i hi => by have := hS i hi; omega)

end Go.Proofs.Ytdpkhijbikbhnaa.Abs

/-
  The abstract machine, part 8: a statement whose order Go leaves open: one walk in the text's order serves all orders, where operations that are not ordered do not meet in memory.
-/
namespace Go.Proofs.Ytdpkhijbikbhnaa.Abs
open Go Go.RowKit

def Eff.wr (f : Eff) : List Nat := f.w.map (·.1) ++ List.range' f.j f.a.length

theorem setAll_out : ∀ {l : List (Nat × Blk)} {g : Heap} {b : Nat}, b ∉ l.map (·.1) → setAll g l b = g b
  | [], _, _, _ => rfl
  | (i, x) :: l, g, b, h => by
    simp only [List.map_cons, List.mem_cons, not_or] at h
    rw [setAll, setAll_out h.2, upd_ne _ _ h.1]

theorem addAll_out : ∀ {l : List Blk} {g : Heap} {j b : Nat}, (b < j ∨ j + l.length ≤ b) → addAll g j l b = g b
  | [], _, _, _, _ => rfl
  | x :: l, g, j, b, h => by
    simp only [List.length_cons] at h
    rw [addAll, addAll_out (by omega), upd_ne _ _ (by omega)]

theorem setAll_in : ∀ {l : List (Nat × Blk)} {g g' : Heap} {b : Nat}, b ∈ l.map (·.1) → setAll g l b = setAll g' l b
  | [], _, _, _, h => by simp at h
  | (i, x) :: l, g, g', b, h => by
    rw [setAll, setAll]
    by_cases hm : b ∈ l.map (·.1)
    · exact setAll_in hm
    · rw [setAll_out hm, setAll_out hm]
      simp only [List.map_cons, List.mem_cons] at h
      rcases h with rfl | h
      · simp
      · exact absurd h hm

theorem addAll_in : ∀ {l : List Blk} {g g' : Heap} {j b : Nat}, j ≤ b → b < j + l.length → addAll g j l b = addAll g' j l b
  | [], _, _, _, _, h, h' => by simp at h'; omega
  | x :: l, g, g', j, b, h, h' => by
    rw [addAll, addAll]
    simp only [List.length_cons] at h'
    by_cases e : b = j
    · subst e
      rw [addAll_out (by omega), addAll_out (by omega)]
      simp
    · exact addAll_in (by omega) (by omega)

theorem ap_out {f : Eff} {g : Heap} {b : Nat} (h : b ∉ f.wr) : f.ap g b = g b := by
  simp only [Eff.wr, List.mem_append, not_or, List.mem_range'_1, not_and] at h
  unfold Eff.ap
  rw [addAll_out (by have := h.2; omega), setAll_out h.1]

theorem ap_in {f : Eff} {g g' : Heap} {b : Nat} (h : b ∈ f.wr) : f.ap g b = f.ap g' b := by
  simp only [Eff.wr, List.mem_append, List.mem_range'_1] at h
  unfold Eff.ap
  by_cases hb : f.j ≤ b ∧ b < f.j + f.a.length
  · exact addAll_in hb.1 hb.2
  · rcases h with h | h
    · rw [addAll_out (by omega), addAll_out (by omega)]
      exact setAll_in h
    · exact absurd h hb

def dstOf (ops : Array Oper) (m : Nat) : Option Tmp := (ops[m]?).bind (·.dst)
def valOf (E : Nat → Option Eff) (m : Nat) : Value := match E m with | some f => f.v | none => undef
def apOf (E : Nat → Option Eff) (m : Nat) (g : Heap) : Heap := match E m with | some f => f.ap g | none => g
def wrOf (E : Nat → Option Eff) (m : Nat) : List Nat := match E m with | some f => f.wr | none => []
def lenOf (E : Nat → Option Eff) (m : Nat) : Nat := match E m with | some f => f.a.length | none => 0

def tD (ops : Array Oper) (E : Nat → Option Eff) (sel : Nat → Bool) (t0 : Nat → Value) : Nat → Nat → Value
  | 0 => t0
  | m + 1 => if sel m then put (tD ops E sel t0 m) (dstOf ops m) (valOf E m) else tD ops E sel t0 m
def gD (E : Nat → Option Eff) (sel : Nat → Bool) (g0 : Heap) : Nat → Heap
  | 0 => g0
  | m + 1 => if sel m then apOf E m (gD E sel g0 m) else gD E sel g0 m
def nD (E : Nat → Option Eff) (n0 : Nat) : Nat → Nat
  | 0 => n0
  | m + 1 => nD E n0 m + lenOf E m
def sD (E : Nat → Option Eff) (sel : Nat → Bool) (n0 m : Nat) : Nat → Prop :=
  fun i => i < n0 ∨ ∃ k f, k < m ∧ sel k = true ∧ E k = some f ∧ f.j ≤ i ∧ i < f.j + f.a.length

def allSel : Nat → Bool := fun _ => true

section
variable {ops : Array Oper} {E : Nat → Option Eff} {sel : Nat → Bool} {t0 : Nat → Value} {g0 : Heap}

theorem put_ne {t : Nat → Value} {dst : Option Tmp} {v : Value} {x : Tmp} (h : dst ≠ some x) : put t dst v x = t x := by
  cases dst with
  | none => rfl
  | some d => exact upd_ne _ _ (fun e => h (by rw [e]))

theorem tD_late {x : Tmp} {i : Nat} : ∀ m, i ≤ m → (∀ k, i ≤ k → k < m → sel k = true → dstOf ops k ≠ some x) → tD ops E sel t0 m x = tD ops E sel t0 i x
  | 0, h, _ => by
    have : i = 0 := by omega
    subst this; rfl
  | m + 1, h, hh => by
    by_cases e : i = m + 1
    · subst e; rfl
    · rw [← tD_late m (by omega) (fun k h1 h2 => hh k h1 (by omega))]
      rw [tD]
      split
      · rename_i hs
        exact put_ne (hh m (by omega) (by omega) hs)
      · rfl

theorem tD_early {x : Tmp} : ∀ i, (∀ k, k < i → dstOf ops k = some x → sel k = true) → tD ops E sel t0 i x = tD ops E allSel t0 i x
  | 0, _ => rfl
  | i + 1, h => by
    have ih := tD_early i (fun k hk => h k (by omega))
    rw [tD, tD]
    by_cases e : dstOf ops i = some x
    · have hs := h i (by omega) e
      rw [if_pos hs, if_pos (show allSel i = true from rfl), e]
      simp [put]
    · rw [if_pos (show allSel i = true from rfl)]
      rw [put_ne e]
      split
      · rw [put_ne e]; exact ih
      · exact ih

theorem gD_late {b : Nat} {i : Nat} : ∀ m, i ≤ m → (∀ k, i ≤ k → k < m → sel k = true → b ∉ wrOf E k) → gD E sel g0 m b = gD E sel g0 i b
  | 0, h, _ => by
    have : i = 0 := by omega
    subst this; rfl
  | m + 1, h, hh => by
    by_cases e : i = m + 1
    · subst e; rfl
    · rw [← gD_late m (by omega) (fun k h1 h2 => hh k h1 (by omega))]
      rw [gD]
      split
      · rename_i hs
        have := hh m (by omega) (by omega) hs
        unfold apOf
        unfold wrOf at this
        cases hE : E m with
        | none => rfl
        | some f => simp only [hE] at this ⊢; exact ap_out this
      · rfl

theorem apOf_out {m : Nat} {g : Heap} {b : Nat} (h : b ∉ wrOf E m) : apOf E m g b = g b := by
  unfold apOf
  unfold wrOf at h
  cases hE : E m with
  | none => rfl
  | some f => simp only [hE] at h ⊢; exact ap_out h

theorem apOf_in {m : Nat} {g g' : Heap} {b : Nat} (h : b ∈ wrOf E m) : apOf E m g b = apOf E m g' b := by
  unfold apOf
  unfold wrOf at h
  cases hE : E m with
  | none => simp [hE] at h
  | some f => simp only [hE] at h ⊢; exact ap_in h

theorem gD_early {b : Nat} : ∀ i, (∀ k, k < i → b ∈ wrOf E k → sel k = true) → gD E sel g0 i b = gD E allSel g0 i b
  | 0, _ => rfl
  | i + 1, h => by
    have ih := gD_early i (fun k hk => h k (by omega))
    rw [gD, gD]
    by_cases e : b ∈ wrOf E i
    · have hs := h i (by omega) e
      rw [if_pos hs, if_pos (show allSel i = true from rfl)]
      exact apOf_in e
    · rw [if_pos (show allSel i = true from rfl)]
      rw [apOf_out e]
      split
      · rw [apOf_out e]; exact ih
      · exact ih

def sel1 (sel : Nat → Bool) (i : Nat) : Nat → Bool := fun k => k == i || sel k

theorem tD_insert {i : Nat} (hi : sel i = false) : ∀ m, i < m → (∀ k, i < k → k < m → sel k = true → ∀ x, dstOf ops i = some x → dstOf ops k ≠ some x) →
    tD ops E (sel1 sel i) t0 m = put (tD ops E sel t0 m) (dstOf ops i) (valOf E i) := by
  have low : ∀ m, m ≤ i → tD ops E (sel1 sel i) t0 m = tD ops E sel t0 m := by
    intro m
    induction m with
    | zero => intro _; rfl
    | succ m ih =>
      intro h
      rw [tD, tD, ih (by omega)]
      have : sel1 sel i m = sel m := by simp [sel1]; omega
      rw [this]
  intro m
  induction m with
  | zero => intro h; omega
  | succ m ih =>
    intro h hh
    by_cases e : m = i
    · subst e
      rw [tD, tD, low m (Nat.le_refl _), hi]
      simp [sel1]
    · have ih' := ih (by omega) (fun k h1 h2 => hh k h1 (by omega))
      rw [tD, tD, ih']
      have : sel1 sel i m = sel m := by simp [sel1, e]
      rw [this]
      split
      · rename_i hs
        have hne := hh m (by omega) (by omega) hs
        cases hd : dstOf ops i with
        | none => rfl
        | some d =>
          have hne' := hne d hd
          cases hd2 : dstOf ops m with
          | none => rfl
          | some d2 =>
            have : d2 ≠ d := fun e => hne' (by rw [hd2, e])
            funext x
            simp only [put, upd]
            by_cases e1 : x = d
            · subst e1
              rw [if_pos rfl, if_neg (Ne.symm this), if_pos rfl]
            · by_cases e2 : x = d2
              · subst e2
                rw [if_pos rfl, if_neg e1]
                simp
              · rw [if_neg e2, if_neg e1, if_neg e2]
                simp [e1]
      · rfl

theorem gD_insert {i : Nat} (hi : sel i = false) : ∀ m, i < m → (∀ k, i < k → k < m → sel k = true → ∀ b ∈ wrOf E i, b ∉ wrOf E k) →
    gD E (sel1 sel i) g0 m = apOf E i (gD E sel g0 m) := by
  have low : ∀ m, m ≤ i → gD E (sel1 sel i) g0 m = gD E sel g0 m := by
    intro m
    induction m with
    | zero => intro _; rfl
    | succ m ih =>
      intro h
      rw [gD, gD, ih (by omega)]
      have : sel1 sel i m = sel m := by simp [sel1]; omega
      rw [this]
  intro m
  induction m with
  | zero => intro h; omega
  | succ m ih =>
    intro h hh
    by_cases e : m = i
    · subst e
      rw [gD, gD, low m (Nat.le_refl _), hi]
      simp [sel1]
    · have ih' := ih (by omega) (fun k h1 h2 => hh k h1 (by omega))
      rw [gD, gD, ih']
      have : sel1 sel i m = sel m := by simp [sel1, e]
      rw [this]
      split
      · rename_i hs
        have hne := hh m (by omega) (by omega) hs
        funext b
        by_cases h1 : b ∈ wrOf E i
        · have h2 := hne b h1
          rw [apOf_out h2]
          exact apOf_in h1
        · by_cases h2 : b ∈ wrOf E m
          · rw [apOf_out (m := i) h1]
            exact apOf_in h2
          · rw [apOf_out h2, apOf_out h1, apOf_out h1, apOf_out h2]
      · rfl
end

/-- The certificate of a region's order: bf tells of each operation which ones come before it. -/
def drawOK (ops : Array Oper) (bf : Array Nat) : Bool :=
  (List.range ops.size).all fun i => match ops[i]? with
    | none => false
    | some o =>
      (o.after.all fun e => !Region.binds .any e || decide (e.on < i)) &&
      ((List.range ops.size).all fun k => !(bf.getD i 0).testBit k || o.after.any fun e => Region.binds .any e && (e.on == k || (bf.getD e.on 0).testBit k)) &&
      ((List.range i).all fun k => match ops[k]? with
        | none => false
        | some p => Oper.apart ops p o || (bf.getD i 0).testBit k) &&
      (match o.guard with
       | none => true
       | some (j, _) => decide (j < i) && (bf.getD i 0).testBit j)

structure DrawOK (ops : Array Oper) (bf : Array Nat) : Prop where
  edge : ∀ (i : Nat) (o : Oper), ops[i]? = some o → ∀ e ∈ o.after, Region.binds .any e = true → e.on < i
  bit : ∀ (i : Nat) (o : Oper), ops[i]? = some o → ∀ k, k < ops.size → (bf.getD i 0).testBit k = true → ∃ e ∈ o.after, Region.binds .any e = true ∧ (e.on = k ∨ (bf.getD e.on 0).testBit k = true)
  part : ∀ (i k : Nat) (o p : Oper), k < i → ops[i]? = some o → ops[k]? = some p → Oper.apart ops p o = true ∨ (bf.getD i 0).testBit k = true

theorem drawOK_spec {ops : Array Oper} {bf : Array Nat} (h : drawOK ops bf = true) : DrawOK ops bf := by
  have hall : ∀ (i : Nat) (o : Oper), ops[i]? = some o → _ := fun i o ho => by
    have hlt : i < ops.size := (Array.getElem?_eq_some_iff.1 ho).1
    have h1 := List.all_eq_true.1 h i (List.mem_range.2 hlt)
    simp only [ho, Bool.and_eq_true] at h1
    exact h1
  refine ⟨fun i o ho e he hb => ?_, fun i o ho k hk hb => ?_, fun i k o p hk ho hp => ?_⟩
  · have h1 := Array.all_eq_true_iff_forall_mem.1 (hall i o ho).1.1.1 e he
    simpa [hb] using h1
  · have h1 := List.all_eq_true.1 (hall i o ho).1.1.2 k (List.mem_range.2 hk)
    rw [hb] at h1
    simp only [Bool.not_true, Bool.false_or] at h1
    obtain ⟨e, he, h2⟩ := Array.any_eq_true'.1 h1
    simp only [Bool.and_eq_true, Bool.or_eq_true, beq_iff_eq] at h2
    exact ⟨e, he, h2⟩
  · have h1 := List.all_eq_true.1 (hall i o ho).1.2 k (List.mem_range.2 hk)
    simp only [hp, Bool.or_eq_true] at h1
    exact h1

def Disj (f f' : Eff) : Prop := (∀ b ∈ f.wr, b ∉ f'.r ∧ b ∉ f'.wr) ∧ ∀ b ∈ f.r, b ∉ f'.wr

structure Run (P : Program) (ops : Array Oper) (bf : Array Nat) (E : Nat → Option Eff) (t0 : Nat → Value) (g0 : Heap) (n0 : Nat) : Prop where
  want : ∀ (i : Nat) (o : Oper), ops[i]? = some o → awant ops o (tD ops E allSel t0 i) = some (E i).isSome
  step : ∀ (i : Nat) (o : Oper) (f : Eff), ops[i]? = some o → E i = some f → Stp P o.op (evl (tD ops E allSel t0 i)) (gD E allSel g0 i) (nD E n0 i) f
  pair : ∀ (i k : Nat) (f f' : Eff), i < k → k < ops.size → E i = some f → E k = some f' → (bf.getD k 0).testBit i = true ∨ Disj f f'

theorem fp_cases {f : Eff} {b : Nat} (h : b ∈ f.fp) : b ∈ f.r ∨ b ∈ f.wr := by
  simp only [Eff.fp, List.mem_append] at h
  rcases h with h | h
  · exact .inl h
  · exact .inr (by simp only [Eff.wr, List.mem_append]; exact .inl h)

theorem nD_mono {E : Nat → Option Eff} {n0 : Nat} {i k : Nat} (h : i ≤ k) : nD E n0 i ≤ nD E n0 k := by
  induction k with
  | zero => have : i = 0 := by omega
            subst this; exact Nat.le_refl _
  | succ k ih =>
    by_cases e : i = k + 1
    · subst e; exact Nat.le_refl _
    · have := ih (by omega)
      rw [nD]
      omega

theorem mem_ready' {md : Region.Mode} {ops : Array Oper} {listed : Array Bool} {i : Nat} (h : i ∈ Region.ready md ops listed) :
    i < ops.size ∧ listed.getD i true = false ∧ ∃ o, ops[i]? = some o ∧ ∀ e ∈ o.after, Region.binds md e = true → listed.getD e.on false = true := by
  unfold Region.ready at h
  obtain ⟨h1, h2⟩ := List.mem_filter.1 h
  have hlt := List.mem_range.1 h1
  simp only [Bool.and_eq_true, Bool.not_eq_true'] at h2
  cases ho : ops[i]? with
  | none => simp [ho] at h2
  | some o =>
    refine ⟨hlt, h2.1, o, rfl, fun e he hb => ?_⟩
    have h3 := h2.2
    simp only [ho, Option.map_some, Option.getD_some] at h3
    have h4 := Array.all_eq_true_iff_forall_mem.1 h3 e he
    simpa [hb] using h4

section
variable {P : Program} {ops : Array Oper} {bf : Array Nat} {E : Nat → Option Eff} {t0 : Nat → Value} {g0 : Heap} {n0 N : Nat} {Q : Exit → Act → World → Prop}

/-- What is listed is closed. -/
def Closed (ops : Array Oper) (sel : Nat → Bool) : Prop := ∀ (j : Nat) (o : Oper), ops[j]? = some o → sel j = true → ∀ e ∈ o.after, Region.binds .any e = true → sel e.on = true

theorem closed_bits (hd : DrawOK ops bf) {sel : Nat → Bool} (hc : Closed ops sel) : ∀ (m j : Nat), j ≤ m → j < ops.size → (∀ (o : Oper), ops[j]? = some o → ∀ e ∈ o.after, Region.binds .any e = true → sel e.on = true) → ∀ k, k < ops.size → (bf.getD j 0).testBit k = true → sel k = true := by
  intro m
  induction m with
  | zero =>
    intro j hj hlt hready k hk hb
    obtain ⟨o, ho⟩ : ∃ o, ops[j]? = some o := ⟨ops[j], by simp [hlt]⟩
    obtain ⟨e, he, hbind, _⟩ := hd.bit j o ho k hk hb
    have := hd.edge j o ho e he hbind
    omega
  | succ m ih =>
    intro j hj hlt hready k hk hb
    obtain ⟨o, ho⟩ : ∃ o, ops[j]? = some o := ⟨ops[j], by simp [hlt]⟩
    obtain ⟨e, he, hbind, h2⟩ := hd.bit j o ho k hk hb
    have hlt2 := hd.edge j o ho e he hbind
    have hs := hready o ho e he hbind
    rcases h2 with rfl | h2
    · exact hs
    · exact ih e.on (by omega) (by omega) (fun o' ho' e' he' hb' => hc e.on o' ho' hs e' he' hb') k hk h2

theorem closed_listed (hd : DrawOK ops bf) {sel : Nat → Bool} (hc : Closed ops sel) {j : Nat} (hj : j < ops.size) (hs : sel j = true) {k : Nat} (hk : k < ops.size) (hb : (bf.getD j 0).testBit k = true) : sel k = true :=
  closed_bits hd hc j j (Nat.le_refl _) hj (fun o ho e he hbi => hc j o ho hs e he hbi) k hk hb

theorem looks_tmp {o : Oper} {x : Tmp} (h : Operand.tmp x ∈ o.op.operands) : x ∈ o.looksAt ops := by
  simp only [Oper.looksAt, List.mem_append, List.mem_filterMap]
  exact .inl ⟨.tmp x, by simpa using h, rfl⟩

theorem looks_guard {o : Oper} {j : Nat} {b : Bool} {d : Tmp} (hg : o.guard = some (j, b)) (hd : (ops[j]?).bind (·.dst) = some d) : d ∈ o.looksAt ops := by
  simp only [Oper.looksAt, List.mem_append, hg, hd]
  exact .inr (by simp)

/-- At an operation that is ready, what it looks at is what it is in the text's order. -/
theorem tD_ready (hd : DrawOK ops bf) {sel : Nat → Bool} (hc : Closed ops sel) {i : Nat} {o : Oper} (ho : ops[i]? = some o) (hi : sel i = false)
    (hready : ∀ e ∈ o.after, Region.binds .any e = true → sel e.on = true) {x : Tmp} (hx : x ∈ o.looksAt ops) : tD ops E sel t0 ops.size x = tD ops E allSel t0 i x := by
  have hlt : i < ops.size := (Array.getElem?_eq_some_iff.1 ho).1
  rw [tD_late (i := i) ops.size (by omega), tD_early i]
  · intro k hk hdst
    obtain ⟨p, hp⟩ : ∃ p, ops[k]? = some p := ⟨ops[k], by simp [show k < ops.size by omega]⟩
    have hpd : p.dst = some x := by simpa [dstOf, hp] using hdst
    rcases hd.part i k o p hk ho hp with h | h
    · exact absurd hx ((Oper.apart_spec h).1 x hpd)
    · exact closed_bits hd hc i i (Nat.le_refl _) hlt (fun o' ho' e he hb => by rw [ho] at ho'; cases ho'; exact hready e he hb) k (by omega) h
  · intro k h1 h2 hs hdst
    obtain ⟨p, hp⟩ : ∃ p, ops[k]? = some p := ⟨ops[k], by simp [h2]⟩
    have hpd : p.dst = some x := by simpa [dstOf, hp] using hdst
    by_cases e : k = i
    · subst e; rw [hi] at hs; cases hs
    · rcases hd.part k i p o (by omega) hp ho with h | h
      · exact (Oper.apart_spec h).2.2 x hpd hx
      · have := closed_listed hd hc h2 hs hlt h
        rw [hi] at this; cases this

theorem gD_ready (hd : DrawOK ops bf) (hr : Run P ops bf E t0 g0 n0) {sel : Nat → Bool} (hc : Closed ops sel) {i : Nat} {o : Oper} {f : Eff} (ho : ops[i]? = some o) (hf : E i = some f) (hi : sel i = false)
    (hready : ∀ e ∈ o.after, Region.binds .any e = true → sel e.on = true) {b : Nat} (hb : b ∈ f.fp) : gD E sel g0 ops.size b = gD E allSel g0 i b := by
  have hlt : i < ops.size := (Array.getElem?_eq_some_iff.1 ho).1
  rw [gD_late (i := i) ops.size (by omega), gD_early i]
  · intro k hk hw
    unfold wrOf at hw
    cases hE : E k with
    | none => simp [hE] at hw
    | some f' =>
      simp only [hE] at hw
      rcases hr.pair k i f' f hk hlt hE hf with h | h
      · exact closed_bits hd hc i i (Nat.le_refl _) hlt (fun o' ho' e he hb => by rw [ho] at ho'; cases ho'; exact hready e he hb) k (by omega) h
      · rcases fp_cases hb with h1 | h1
        · exact absurd h1 (h.1 b hw).1
        · exact absurd h1 (h.1 b hw).2
  · intro k h1 h2 hs hw
    by_cases e : k = i
    · subst e; rw [hi] at hs; cases hs
    · unfold wrOf at hw
      cases hE : E k with
      | none => simp [hE] at hw
      | some f' =>
        simp only [hE] at hw
        rcases hr.pair i k f f' (by omega) h2 hf hE with h | h
        · have := closed_listed hd hc h2 hs hlt h
          rw [hi] at this; cases this
        · rcases fp_cases hb with h3 | h3
          · exact h.2 b h3 hw
          · exact (h.1 b h3).2 hw

theorem fresh_ready (hr : Run P ops bf E t0 g0 n0) {sel : Nat → Bool} {i : Nat} {o : Oper} {f : Eff} (ho : ops[i]? = some o) (hf : E i = some f) (hi : sel i = false) : Fresh f (sD E sel n0 ops.size) := by
  intro x h1 h2 h3
  have hlt : i < ops.size := (Array.getElem?_eq_some_iff.1 ho).1
  have ha : f.a ≠ [] := by intro e; simp [e] at h2; omega
  have hj := (hr.step i o f ho hf).j ha
  have hn1 : nD E n0 (i + 1) = nD E n0 i + f.a.length := by simp [nD, lenOf, hf]
  rcases h3 with h3 | ⟨k, f', hk, hs, hE, h4, h5⟩
  · have := nD_mono (E := E) (n0 := n0) (Nat.zero_le i)
    rw [nD] at this
    omega
  · have hk' : k ≠ i := by rintro rfl; rw [hi] at hs; cases hs
    obtain ⟨p, hp⟩ : ∃ p, ops[k]? = some p := ⟨ops[k], by simp [hk]⟩
    have ha' : f'.a ≠ [] := by intro e; simp [e] at h5; omega
    have hj' := (hr.step k p f' hp hE).j ha'
    have hn2 : nD E n0 (k + 1) = nD E n0 k + f'.a.length := by simp [nD, lenOf, hE]
    rcases Nat.lt_or_gt_of_ne hk' with hlt' | hgt
    · have := nD_mono (E := E) (n0 := n0) (show k + 1 ≤ i by omega)
      omega
    · have := nD_mono (E := E) (n0 := n0) (show i + 1 ≤ k by omega)
      omega

def unlisted (ops : Array Oper) (sel : Nat → Bool) : Nat := (List.range ops.size).countP (fun k => !sel k)

theorem unlisted_insert {sel : Nat → Bool} {i : Nat} (hlt : i < ops.size) (hi : sel i = false) : unlisted ops sel = unlisted ops (sel1 sel i) + 1 := by
  unfold unlisted
  generalize ops.size = m at hlt
  induction m with
  | zero => omega
  | succ m ih =>
    rw [List.range_succ, List.countP_append, List.countP_append]
    by_cases e : i = m
    · subst e
      have : ∀ (k : Nat), k ∈ List.range i → (!sel k) = (!sel1 sel i k) := fun k hk => by
        have := List.mem_range.1 hk
        simp [sel1]; omega
      rw [List.countP_congr (fun k hk => by rw [this k hk])]
      simp [hi, sel1]
    · have := ih (by omega)
      rw [this]
      have hm : sel1 sel i m = sel m := by simp [sel1]; omega
      simp only [List.countP_singleton, hm]
      omega

theorem unlisted_zero {sel : Nat → Bool} (h : unlisted ops sel = 0) : ∀ k, k < ops.size → sel k = true := by
  intro k hk
  unfold unlisted at h
  rw [List.countP_eq_zero] at h
  have := h k (List.mem_range.2 hk)
  simpa using this

def selOf (listed : Array Bool) : Nat → Bool := fun k => listed.getD k false

theorem selOf_set {listed : Array Bool} {i : Nat} (hi : i < listed.size) : selOf (listed.setIfInBounds i true) = sel1 (selOf listed) i := by
  funext k
  simp only [selOf, sel1]
  by_cases e : k = i
  · subst e; simp [hi]
  · have e' : i ≠ k := Ne.symm e
    simp [e, Array.getElem?_setIfInBounds_ne e']

theorem ready_nil (hd : DrawOK ops bf) {listed : Array Bool} (hsz : listed.size = ops.size) (h : Region.ready .any ops listed = []) : ∀ m, m ≤ ops.size → ∀ k, k < m → selOf listed k = true := by
  intro m
  induction m with
  | zero => intro _ k hk; omega
  | succ m ih =>
    intro hm k hk
    by_cases e : k = m
    · subst e
      cases hs : selOf listed k with
      | true => rfl
      | false =>
        exfalso
        have hmem : k ∈ Region.ready .any ops listed := by
          unfold Region.ready
          refine List.mem_filter.2 ⟨List.mem_range.2 (by omega), ?_⟩
          have ho : ops[k]? = some ops[k] := by simp [show k < ops.size by omega]
          simp only [Bool.and_eq_true, Bool.not_eq_true', ho, Option.map_some, Option.getD_some]
          constructor
          · simp only [selOf] at hs
            have hk' : k < listed.size := by omega
            simp only [Array.getD, hk', dite_true] at hs ⊢
            exact hs
          · refine Array.all_eq_true_iff_forall_mem.2 fun e he => ?_
            cases hb : Region.binds .any e with
            | false => rfl
            | true =>
              have := hd.edge k _ ho e he hb
              have := ih (by omega) e.on (by omega)
              simpa [selOf] using this
        rw [h] at hmem
        simp at hmem
    · exact ih (by omega) k (by omega)

theorem tD_all (t0 : Nat → Value) (g0 : Heap) {sel : Nat → Bool} : ∀ m, (∀ k, k < m → sel k = true) → tD ops E sel t0 m = tD ops E allSel t0 m ∧ gD E sel g0 m = gD E allSel g0 m
  | 0, _ => ⟨rfl, rfl⟩
  | m + 1, h => by
    obtain ⟨h1, h2⟩ := tD_all t0 g0 m (fun k hk => h k (by omega))
    have hs := h m (by omega)
    rw [tD, tD, gD, gD, h1, h2]
    simp [hs, allSel]

theorem sD_lt (hr : Run P ops bf E t0 g0 n0) {sel : Nat → Bool} {i : Nat} (h : sD E sel n0 ops.size i) : i < nD E n0 ops.size := by
  rcases h with h | ⟨k, f, hk, hs, hE, h1, h2⟩
  · have := nD_mono (E := E) (n0 := n0) (Nat.zero_le ops.size)
    rw [nD] at this
    omega
  · obtain ⟨p, hp⟩ : ∃ p, ops[k]? = some p := ⟨ops[k], by simp [hk]⟩
    have ha : f.a ≠ [] := by intro e; simp [e] at h2; omega
    have hj := (hr.step k p f hp hE).j ha
    have hn : nD E n0 (k + 1) = nD E n0 k + f.a.length := by simp [nD, lenOf, hE]
    have := nD_mono (E := E) (n0 := n0) (show k + 1 ≤ ops.size by omega)
    omega

theorem draw_sound {ds : List Deferred} (hd : DrawOK ops bf) (hr : Run P ops bf E t0 g0 n0) (hok : ∀ o ∈ ops.toList, okOper N o = true) {base : Nat} {w0 : World} {ρ0 : Ren} {gg : Heap} {ss : Nat → Prop}
    (hQ : ∀ ρ w a, HR base w0 ρ (gD E allSel g0 ops.size) (· < nD E n0 ops.size) w → TR ds N ρ (gD E allSel g0 ops.size) (· < nD E n0 ops.size) (tD ops E allSel t0 ops.size) a → Mono ρ0 gg ss ρ (gD E allSel g0 ops.size) → (∀ i, ss i → i < nD E n0 ops.size) → Q .normal a w) :
    ∀ (fuel : Nat) (listed : Array Bool) (ρ : Ren) (w : World) (a : Act), listed.size = ops.size → Closed ops (selOf listed) → unlisted ops (selOf listed) = fuel →
      HR base w0 ρ (gD E (selOf listed) g0 ops.size) (sD E (selOf listed) n0 ops.size) w → TR ds N ρ (gD E (selOf listed) g0 ops.size) (sD E (selOf listed) n0 ops.size) (tD ops E (selOf listed) t0 ops.size) a →
      Mono ρ0 gg ss ρ (gD E (selOf listed) g0 ops.size) → (∀ i, ss i → i < n0) → wpAny P .any ops Q fuel listed a w := by
  have fin : ∀ (listed : Array Bool) (ρ : Ren) (w : World) (a : Act), (∀ k, k < ops.size → selOf listed k = true) →
      HR base w0 ρ (gD E (selOf listed) g0 ops.size) (sD E (selOf listed) n0 ops.size) w → TR ds N ρ (gD E (selOf listed) g0 ops.size) (sD E (selOf listed) n0 ops.size) (tD ops E (selOf listed) t0 ops.size) a →
      Mono ρ0 gg ss ρ (gD E (selOf listed) g0 ops.size) → (∀ i, ss i → i < n0) → Q .normal a w := by
    intro listed ρ w a hall hR hT hM hS
    obtain ⟨e1, e2⟩ := tD_all (ops := ops) (E := E) t0 g0 ops.size hall
    rw [e2] at hR hM
    rw [e1, e2] at hT
    have hlt : ∀ i, sD E (selOf listed) n0 ops.size i → i < nD E n0 ops.size := fun i => sD_lt hr
    have h0 : n0 ≤ nD E n0 ops.size := by have := nD_mono (E := E) (n0 := n0) (Nat.zero_le ops.size); rw [nD] at this; exact this
    exact hQ ρ w a (hR.seenMore hlt ⟨_, fun i hi => hi⟩) ⟨hT.defers, hT.size, fun i => (hT.val i).imp hlt⟩ hM (fun i hi => by have := hS i hi; omega)
  intro fuel
  induction fuel with
  | zero =>
    intro listed ρ w a hsz hc hu hR hT hM hS
    have hall := unlisted_zero hu
    refine ⟨?_, fin listed ρ w a hall hR hT hM hS⟩
    cases hrd : Region.ready .any ops listed with
    | nil => rfl
    | cons x xs =>
      exfalso
      obtain ⟨h1, h2, _⟩ := mem_ready' (i := x) (by rw [hrd]; simp)
      have h3 := hall x h1
      have hx : x < listed.size := by omega
      simp only [selOf, Array.getD, hx, dite_true] at h2 h3
      rw [h3] at h2
      cases h2
  | succ fuel ih =>
    intro listed ρ w a hsz hc hu hR hT hM hS
    refine ⟨fun hnil => fin listed ρ w a (ready_nil hd hsz hnil ops.size (Nat.le_refl _)) hR hT hM hS, fun i hi => ?_⟩
    obtain ⟨hlt, hl, o, ho, hready⟩ := mem_ready' hi
    have hx : i < listed.size := by omega
    have hsel : selOf listed i = false := by
      simp only [selOf, Array.getD, hx, dite_true] at hl ⊢
      exact hl
    have hokm := hok o (List.mem_of_getElem? (by simpa using ho))
    simp only [okOper, Bool.and_eq_true] at hokm
    have hops : ∀ x ∈ o.op.operands, okOperand x = true := fun x hx => List.all_eq_true.1 hokm.2 x (by simpa using hx)
    have hset := selOf_set hx
    have hc' : Closed ops (selOf (listed.setIfInBounds i true)) := by
      rw [hset]
      intro j oj hoj hs e he hb
      by_cases ej : j = i
      · subst ej
        rw [ho] at hoj
        cases hoj
        have := hready e he hb
        simp [sel1, selOf] at this ⊢
        exact .inr this
      · have hs' : selOf listed j = true := by simpa [sel1, ej] using hs
        have := hc j oj hoj hs' e he hb
        simp [sel1, this]
    have hu' : unlisted ops (selOf (listed.setIfInBounds i true)) = fuel := by
      rw [hset]
      have := unlisted_insert (ops := ops) hlt hsel
      omega
    have hsz' : (listed.setIfInBounds i true).size = ops.size := by simpa using hsz
    have hready' : ∀ e ∈ o.after, Region.binds .any e = true → selOf listed e.on = true := hready
    have htl : tD ops E (selOf (listed.setIfInBounds i true)) t0 ops.size = put (tD ops E (selOf listed) t0 ops.size) o.dst (valOf E i) := by
      rw [hset, tD_insert hsel ops.size hlt]
      · simp [dstOf, ho]
      · intro k h1 h2 hs x hxd hkd
        obtain ⟨p, hp⟩ : ∃ p, ops[k]? = some p := ⟨ops[k], by simp [h2]⟩
        rcases hd.part k i p o h1 hp ho with h | h
        · exact (Oper.apart_spec h).2.1 x (by simpa [dstOf, ho] using hxd) (by simpa [dstOf, hp] using hkd)
        · have := closed_listed hd hc h2 hs hlt h
          rw [hsel] at this; cases this
    have hgl : gD E (selOf (listed.setIfInBounds i true)) g0 ops.size = apOf E i (gD E (selOf listed) g0 ops.size) := by
      rw [hset, gD_insert hsel ops.size hlt]
      intro k h1 h2 hs b hb hb'
      unfold wrOf at hb hb'
      cases hE : E i with
      | none => simp [hE] at hb
      | some f =>
        cases hE' : E k with
        | none => simp [hE'] at hb'
        | some f' =>
          simp only [hE] at hb
          simp only [hE'] at hb'
          rcases hr.pair i k f f' h1 h2 hE hE' with h | h
          · have := closed_listed hd hc h2 hs hlt h
            rw [hsel] at this; cases this
          · exact (h.1 b hb).2 hb'
    have hlook : ∀ x ∈ o.looksAt ops, tD ops E (selOf listed) t0 ops.size x = tD ops E allSel t0 i x := fun x hx => tD_ready hd hc ho hsel hready' hx
    have haw : awant ops o (tD ops E (selOf listed) t0 ops.size) = some (E i).isSome := by
      rw [← hr.want i o ho]
      unfold awant
      cases hg : o.guard with
      | none => rfl
      | some p =>
        obtain ⟨j, b⟩ := p
        simp only
        cases hdd : (ops[j]?).bind (·.dst) with
        | none => rfl
        | some d => simp only [hlook d (looks_guard hg hdd)]
    have hw := awant_spec hT haw
    unfold wpOp
    simp only [ho]
    cases hE : E i with
    | none =>
      rw [if_neg (by simp [hw, hE])]
      have hsub : ∀ x, sD E (selOf listed) n0 ops.size x → sD E (selOf (listed.setIfInBounds i true)) n0 ops.size x := by
        intro x hx
        rcases hx with hx | ⟨k, f, hk, hs, r⟩
        · exact .inl hx
        · exact .inr ⟨k, f, hk, by rw [hset]; simp [sel1, hs], r⟩
      have hgl' : gD E (selOf (listed.setIfInBounds i true)) g0 ops.size = gD E (selOf listed) g0 ops.size := by rw [hgl]; simp [apOf, hE]
      have hfin : ∃ n, ∀ x, sD E (selOf (listed.setIfInBounds i true)) n0 ops.size x → x < n := ⟨_, fun x => sD_lt hr⟩
      refine ih _ ρ w _ hsz' hc' hu' ?_ ?_ ?_ hS
      · rw [hgl']; exact hR.seenMore hsub hfin
      · rw [hgl', htl]
        refine TR.put ⟨hT.defers, hT.size, fun x => (hT.val x).imp hsub⟩ hokm.1 ?_
        simp only [valOf, hE]
        exact VV_undef
      · rw [hgl']; exact hM
    | some f =>
      rw [if_pos (by simp [hw, hE])]
      have hst := hr.step i o f ho hE
      have hev : ∀ x ∈ o.op.operands, evl (tD ops E (selOf listed) t0 ops.size) x = evl (tD ops E allSel t0 i) x := by
        intro x hx
        cases x with
        | tmp y => exact hlook y (looks_tmp hx)
        | _ => rfl
      refine .inl (hst.sim hev (fun b hb => gD_ready hd hr hc ho hE hsel hready' hb) (fresh_ready hr ho hE hsel) base w0 ρ w a _ Q hR (fun x hx => hT.eval (hops x hx)) fun ρ' w' v' hR' hM' hv' => ?_)
      have hgl' : gD E (selOf (listed.setIfInBounds i true)) g0 ops.size = f.ap (gD E (selOf listed) g0 ops.size) := by rw [hgl]; simp [apOf, hE]
      have hsub : ∀ x, f.sn (sD E (selOf listed) n0 ops.size) x → sD E (selOf (listed.setIfInBounds i true)) n0 ops.size x := by
        intro x hx
        rcases hx with (hx | ⟨k, f', hk, hs, r⟩) | hx
        · exact .inl hx
        · exact .inr ⟨k, f', hk, by rw [hset]; simp [sel1, hs], r⟩
        · exact .inr ⟨i, f, hlt, by rw [hset]; simp [sel1], hE, hx⟩
      have hfin : ∃ n, ∀ x, sD E (selOf (listed.setIfInBounds i true)) n0 ops.size x → x < n := ⟨_, fun x => sD_lt hr⟩
      refine ih _ ρ' w' _ hsz' hc' hu' ?_ ?_ ?_ hS
      · rw [hgl']; exact hR'.seenMore hsub hfin
      · rw [hgl', htl]
        have h1 := hT.mono hM' (fun x hx => hsub x (.inl hx))
        have h2 := hv'.imp hsub
        have h3 : valOf E i = f.v := by simp [valOf, hE]
        rw [h3]
        exact h1.put hokm.1 h2
      · rw [hgl']
        exact hM.trans (fun x hx => .inl (hS x hx)) hM'
end

end Go.Proofs.Ytdpkhijbikbhnaa.Abs

/-
  The abstract machine, part 8b: a range over a function.
-/
namespace Go.Proofs.Ytdpkhijbikbhnaa.Abs
open Go Go.RowKit
set_option linter.unusedSimpArgs false
set_option linter.unusedVariables false

/-- What an iterator does: m rounds, the k-th with the values enc k. -/
def SeqN (n : Nat) (P : Program) (gf : FuncId) (lb : Array Value) (m : Nat) (enc : Nat → Array Value) (Fs : Nat → World → Prop) : Prop :=
  ∀ (l : Nat) (J : Nat → World → Prop) (W : World), (∀ k W, J k W → Fs k W) →
    (∀ k W, k < m → J k W → YieldAt Fence.wide n P l (enc k) W fun e W' => e = .returned (.bool true) ∧ J (k + 1) W') →
    J 0 W → CallsIn Fence.wide (n + 1) P gf (#[.func (.yield l) #[] #[]] ++ lb) W fun e W' => (∃ v, e = .returned v) ∧ J m W'

/-- A range over such a function. -/
theorem wpIn_rangeFunc_N {P : Program} {n : Nat} {g : Operand} {ps : Array Tmp} {assign body : Code} {Q : Exit → Act → World → Prop} {a : Act} {w : World} {gf : FuncId} {lb : Array Value} {m : Nat} {enc : Nat → Array Value} {Fs : Nat → World → Prop}
    (hg : a.eval g = .func (.func gf) #[] lb) (eg : ∀ args w, (callFunc gf args).run P w = .ok (.enter gf args) w) (hseq : SeqN n P gf lb m enc Fs) (hps : ∀ k, (enc k).size = ps.size)
    (I : Nat → World → Prop) (hI : OwnFrom w.heap.size I) (hF : ∀ k W, I k W → Fs k W) (h0 : I 0 w)
    (I1 : Act → Nat → World → Prop) (hI1 : ∀ a₁, OwnFrom w.heap.size (I1 a₁))
    (hround : ∀ (l k : Nat) (W : World), k < m → I k W → assign.wpIn (Fence.wide.inRound l) n P (fun e a₁ w₁ => e = .normal ∧ KeepsOthers W w₁ ∧ I1 a₁ k w₁) { tmps := (ps.zip (enc k)).foldl (fun t (p, v) => t.setIfInBounds p v) a.tmps, defers := [] } W)
    (hbody : ∀ (l k : Nat) (a₁ : Act) (W : World), k < m → I1 a₁ k W → body.wpIn (Fence.wide.inRound l) n P (fun e _ W3 => e = .normal ∧ KeepsOthers W W3 ∧ I (k + 1) W3) a₁ W)
    (hdone : ∀ (W : World), I m W → W.heap[w.heap.size]? = some (.deferred (some [])) → Q .normal { a with defers := { target := .collected w.heap.size, args := #[] } :: a.defers } W) :
    (Code.rangeFunc g ps assign body).wpIn Fence.wide (n + 2) P Q a w := by
  refine wpIn_rangeFunc ?_
  intro fn hfn
  obtain ⟨rec, hrec⟩ : ∃ rec : LoopState → Option Code → Loop, rec = fun st pe => { state := st, pending := pe, fn, tmps := a.tmps, params := ps, assign, body, defers := w.heap.size } := ⟨_, rfl⟩
  obtain ⟨W1, hW1⟩ : ∃ W1, (w.alloc (.deferred (some []))).alloc (.loop (rec .ready none)) = W1 := ⟨_, rfl⟩
  have hL1 : W1.heap[w.heap.size + 1]? = some (.loop (rec .ready none)) := by
    rw [← hW1]; have := World.alloc_heap_new (w.alloc (.deferred (some []))) (.loop (rec .ready none)); rwa [World.size_alloc] at this
  have hK1 : W1.heap[w.heap.size]? = some (.deferred (some [])) := by
    rw [← hW1]; exact (Below.heap_alloc _ _ _ (by simp)).trans (World.alloc_heap_new w _)
  have hIz : I 0 W1 := by rw [← hW1]; exact hI.alloc _ (hI.alloc _ h0)
  refine ⟨w.heap.size + 1, [{ target := .collected w.heap.size, args := #[] }], W1, { target := .fn (.func gf) lb, args := #[.func (.yield (w.heap.size + 1)) #[] #[]] }, W1, gf,
    #[.func (.yield (w.heap.size + 1)) #[] #[]] ++ lb, W1, ?_, ?_, ?_, ?_, fun h => ?_, ?_⟩
  · rw [← hW1, hrec]; exact run_enterLoop_outer _ _ _ _ _
  · simp only [resolve, hg]
    simp [go_sem]
  · intro f' hf'; trivial
  · simp [invoke, go_sem, eg]
  · simp [Fence.wide] at h
  · refine (hseq (w.heap.size + 1)
      (fun k W => I k W ∧ W.heap[w.heap.size + 1]? = some (.loop (rec .ready none)) ∧ W.heap[w.heap.size]? = some (.deferred (some [])))
      W1 (fun k W h => hF k W h.1) ?_ ⟨hIz, hL1, hK1⟩).mono ?_
    · rintro k W hk ⟨hi, hl, hkk⟩
      have hlt : w.heap.size + 1 < W.heap.size := (Array.getElem?_eq_some_iff.1 hl).1
      have hy := run_yield (P := P) (args := enc k) hl (by rw [hrec]; exact hps k)
      rw [hrec] at hy
      refine ⟨fn, _, assign, body, hy, roundIn_of_wpIn hfn (wpIn_mono (hround _ k W hk hi) ?_)⟩
      rintro e a₁ w₁ ⟨rfl, hk0, hi1⟩
      have hl := hk0.same _ _ hl rfl
      have hkk := hk0.same _ _ hkk rfl
      have hlt : w.heap.size + 1 < w₁.heap.size := (Array.getElem?_eq_some_iff.1 hl).1
      refine ⟨_, run_beginRound hl (by rw [hrec]), ?_⟩
      have hl2 : (w₁.putObj (w.heap.size + 1) (.loop { rec .ready none with state := .busy })).heap[w.heap.size + 1]? = some (.loop { rec .ready none with state := .busy }) := World.putObj_heap_same hlt
      have hk2 : (w₁.putObj (w.heap.size + 1) (.loop { rec .ready none with state := .busy })).heap[w.heap.size]? = some (.deferred (some [])) := (World.putObj_heap_other (by omega)).trans hkk
      refine wpIn_mono (hbody _ k a₁ _ hk ((hI1 a₁).putObj _ hi1 (by omega) hl rfl)) ?_
      rintro e a3 W3 ⟨rfl, hk3, hi3⟩
      have hl3 := hk3.same _ _ hl2 rfl
      have hr := run_endRound (P := P) none hl3
      rw [hrec] at hr
      have hl4 : (W3.putObj (w.heap.size + 1) (.loop (rec .ready none))).heap[w.heap.size + 1]? = some (.loop (rec .ready none)) := World.putObj_heap_same (Array.getElem?_eq_some_iff.1 hl3).1
      have hk4 : (W3.putObj (w.heap.size + 1) (.loop (rec .ready none))).heap[w.heap.size]? = some (.deferred (some [])) := (World.putObj_heap_other (by omega)).trans (hk3.same _ _ hk2 rfl)
      have hi4 := hI.putObj (.loop (rec .ready none)) hi3 (show w.heap.size ≤ w.heap.size + 1 by omega) hl3 rfl
      rw [hrec] at hi4 hl4 hk4
      exact ⟨_, _, hr, rfl, hi4, by rw [hrec]; exact hl4, hk4⟩
    · rintro e W2 ⟨⟨v, rfl⟩, hi, hl, hk⟩
      exact ⟨none, _, by have := run_endLoop (P := P) hl (by rw [hrec]; simp); rw [hrec] at this; exact this, hdone _ (hI.putObj _ hi (by omega) hl rfl) ((World.putObj_heap_other (by omega)).trans hk)⟩

/-- An operation that is no 'defer', in a round. -/
theorem oper_in {P : Program} {o : Oper} {a : Act} {w : World} {K : Act → World → Prop} {Q : Exit → Act → World → Prop} (l n : Nat) (hd : ∀ c, o.op ≠ .defer c) (h : o.wp P a w K Q) : o.wpIn (Fence.wide.inRound l) n P a w K Q := by
  refine ⟨fun _ _ => trivial, ?_⟩
  rw [Oper.semAt_eq _ _ _ hd]
  unfold Oper.wp at h
  revert h
  cases (execOp a.eval o).run P w with
  | ok v w' =>
    cases v with
    | enter f args => exact fun h => ⟨fun h => by simp [Fence.wide] at h, CallsIn.inRound l (callsIn_wide.2 h)⟩
    | row r args =>
      intro h
      refine ⟨fun h => by simp [Fence.wide] at h, fun c cs _ => ?_⟩
      obtain ⟨v, w', h1, h2⟩ := h c cs
      exact ⟨v, w', h1, by rw [fenced_inRound]; exact stepsIn_wide.2 h2⟩
    | _ => first | exact id | exact fun h => h.elim
  | halt s w' => cases s <;> first | exact id | exact fun h => h.elim
theorem wp_oper_mono {P : Program} {o : Oper} {a : Act} {w : World} {K K' : Act → World → Prop} {Q : Exit → Act → World → Prop} (h : o.wp P a w K Q) (hk : ∀ a w, K a w → K' a w) : o.wp P a w K' Q := by
  unfold Oper.wp at h ⊢
  revert h
  cases (execOp a.eval o).run P w with
  | ok v w' =>
    cases v with
    | enter f args =>
      intro h
      refine Calls.mono h fun e w'' he => ?_
      cases e with
      | returned v => exact hk _ _ he
      | panicked c => exact he
      | outgrown => exact he
    | row r args => exact fun h => Rows.mono h fun v w h => hk _ _ h
    | value v => exact hk _ _
    | skip => exact hk _ _
    | defer d => exact hk _ _
    | _ => exact fun h => h.elim
  | halt s w' => cases s <;> first | exact id | exact fun h => h.elim

theorem wpList_in {P : Program} {ops : Array Oper} {Q : Exit → Act → World → Prop} (hQ : ¬ LetsOut Q) (r n : Nat) : ∀ (l : List Oper) (a : Act) (w : World), (∀ o ∈ l, ∀ c, o.op ≠ .defer c) → wpList P ops Q l a w → wpListIn (Fence.wide.inRound r) n P ops Q l a w
  | [], a, w, _, h => h
  | o :: l, a, w, hd, h => by
    have ih := fun a w => wpList_in (P := P) (ops := ops) hQ r n l a w (fun o ho => hd o (by simp [ho]))
    simp only [wpList] at h
    simp only [wpListIn]
    split at h
    · rename_i hw
      rw [if_pos hw]
      rcases h with h | ⟨_, h⟩
      · exact oper_in r n (hd o (by simp)) (wp_oper_mono h fun a w => ih a w)
      · exact absurd h hQ
    · rename_i hw
      rw [if_neg hw]
      exact ⟨fun _ _ => trivial, ih _ _ h⟩


/-- One round's region. -/
theorem region_round {P : Program} {id : Nat} {ops : Array Oper} {K : (Nat → Value) → Heap → Nat → Prop} {ds : List Deferred} {N base : Nat} {ρ : Ren} {t : Nat → Value} {g : Heap} {n : Nat} {a : Act} {W : World} (l m : Nat)
    (hok : ops.toList.all (okOper N) = true) (hd : ∀ o ∈ ops.toList, ∀ c, o.op ≠ .defer c) (h : awpOps P ops K ops.toList t g n) (hR : HR base W ρ g (· < n) W) (hT : TR ds N ρ g (· < n) t a) :
    (Code.region id ops false).wpIn (Fence.wide.inRound l) m P (fun e a3 W3 => e = .normal ∧ ∃ t' g' n' ρ', K t' g' n' ∧ HR base W ρ' g' (· < n') W3 ∧ TR ds N ρ' g' (· < n') t' a3 ∧ Mono ρ g (· < n) ρ' g' ∧ n ≤ n') a W := by
  have hok' : ∀ o ∈ ops.toList, okOper N o = true := fun o ho => List.all_eq_true.1 hok o ho
  refine wpIn_region_list (wpList_in (fun hq => ?_) l m ops.toList a W hd ?_)
  · obtain ⟨_, _, e, _⟩ := hq; cases e
  · exact awpOps_sound (base := base) (w0 := W) (ρ0 := ρ) (g0 := g) (s0 := (· < n)) (Q := fun e a3 W3 => e = .normal ∧ ∃ t' g' n' ρ', K t' g' n' ∧ HR base W ρ' g' (· < n') W3 ∧ TR ds N ρ' g' (· < n') t' a3 ∧ Mono ρ g (· < n) ρ' g' ∧ n ≤ n')
      (fun ρ' t g n' w a hk hR hT hM hS => ⟨rfl, t, g, n', ρ', hk, hR, hT, hM, by
        rcases Nat.lt_or_ge n' n with h | h
        · have := hS n' h; omega
        · exact h⟩) ops.toList ρ t g n W a hok' h hR hT (Mono.refl _ _ _) (fun i hi => hi)
/-- The same, seen from the round's start. -/
theorem HR.here {base : Nat} {w0 : World} {ρ : Ren} {g : Heap} {s : Nat → Prop} {w : World} (h : HR base w0 ρ g s w) : HR base w ρ g s w := ⟨Below.refl _ _, h.hb, h.seen, h.fin, h.wf, h.ro, h.own, h.inj, KeepsOthers.refl _⟩
theorem HR.from {base : Nat} {w0 w : World} {ρ ρ' : Ren} {g g' : Heap} {s s' : Nat → Prop} {w' : World} (h : HR base w0 ρ g s w) (h' : HR base w ρ' g' s' w') : HR base w0 ρ' g' s' w' := ⟨h.below.trans h'.below, h'.hb, h'.seen, h'.fin, h'.wf, h'.ro, h'.own, h'.inj, h.oth.trans h'.oth⟩

/-- A block that is no cells and lies beyond is changed. -/
theorem HR.others {base : Nat} {w0 : World} {ρ : Ren} {g : Heap} {s : Nat → Prop} {w w' : World} (h : HR base w0 ρ g s w) {row : Option Nat} (hg : w.grownBy w' row) (hr : ∀ r, row = some r → base ≤ r ∧ w0.heap.size ≤ r ∧ ∃ o : Obj, w.heap[r]? = some o ∧ o.isCells = false) : HR base w0 ρ g s w' := by
  have hc : ∀ r, row = some r → ∃ o : Obj, w.heap[r]? = some o ∧ o.isCells = false := fun r e => (hr r e).2.2
  refine ⟨h.below.grown hg h.hb (fun k e => (hr k e).1), Nat.le_trans h.hb hg.size, h.seen, h.fin, h.wf, fun i b hb hro => ?_, fun i b hb hro => ?_, h.inj, ⟨Nat.le_trans h.oth.size hg.size, fun k o hk ho => ?_⟩⟩
  · obtain ⟨h1, h2⟩ := h.ro i b hb hro
    refine ⟨Nat.lt_of_lt_of_le h1 hg.size, fun k c hk => ?_⟩
    obtain ⟨c', hc', hv⟩ := h2 k c hk
    exact ⟨c', cell_kept hc' hg hc, hv⟩
  · obtain ⟨h1, h2, cur, h3, h4⟩ := h.own i b hb hro
    refine ⟨h1, h2, cur, ?_, h4⟩
    refine (hg.block _ (Array.getElem?_eq_some_iff.1 h3).1 fun e => ?_).trans h3
    obtain ⟨o, h5, h6⟩ := hc _ e.symm
    rw [h3] at h5; cases h5; cases h6
  · have h1 := h.oth.same k o hk ho
    refine (hg.block _ (Array.getElem?_eq_some_iff.1 h1).1 fun e => ?_).trans h1
    have := (hr _ e.symm).2.1
    have := (Array.getElem?_eq_some_iff.1 hk).1
    omega

theorem TR.fold {ds : List Deferred} {N : Nat} {ρ : Ren} {g : Heap} {s : Nat → Prop} : ∀ (l : List (Tmp × Value)) {t : Nat → Value} {a : Act}, TR ds N ρ g s t a → (∀ p ∈ l, p.1 < N ∧ plain p.2 = true) →
    TR ds N ρ g s (l.foldl (fun t p => upd t p.1 p.2) t) { a with tmps := l.foldl (fun t p => t.setIfInBounds p.1 p.2) a.tmps }
  | [], t, a, h, _ => h
  | p :: l, t, a, h, hp => by
    have h1 := hp p (by simp)
    have := TR.fold l (h.put (dst := some p.1) (by simpa [okDst] using h1.1) (VV_plain (v := p.2) h1.2)) (fun q hq => hp q (by simp [hq]))
    exact this

/-- The state of a frame at a round's head. -/
def rt (t : Nat → Value) (ps : Array Tmp) (vs : Array Value) : Nat → Value := (ps.zip vs).toList.foldl (fun t p => upd t p.1 p.2) t


/-- **A range over an iterator that has its contract**: its rounds, one by one, over the abstract machine. -/
theorem rangeFunc_sound {P : Program} {ds : List Deferred} {N base : Nat} {w0 : World} {ρs : Ren} {t : Nat → Value} {g : Heap} {n : Nat} {a : Act} {w : World}
    {fo : Operand} {ps : Array Tmp} {ia ib bb : Nat} {opa opb : Array Oper} {gf : FuncId} {lb : Array Value} {m : Nat} {enc : Nat → Array Value} {Fs : Nat → World → Prop}
    (hg : a.eval fo = .func (.func gf) #[] lb) (eg : ∀ args w, (callFunc gf args).run P w = .ok (.enter gf args) w) (hseq : SeqN 1 P gf lb m enc Fs) (hps : ∀ k, (enc k).size = ps.size) (hpl : ∀ k, ∀ p ∈ (ps.zip (enc k)).toList, p.1 < N ∧ plain p.2 = true)
    (hoka : opa.toList.all (okOper N) = true) (hda : ∀ o ∈ opa.toList, ∀ c, o.op ≠ .defer c) (hokb : opb.toList.all (okOper N) = true) (hdb : ∀ o ∈ opb.toList, ∀ c, o.op ≠ .defer c)
    (hR : HR base w0 ρs g (· < n) w) (hT : TR ds N ρs g (· < n) t a) (J : Nat → Heap → Nat → Prop) (h0 : J 0 g n)
    (hF : ∀ k ρ g' n' W, J k g' n' → HR base w0 ρ g' (· < n') W → Mono ρs g (· < n) ρ g' → Fs k W)
    (hround : ∀ k g n, k < m → J k g n → awpOps P opa (fun t' g' n' => g' = g ∧ n' = n ∧ awpOps P opb (fun _ g'' n'' => J (k + 1) g'' n'') opb.toList t' g n) opa.toList (rt t ps (enc k)) g n) :
    (Code.rangeFunc fo ps (.region ia opa false) (.block bb (.region ib opb false))).wp P (fun e a' W' => e = .normal ∧ ∃ ρ' g' n', J m g' n' ∧ HR base w0 ρ' g' (· < n') W' ∧ TR ({ target := .collected w.heap.size, args := #[] } :: ds) N ρ' g' (· < n') t a' ∧
      Mono ρs g (· < n) ρ' g' ∧ n ≤ n' ∧ W'.heap[w.heap.size]? = some (.deferred (some [])) ∧ ∀ (D : Nat) (o : Obj), w.heap[D]? = some o → o.isCells = false → W'.heap[D]? = some o) a w := by
  let I : Nat → World → Prop := fun k W => ∃ ρ g' n', J k g' n' ∧ HR base w0 ρ g' (· < n') W ∧ Mono ρs g (· < n) ρ g' ∧ n ≤ n' ∧ ∀ (D : Nat) (o : Obj), w.heap[D]? = some o → o.isCells = false → W.heap[D]? = some o
  let I1 : Act → Nat → World → Prop := fun a₁ k W => ∃ ρ g' n' t', HR base w0 ρ g' (· < n') W ∧ Mono ρs g (· < n) ρ g' ∧ n ≤ n' ∧ TR [] N ρ g' (· < n') t' a₁ ∧ awpOps P opb (fun _ g'' n'' => J (k + 1) g'' n'') opb.toList t' g' n' ∧ ∀ (D : Nat) (o : Obj), w.heap[D]? = some o → o.isCells = false → W.heap[D]? = some o
  have hrow : ∀ {W : World} {row : Option Nat}, (∀ r, row = some r → w.heap.size ≤ r ∧ ∃ o : Obj, W.heap[r]? = some o ∧ o.isCells = false) → ∀ r, row = some r → base ≤ r ∧ w0.heap.size ≤ r ∧ ∃ o : Obj, W.heap[r]? = some o ∧ o.isCells = false :=
    fun hr r e => by
      obtain ⟨h1, h2⟩ := hr r e
      have := hR.hb
      have := hR.oth.size
      exact ⟨by omega, by omega, h2⟩
  have hkeep : ∀ {W W' : World} {row : Option Nat}, (∀ (D : Nat) (o : Obj), w.heap[D]? = some o → o.isCells = false → W.heap[D]? = some o) → W.grownBy W' row → (∀ r, row = some r → w.heap.size ≤ r ∧ ∃ o : Obj, W.heap[r]? = some o ∧ o.isCells = false) → ∀ (D : Nat) (o : Obj), w.heap[D]? = some o → o.isCells = false → W'.heap[D]? = some o :=
    fun h hg hr D o h1 h2 => by
      have h3 := h D o h1 h2
      refine (hg.block D (Array.getElem?_eq_some_iff.1 h3).1 fun e => ?_).trans h3
      have := (hr D e.symm).1
      have := (Array.getElem?_eq_some_iff.1 h1).1
      omega
  refine wpIn_wide.1 (wpIn_rangeFunc_N (n := 1) (Q := fun e a' W' => e = .normal ∧ ∃ ρ' g' n', J m g' n' ∧ HR base w0 ρ' g' (· < n') W' ∧ TR ({ target := .collected w.heap.size, args := #[] } :: ds) N ρ' g' (· < n') t a' ∧
      Mono ρs g (· < n) ρ' g' ∧ n ≤ n' ∧ W'.heap[w.heap.size]? = some (.deferred (some [])) ∧ ∀ (D : Nat) (o : Obj), w.heap[D]? = some o → o.isCells = false → W'.heap[D]? = some o) hg eg hseq hps I (fun k W W' row hs hgr hr => ?_) (fun k W hs => ?_) ⟨ρs, g, n, h0, hR, Mono.refl _ _ _, Nat.le_refl _, fun _ _ h _ => h⟩ I1 (fun a₁ k W W' row hs hgr hr => ?_) (fun l k W hk hs => ?_) (fun l k a₁ W hk hs => ?_) (fun W hs hD => ?_))
  · obtain ⟨ρ, g', n', h1, h2, h3, h4, h5⟩ := hs
    exact ⟨ρ, g', n', h1, h2.others hgr (hrow hr), h3, h4, hkeep h5 hgr hr⟩
  · obtain ⟨ρ, g', n', h1, h2, h3, h4, _⟩ := hs
    exact hF k ρ g' n' W h1 h2 h3
  · obtain ⟨ρ, g', n', t', h1, h2, h3, h4, h5, h6⟩ := hs
    exact ⟨ρ, g', n', t', h1.others hgr (hrow hr), h2, h3, h4, h5, hkeep h6 hgr hr⟩
  · obtain ⟨ρ, g', n', h1, h2, h3, h4, h5⟩ := hs
    have hT1 : TR [] N ρ g' (· < n') t { a with defers := [] } := ⟨rfl, (hT.mono h3 (fun i hi => Nat.lt_of_lt_of_le hi h4)).size, (hT.mono h3 (fun i hi => Nat.lt_of_lt_of_le hi h4)).val⟩
    have hT2 := TR.fold (ps.zip (enc k)).toList hT1 (hpl k)
    have e0 : ({ tmps := (ps.zip (enc k)).foldl (fun t (p, v) => t.setIfInBounds p v) a.tmps, defers := [] } : Act) = { a with defers := [], tmps := (ps.zip (enc k)).toList.foldl (fun t p => t.setIfInBounds p.1 p.2) a.tmps } := by
      rw [← Array.foldl_toList]
    rw [e0]
    refine wpIn_mono (region_round (ds := []) (base := base) l 1 hoka hda (hround k g' n' hk h1) h2.here hT2) ?_
    rintro e a₁ W1 ⟨rfl, t', g'', n'', ρ', ⟨hgg, hnn, hb⟩, hR', hT', hM', _⟩
    subst hgg hnn
    exact ⟨rfl, hR'.oth, ρ', g'', n'', t', h2.from hR', h3.trans (fun i hi => Nat.lt_of_lt_of_le hi h4) hM', h4, hT', hb, fun D o h6 h7 => hR'.oth.same D o (h5 D o h6 h7) h7⟩
  · obtain ⟨ρ, g', n', t', h1, h2, h3, h4, h5, h6⟩ := hs
    refine wpIn_block (wpIn_mono (region_round (ds := []) (base := base) l 1 hokb hdb h5 h1.here h4) ?_)
    rintro e a₂ W1 ⟨rfl, t'', g'', n'', ρ', hJ, hR', hT', hM', hle⟩
    exact ⟨rfl, hR'.oth, ρ', g'', n'', hJ, h1.from hR', h2.trans (fun i hi => Nat.lt_of_lt_of_le hi h3) hM', by omega, fun D o h7 h8 => hR'.oth.same D o (h6 D o h7 h8) h8⟩
  · obtain ⟨ρ, g', n', h1, h2, h3, h4, h5⟩ := hs
    have hT1 : TR ds N ρ g' (· < n') t a := hT.mono h3 (fun i hi => Nat.lt_of_lt_of_le hi h4)
    exact ⟨rfl, ρ, g', n', h1, h2, ⟨by simp [hT.defers], hT1.size, hT1.val⟩, h3, h4, hD, h5⟩

/-- An iterator's contract over the abstract machine: m rounds, the k-th with the values enc k, while Fa holds of the heap. -/
def IterSpec (P : Program) (gf : FuncId) (cs : List Value) (m : Nat) (enc : Nat → Array Value) (Fa : Heap → Prop) : Prop :=
  (∀ args w, (callFunc gf args).run P w = .ok (.enter gf args) w) ∧
  ∀ (base : Nat) (w0 : World) (ρs : Ren) (g : Heap) (n : Nat) (w : World) (lb : Array Value), HR base w0 ρs g (· < n) w → Fa g → All2 (VR ρs g) cs lb.toList →
    ∃ Fs : Nat → World → Prop, SeqN 1 P gf lb m enc Fs ∧ ∀ k ρ g' n' W, Fa g' → HR base w0 ρ g' (· < n') W → Mono ρs g (· < n) ρ g' → Fs k W

def noDefer (o : Oper) : Bool := match o.op with
  | .defer _ => false
  | _ => true
theorem noDefer_spec {ops : Array Oper} (h : ops.toList.all noDefer = true) : ∀ o ∈ ops.toList, ∀ c, o.op ≠ .defer c := fun o ho c e => by
  have := List.all_eq_true.1 h o ho
  simp [noDefer, e] at this

/-- What a range over a function needs; K: of the state behind it. -/
def RF (P : Program) (fo : Operand) (ps : Array Tmp) (asg body : Code) (K : Heap → Nat → Prop) (t : Nat → Value) (g : Heap) (n : Nat) : Prop :=
  ∃ (ia ib bb : Nat) (opa opb : Array Oper) (gf : FuncId) (cs : Array Value) (m : Nat) (enc : Nat → Array Value) (Fa : Heap → Prop) (J : Nat → Heap → Nat → Prop),
    asg = .region ia opa false ∧ body = .block bb (.region ib opb false) ∧ evl t fo = .iface gf (.agg cs) ∧ IterSpec P gf cs.toList m enc Fa ∧ (∀ k, (enc k).size = ps.size ∧ ∀ v ∈ (enc k).toList, plain v = true) ∧
    J 0 g n ∧ (∀ k g n, J k g n → Fa g) ∧
    (∀ k g n, k < m → J k g n → awpOps P opa (fun t' g' n' => g' = g ∧ n' = n ∧ awpOps P opb (fun _ g'' n'' => J (k + 1) g'' n'') opb.toList t' g n) opa.toList (rt t ps (enc k)) g n) ∧
    ∀ g n, J m g n → K g n

def okRF (N : Nat) (fo : Operand) (ps : Array Tmp) : Code → Code → Bool
  | .region _ opa _, .block _ (.region _ opb _) => okOperand fo && ps.toList.all (fun p => decide (p < N)) && opa.toList.all (okOper N) && opb.toList.all (okOper N) && opa.toList.all noDefer && opb.toList.all noDefer
  | _, _ => false

/-- The deferred calls that ranges over functions have left: none was asked for. -/
def Marks (base : Nat) (w0 : World) (ds : List Deferred) (w : World) : Prop :=
  ∃ Ds : List Nat, ds = Ds.map (fun D => { target := .collected D, args := #[] }) ∧ Ds.Nodup ∧ ∀ D ∈ Ds, base ≤ D ∧ w0.heap.size ≤ D ∧ w.heap[D]? = some (.deferred (some []))
theorem Marks.nil (base : Nat) (w0 w : World) : Marks base w0 [] w := ⟨[], rfl, by simp, by simp⟩
theorem Marks.keep {base : Nat} {w0 w w' : World} {ds : List Deferred} (h : Marks base w0 ds w) (hk : KeepsOthers w w') : Marks base w0 ds w' := by
  obtain ⟨Ds, h1, h2, h3⟩ := h
  exact ⟨Ds, h1, h2, fun D hD => by obtain ⟨a, b, c⟩ := h3 D hD; exact ⟨a, b, hk.same D _ c rfl⟩⟩

theorem leaves_marks {P : Program} {fn : Func} {tmps : Array Value} {R : Ending → World → Prop} {v : Value} {base : Nat} {w0 : World} {ρ : Ren} {g : Heap} {s : Nat → Prop} (n : Nat) (hres : ∀ w, (results fn tmps).run P w = .ok v w) (hR : ∀ w', HR base w0 ρ g s w' → R (.returned v) w') :
    ∀ (Ds : List Nat) (w : World), Ds.Nodup → (∀ D ∈ Ds, base ≤ D ∧ w0.heap.size ≤ D ∧ w.heap[D]? = some (.deferred (some []))) → HR base w0 ρ g s w → LeavesInM Fence.wide n P fn tmps R (Ds.map fun D => { target := .collected D, args := #[] }) .returning w
  | [], w, _, _, h => ⟨v, hres w, hR w h⟩
  | D :: Ds, w, hn, hd, h => by
    rw [List.nodup_cons] at hn
    obtain ⟨h1, h2, h3⟩ := hd D (by simp)
    have h' : HR base w0 ρ g s (w.putObj D (.deferred none)) := h.others (grownBy_putObj' w D _) (fun r e => by cases e; exact ⟨h1, h2, _, h3, rfl⟩)
    refine ⟨by simp, .inl ⟨D, _, rfl, run_takeDeferred h3, leaves_marks n hres hR Ds _ hn.2 (fun D' hD' => ?_) h'⟩⟩
    obtain ⟨a, b, c⟩ := hd D' (by simp [hD'])
    exact ⟨a, b, (World.putObj_heap_other (fun e => hn.1 (by rw [← e]; exact hD'))).trans c⟩
end Go.Proofs.Ytdpkhijbikbhnaa.Abs

/-
  The abstract machine, part 9: code, and a function's contract out of its body.
-/
namespace Go.Proofs.Ytdpkhijbikbhnaa.Abs
open Go Go.RowKit

abbrev FP := Nat × List Nat × List Nat

/-- The operations of a statement whose order is open, in the text's order; acc: what was looked at and written so far. -/
def awpD (P : Program) (ops : Array Oper) (bf : Array Nat) (K : (Nat → Value) → Heap → Nat → Prop) : List Oper → Nat → List FP → (Nat → Value) → Heap → Nat → Prop
  | [], _, _, t, g, n => K t g n
  | o :: rest, idx, acc, t, g, n => ∃ b, awant ops o t = some b ∧
    if b then ∃ f, Stp P o.op (evl t) g n f ∧
      (∀ p ∈ acc, (bf.getD idx 0).testBit p.1 = true ∨ ((∀ x ∈ p.2.2, x ∉ f.r ∧ x ∉ f.wr) ∧ ∀ x ∈ p.2.1, x ∉ f.wr)) ∧
      awpD P ops bf K rest (idx + 1) (if f.r.isEmpty && f.wr.isEmpty then acc else (idx, f.r, f.wr) :: acc) (put t o.dst f.v) (f.ap g) (n + f.a.length)
    else awpD P ops bf K rest (idx + 1) acc (put t o.dst undef) g n

section
variable {P : Program} {ops : Array Oper} {bf : Array Nat} {t0 : Nat → Value} {g0 : Heap} {n0 : Nat}

theorem tD_congr {E E' : Nat → Option Eff} {sel : Nat → Bool} (m : Nat) : (∀ k, k < m → E' k = E k) → tD ops E' sel t0 m = tD ops E sel t0 m ∧ gD E' sel g0 m = gD E sel g0 m ∧ nD E' n0 m = nD E n0 m := by
  induction m with
  | zero => intro _; exact ⟨rfl, rfl, rfl⟩
  | succ m ih =>
    intro h
    obtain ⟨h1, h2, h3⟩ := ih (fun k hk => h k (by omega))
    have he := h m (by omega)
    simp only [tD, gD, nD, h1, h2, h3, valOf, apOf, lenOf, he, and_self]

structure RunTo (P : Program) (ops : Array Oper) (bf : Array Nat) (E : Nat → Option Eff) (t0 : Nat → Value) (g0 : Heap) (n0 m : Nat) : Prop where
  want : ∀ (i : Nat) (o : Oper), i < m → ops[i]? = some o → awant ops o (tD ops E allSel t0 i) = some (E i).isSome
  step : ∀ (i : Nat) (o : Oper) (f : Eff), i < m → ops[i]? = some o → E i = some f → Stp P o.op (evl (tD ops E allSel t0 i)) (gD E allSel g0 i) (nD E n0 i) f
  pair : ∀ (i k : Nat) (f f' : Eff), i < k → k < m → E i = some f → E k = some f' → (bf.getD k 0).testBit i = true ∨ Disj f f'

theorem RunTo.ext {E E' : Nat → Option Eff} {m : Nat} (h : RunTo P ops bf E t0 g0 n0 m) (he : ∀ k, k < m → E' k = E k) : RunTo P ops bf E' t0 g0 n0 m := by
  refine ⟨fun i o hi ho => ?_, fun i o f hi ho hf => ?_, fun i k f f' hik hk hf hf' => ?_⟩
  · rw [(tD_congr (ops := ops) (g0 := g0) (n0 := n0) (t0 := t0) (sel := allSel) i (fun k hk => he k (by omega))).1, he i hi]
    exact h.want i o hi ho
  · obtain ⟨h1, h2, h3⟩ := tD_congr (ops := ops) (g0 := g0) (n0 := n0) (t0 := t0) (sel := allSel) i (fun k hk => he k (by omega))
    rw [h1, h2, h3]
    exact h.step i o f hi ho (by rw [← he i hi]; exact hf)
  · exact h.pair i k f f' hik hk (by rw [← he i (by omega)]; exact hf) (by rw [← he k hk]; exact hf')

theorem awpD_run {K : (Nat → Value) → Heap → Nat → Prop} : ∀ (rest : List Oper) (idx : Nat) (acc : List FP) (E : Nat → Option Eff), ops.toList.drop idx = rest → idx ≤ ops.size →
    RunTo P ops bf E t0 g0 n0 idx → (∀ i f, i < idx → E i = some f → (f.r = [] ∧ f.wr = []) ∨ (i, f.r, f.wr) ∈ acc) →
    awpD P ops bf K rest idx acc (tD ops E allSel t0 idx) (gD E allSel g0 idx) (nD E n0 idx) →
    ∃ E', Run P ops bf E' t0 g0 n0 ∧ K (tD ops E' allSel t0 ops.size) (gD E' allSel g0 ops.size) (nD E' n0 ops.size)
  | [], idx, acc, E, hd, hle, hr, ha, h => by
    have he : idx = ops.size := by
      have := congrArg List.length hd
      simp at this
      omega
    subst he
    exact ⟨E, ⟨fun i o ho => hr.want i o (Array.getElem?_eq_some_iff.1 ho).1 ho, fun i o f ho hf => hr.step i o f (Array.getElem?_eq_some_iff.1 ho).1 ho hf, fun i k f f' hik hk => hr.pair i k f f' hik hk⟩, h⟩
  | o :: rest, idx, acc, E, hd, hle, hr, ha, h => by
    have hlt : idx < ops.size := by
      have := congrArg List.length hd
      simp at this
      omega
    have ho : ops[idx]? = some o := by
      have : (ops.toList.drop idx)[0]? = some o := by rw [hd]; rfl
      simpa using this
    have hd' : ops.toList.drop (idx + 1) = rest := by
      have := congrArg List.tail hd
      simpa using this
    obtain ⟨b, hb, h⟩ := h
    cases b with
    | false =>
      simp only [Bool.false_eq_true, if_false] at h
      let E' := upd E idx none
      have hE : ∀ k, k < idx → E' k = E k := fun k hk => upd_ne _ _ (by omega)
      obtain ⟨c1, c2, c3⟩ := tD_congr (ops := ops) (g0 := g0) (n0 := n0) (t0 := t0) (sel := allSel) idx hE
      have hEi : E' idx = none := upd_self _ _ _
      have hr0 := hr.ext hE
      refine awpD_run rest (idx + 1) acc E' hd' (by omega) ⟨fun i o' hi ho' => ?_, fun i o' f hi ho' hf => ?_, fun i k f f' hik hk hf hf' => ?_⟩ (fun i f hi hf => ?_) ?_
      · by_cases e : i = idx
        · subst e
          rw [ho] at ho'; cases ho'
          rw [c1, hEi]; exact hb
        · exact hr0.want i o' (by omega) ho'
      · by_cases e : i = idx
        · subst e; rw [hEi] at hf; cases hf
        · exact hr0.step i o' f (by omega) ho' hf
      · by_cases e : k = idx
        · subst e; rw [hEi] at hf'; cases hf'
        · exact hr0.pair i k f f' hik (by omega) hf hf'
      · by_cases e : i = idx
        · subst e; rw [hEi] at hf; cases hf
        · exact ha i f (by omega) (by rw [← hE i (by omega)]; exact hf)
      · have d1 : tD ops E' allSel t0 (idx + 1) = put (tD ops E allSel t0 idx) o.dst undef := by
          rw [tD, c1]; simp [allSel, dstOf, ho, valOf, hEi]
        have d2 : gD E' allSel g0 (idx + 1) = gD E allSel g0 idx := by rw [gD, c2]; simp [allSel, apOf, hEi]
        have d3 : nD E' n0 (idx + 1) = nD E n0 idx := by rw [nD, c3]; simp [lenOf, hEi]
        rw [d1, d2, d3]
        exact h
    | true =>
      simp only [if_true] at h
      obtain ⟨f, hf, hp, h⟩ := h
      let E' := upd E idx (some f)
      have hE : ∀ k, k < idx → E' k = E k := fun k hk => upd_ne _ _ (by omega)
      obtain ⟨c1, c2, c3⟩ := tD_congr (ops := ops) (g0 := g0) (n0 := n0) (t0 := t0) (sel := allSel) idx hE
      have hEi : E' idx = some f := upd_self _ _ _
      have hr0 := hr.ext hE
      refine awpD_run rest (idx + 1) (if f.r.isEmpty && f.wr.isEmpty then acc else (idx, f.r, f.wr) :: acc) E' hd' (by omega) ⟨fun i o' hi ho' => ?_, fun i o' f' hi ho' hf' => ?_, fun i k f1 f2 hik hk hf1 hf2 => ?_⟩ (fun i f' hi hf' => ?_) ?_
      · by_cases e : i = idx
        · subst e
          rw [ho] at ho'; cases ho'
          rw [c1, hEi]; exact hb
        · exact hr0.want i o' (by omega) ho'
      · by_cases e : i = idx
        · subst e
          rw [ho] at ho'; cases ho'
          rw [hEi] at hf'; cases hf'
          rw [c1, c2, c3]; exact hf
        · exact hr0.step i o' f' (by omega) ho' hf'
      · by_cases e : k = idx
        · subst e
          rw [hEi] at hf2; cases hf2
          have hf1' : E i = some f1 := by rw [← hE i hik]; exact hf1
          rcases ha i f1 hik hf1' with ⟨e1, e2⟩ | hm
          · right
            refine ⟨fun b hb => ?_, fun b hb => ?_⟩
            · rw [e2] at hb; simp at hb
            · rw [e1] at hb; simp at hb
          · rcases hp _ hm with h1 | h1
            · exact .inl h1
            · exact .inr h1
        · exact hr0.pair i k f1 f2 hik (by omega) hf1 hf2
      · by_cases e : i = idx
        · subst e
          rw [hEi] at hf'; cases hf'
          by_cases hemp : (f.r.isEmpty && f.wr.isEmpty) = true
          · simp only [Bool.and_eq_true, List.isEmpty_iff] at hemp
            exact .inl hemp
          · right; rw [if_neg hemp]; simp
        · rcases ha i f' (by omega) (by rw [← hE i (by omega)]; exact hf') with h1 | h1
          · exact .inl h1
          · right
            split
            · exact h1
            · simp [h1]
      · have d1 : tD ops E' allSel t0 (idx + 1) = put (tD ops E allSel t0 idx) o.dst f.v := by
          rw [tD, c1]; simp [allSel, dstOf, ho, valOf, hEi]
        have d2 : gD E' allSel g0 (idx + 1) = f.ap (gD E allSel g0 idx) := by rw [gD, c2]; simp [allSel, apOf, hEi]
        have d3 : nD E' n0 (idx + 1) = nD E n0 idx + f.a.length := by rw [nD, c3]; simp [lenOf, hEi]
        rw [d1, d2, d3]
        exact h
end

abbrev AQ := Exit → (Nat → Value) → Heap → Nat → Prop

def athen (next : (Nat → Value) → Heap → Nat → Prop) (Q : AQ) : AQ
  | .normal, t, g, n => next t g n
  | e, t, g, n => Q e t g n

def ainBlock (id : Nat) (Q : AQ) : AQ
  | .exit id', t, g, n => if id' = id then Q .normal t g n else Q (.exit id') t g n
  | e, t, g, n => Q e t g n

def awp (P : Program) : Code → AQ → (Nat → Value) → Heap → Nat → Prop
  | .skip, Q, t, g, n => Q .normal t g n
  | .region _ ops false, Q, t, g, n => awpOps P ops (Q .normal) ops.toList t g n
  | .region _ ops true, Q, t, g, n => ∃ bf, drawOK ops bf = true ∧ awpD P ops bf (Q .normal) ops.toList 0 [] t g n
  | .seq a b, Q, t, g, n => awp P a (athen (awp P b Q) Q) t g n
  | .cond c x y, Q, t, g, n => ∃ b, evl t c = .bool b ∧ (b = true → awp P x Q t g n) ∧ (b = false → awp P y Q t g n)
  | .block id c, Q, t, g, n => awp P c (ainBlock id Q) t g n
  | .loop c, Q, t, g, n => ∃ (I : (Nat → Value) → Heap → Nat → Prop) (μ : (Nat → Value) → Heap → Nat → Nat), I t g n ∧
      ∀ t g n, I t g n → awp P c (athen (fun t' g' n' => I t' g' n' ∧ μ t' g' n' < μ t g n) Q) t g n
  | .exit id, Q, t, g, n => Q (.exit id) t g n
  | .ret, Q, t, g, n => Q .ret t g n
  | .rangeFunc fo ps asg body, Q, t, g, n => RF P fo ps asg body (fun g n => Q .normal t g n) t g n
  | _, _, _, _, _ => False

def okCode (N : Nat) : Code → Bool
  | .region _ ops _ => ops.toList.all (okOper N)
  | .seq a b => okCode N a && okCode N b
  | .cond c x y => okOperand c && okCode N x && okCode N y
  | .block _ c => okCode N c
  | .loop c => okCode N c
  | .rangeFunc fo ps asg body => okRF N fo ps asg body
  | _ => true

section
variable {P : Program} {N base : Nat} {w0 : World} {ρ0 : Ren} {gg : Heap} {ss : Nat → Prop}

/-- A world and a frame that hold an abstract state. -/
structure Holds (N base : Nat) (w0 : World) (ρ0 : Ren) (gg : Heap) (ss : Nat → Prop) (t : Nat → Value) (g : Heap) (n : Nat) (a : Act) (w : World) : Prop where
  ex : ∃ ρ ds, HR base w0 ρ g (· < n) w ∧ TR ds N ρ g (· < n) t a ∧ Mono ρ0 gg ss ρ g ∧ (∀ i, ss i → i < n) ∧ Marks base w0 ds w

def Lift (N base : Nat) (w0 : World) (ρ0 : Ren) (gg : Heap) (ss : Nat → Prop) (Q : AQ) : Exit → Act → World → Prop :=
  fun e a w => ∃ t g n, Q e t g n ∧ Holds N base w0 ρ0 gg ss t g n a w

open Classical in
theorem awp_sound (hm : P.follows .mixedOrders = true) : ∀ (c : Code) (Q : AQ) (t : Nat → Value) (g : Heap) (n : Nat) (a : Act) (w : World), okCode N c = true → awp P c Q t g n →
    Holds N base w0 ρ0 gg ss t g n a w → c.wp P (Lift N base w0 ρ0 gg ss Q) a w := by
  intro c
  induction c with
  | skip => exact fun Q t g n a w _ h hh => wp_skip ⟨t, g, n, h, hh⟩
  | exit id => exact fun Q t g n a w _ h hh => wp_exit ⟨t, g, n, h, hh⟩
  | ret => exact fun Q t g n a w _ h hh => wp_ret ⟨t, g, n, h, hh⟩
  | region id ops draw =>
    intro Q t g n a w hok h hh
    have hok' : ∀ o ∈ ops.toList, okOper N o = true := fun o ho => List.all_eq_true.1 hok o ho
    obtain ⟨ρ, ds, hR, hT, hM, hS, hMk⟩ := hh.ex
    cases draw with
    | false =>
      refine wp_region_list (awpOps_sound (base := base) (w0 := w) (ρ0 := ρ) (g0 := g) (s0 := (· < n)) (fun ρ' t' g' n' w' a' hk hR' hT' hM' hS' => ⟨t', g', n', hk, ⟨ρ', ds, hR.from hR', hT', hM.trans hS hM', fun i hi => hS' i (hS i hi), hMk.keep hR'.oth⟩⟩) ops.toList ρ t g n w a hok' h hR.here hT (Mono.refl _ _ _) (fun i hi => hi))
    | true =>
      obtain ⟨bf, hd, h⟩ := h
      have hd' := drawOK_spec hd
      obtain ⟨E, hrun, hK⟩ := awpD_run (P := P) (ops := ops) (bf := bf) (t0 := t) (g0 := g) (n0 := n) (K := Q .normal) ops.toList 0 [] (fun _ => none) (by simp) (by omega)
        ⟨fun i o hi => by omega, fun i o f hi => by omega, fun i k f f' _ hk => by omega⟩ (fun i f hi => by omega) h
      have hnone : ∀ (k : Nat), selOf (Array.replicate ops.size false) k = false := by
        intro k
        simp only [selOf, Array.getD]
        split <;> simp
      have e1 : ∀ m, tD ops E (selOf (Array.replicate ops.size false)) t m = t ∧ gD E (selOf (Array.replicate ops.size false)) g m = g := by
        intro m
        induction m with
        | zero => exact ⟨rfl, rfl⟩
        | succ m ih => rw [tD, gD, hnone m, ih.1, ih.2]; simp
      have e2 : ∀ i, sD E (selOf (Array.replicate ops.size false)) n ops.size i ↔ i < n := by
        intro i
        refine ⟨fun hi => ?_, .inl⟩
        rcases hi with hi | ⟨k, f, _, hs, _⟩
        · exact hi
        · rw [hnone k] at hs; cases hs
      have e3 : sD E (selOf (Array.replicate ops.size false)) n ops.size = (· < n) := funext fun i => propext (e2 i)
      refine wp_region_any hm (draw_sound (ds := ds) (N := N) (base := base) (w0 := w) (ρ0 := ρ) (gg := g) (ss := (· < n)) hd' hrun hok' (fun ρ' w' a' hR' hT' hM' hS' => ⟨_, _, _, hK, ⟨ρ', ds, hR.from hR', hT', hM.trans hS hM', fun i hi => hS' i (hS i hi), hMk.keep hR'.oth⟩⟩) ops.size _ ρ _ a (by simp) ?_ ?_ ?_ ?_ ?_ (fun i hi => hi))
      · intro j o _ hs; rw [hnone j] at hs; cases hs
      · unfold unlisted
        rw [List.countP_eq_length.2 (fun k _ => by simp [hnone k])]
        simp
      · rw [(e1 _).2, e3]
        exact hR.here.world rfl ⟨hR.here.below.os, hR.here.below.tape, hR.here.below.output, hR.here.below.size, hR.here.below.block⟩
      · rw [(e1 _).1, (e1 _).2, e3]; exact hT
      · rw [(e1 _).2]; exact Mono.refl _ _ _
  | seq x y ihx ihy =>
    intro Q t g n a w hok h hh
    simp only [okCode, Bool.and_eq_true] at hok
    refine wp_seq (Code.wp_mono ?_ (ihx _ t g n a w hok.1 h hh))
    intro e a' w' he
    obtain ⟨t', g', n', hq, hh'⟩ := he
    cases e with
    | normal => exact ihy Q t' g' n' a' w' hok.2 hq hh'
    | exit id => exact ⟨t', g', n', hq, hh'⟩
    | goto l => exact ⟨t', g', n', hq, hh'⟩
    | ret => exact ⟨t', g', n', hq, hh'⟩
    | panic ch => exact ⟨t', g', n', hq, hh'⟩
    | outgrown => exact ⟨t', g', n', hq, hh'⟩
  | cond c x y ihx ihy =>
    intro Q t g n a w hok h hh
    simp only [okCode, Bool.and_eq_true] at hok
    obtain ⟨b, hb, h1, h2⟩ := h
    obtain ⟨ρ, ds, hR, hT, hM, hS, _⟩ := hh.ex
    have hv := hT.eval hok.1.1
    rw [hb, VV_bool] at hv
    refine wp_cond hv ?_
    cases b with
    | true => exact ihx Q t g n a w hok.1.2 (h1 rfl) hh
    | false => exact ihy Q t g n a w hok.2 (h2 rfl) hh
  | block id c ih =>
    intro Q t g n a w hok h hh
    refine wp_block (Code.wp_mono ?_ (ih _ t g n a w hok h hh))
    intro e a' w' he
    obtain ⟨t', g', n', hq, hh'⟩ := he
    cases e with
    | normal => exact ⟨t', g', n', hq, hh'⟩
    | exit id' =>
      simp only [ainBlock] at hq
      simp only [Exit.inBlock]
      split at hq
      · rename_i e; rw [if_pos e]; exact ⟨t', g', n', hq, hh'⟩
      · rename_i e; rw [if_neg e]; exact ⟨t', g', n', hq, hh'⟩
    | goto l => exact ⟨t', g', n', hq, hh'⟩
    | ret => exact ⟨t', g', n', hq, hh'⟩
    | panic ch => exact ⟨t', g', n', hq, hh'⟩
    | outgrown => exact ⟨t', g', n', hq, hh'⟩
  | loop c ih =>
    intro Q t g n a w hok h hh
    obtain ⟨I, μ, hI, hround⟩ := h
    -- the least measure of a state that the world holds
    let S : Act → World → Nat → Prop := fun a w m => ∃ t g n, I t g n ∧ Holds N base w0 ρ0 gg ss t g n a w ∧ μ t g n = m
    have least : ∀ (p : Nat → Prop), (∃ m, p m) → ∃ m, p m ∧ ∀ k, p k → m ≤ k := by
      intro p ⟨m, hm⟩
      induction m using Nat.strongRecOn with
      | _ m ihm =>
        by_cases hlt : ∃ k, k < m ∧ p k
        · obtain ⟨k, hk, hp⟩ := hlt
          exact ihm k hk hp
        · exact ⟨m, hm, fun k hk => Nat.le_of_not_lt fun h => hlt ⟨k, h, hk⟩⟩
    let M : Act → World → Nat := fun a w => if h : ∃ m, S a w m then Classical.choose (least _ h) else 0
    have hM : ∀ a w (h : ∃ m, S a w m), S a w (M a w) ∧ ∀ k, S a w k → M a w ≤ k := by
      intro a w h
      have : M a w = Classical.choose (least _ h) := by simp only [M]; rw [dif_pos h]
      rw [this]
      exact Classical.choose_spec (least _ h)
    refine wp_loop (fun a w => ∃ m, S a w m) M ⟨_, t, g, n, hI, hh, rfl⟩ fun a' w' hex => ?_
    obtain ⟨⟨t', g', n', hI', hh', hμ⟩, _⟩ := hM a' w' hex
    refine Code.wp_mono ?_ (ih _ t' g' n' a' w' hok (hround t' g' n' hI') hh')
    intro e a'' w'' he
    obtain ⟨t2, g2, n2, hq, hh2⟩ := he
    cases e with
    | normal =>
      obtain ⟨hI2, hlt⟩ := hq
      refine ⟨⟨_, t2, g2, n2, hI2, hh2, rfl⟩, ?_⟩
      have := (hM a'' w'' ⟨_, t2, g2, n2, hI2, hh2, rfl⟩).2 _ ⟨t2, g2, n2, hI2, hh2, rfl⟩
      show M a'' w'' < M a' w'
      omega
    | exit id => exact ⟨t2, g2, n2, hq, hh2⟩
    | goto l => exact ⟨t2, g2, n2, hq, hh2⟩
    | ret => exact ⟨t2, g2, n2, hq, hh2⟩
    | panic ch => exact ⟨t2, g2, n2, hq, hh2⟩
    | outgrown => exact ⟨t2, g2, n2, hq, hh2⟩
  | rangeFunc fo ps asg body _ _ =>
    intro Q t g n a w hok h hh
    obtain ⟨ia, ib, bb, opa, opb, gf, cs, m, enc, Fa, J, rfl, rfl, hev, ⟨heg, hit⟩, hen, h0, hJF, hrd, hend⟩ := h
    obtain ⟨ρ, ds, hR, hT, hM, hS, hMk⟩ := hh.ex
    simp only [okCode, okRF, Bool.and_eq_true] at hok
    obtain ⟨⟨⟨⟨⟨o1, o2⟩, o3⟩, o4⟩, o5⟩, o6⟩ := hok
    have hv := hT.eval o1
    rw [hev, VV_clo] at hv
    obtain ⟨⟨lb, he, hcs⟩, hsv⟩ := hv
    obtain ⟨Fs, hseq, hFs⟩ := hit base w0 ρ g n w lb hR (hJF 0 g n h0) hcs
    refine Code.wp_mono ?_ (rangeFunc_sound he heg hseq (fun k => (hen k).1) (fun k p hp => ?_) o3 (noDefer_spec o5) o4 (noDefer_spec o6) hR hT J h0 (fun k ρ' g' n' W hJ hR' hM' => hFs k ρ' g' n' W (hJF _ _ _ hJ) hR' hM') hrd)
    · rintro e a' W' ⟨rfl, ρ', g', n', hJ, hR', hT', hM', hle, hD, hold⟩
      refine ⟨t, g', n', hend g' n' hJ, ⟨ρ', _, hR', hT', hM.trans hS hM', fun i hi => Nat.lt_of_lt_of_le (hS i hi) hle, ?_⟩⟩
      obtain ⟨Ds, rfl, hnd, hD'⟩ := hMk
      refine ⟨w.heap.size :: Ds, rfl, ?_, fun D hDm => ?_⟩
      · rw [List.nodup_cons]
        refine ⟨fun hm => ?_, hnd⟩
        have := (Array.getElem?_eq_some_iff.1 (hD' _ hm).2.2).1
        omega
      · rcases List.mem_cons.1 hDm with rfl | hDm
        · exact ⟨hR.hb, hR.oth.size, hD⟩
        · obtain ⟨q1, q2, q3⟩ := hD' D hDm
          exact ⟨q1, q2, hold D _ q3 rfl⟩
    · have hp' : p ∈ ps.toList.zip (enc k).toList := by simpa using hp
      obtain ⟨q1, q2⟩ := List.of_mem_zip hp'
      exact ⟨of_decide_eq_true (List.all_eq_true.1 o2 _ q1), (hen k).2 _ q2⟩
  | _ => intro Q t g n a w _ h; exact h.elim
end

-- renaming
def ren1 (σ : Nat → Nat) : Value → Value
  | .pointer (some a) => .pointer (some { a with block := σ a.block })
  | .slice (some a) l e => .slice (some (if a.spot.isSome then { a with block := σ a.block } else a)) l e
  | v => v

def renA (σ : Nat → Nat) : Value → Value
  | .agg cs => .agg (cs.map (ren1 σ))
  | v => ren1 σ v

def renT (σ : Nat → Nat) : Value → Value
  | .tuple vs => .tuple (vs.map (renA σ))
  | .iface k (.agg cs) => .iface k (.agg (cs.map (ren1 σ)))
  | v => renA σ v

def renB (σ : Nat → Nat) (b : Blk) : Blk := { b with cells := b.cells.map (ren1 σ) }

def sig (f : Eff) (ids : List Nat) : Nat → Nat := fun i => if f.j ≤ i then (ids[i - f.j]?).getD i else i

/-- What stands behind a body is what the effect says, its new blocks under other numbers (ids), and more that nobody knows of. -/
structure Fin (f : Eff) (ids : List Nat) (s2 : Nat → Prop) (g2 : Heap) (n : Nat) (g' : Heap) (v' : Value) : Prop where
  len : ids.length = f.a.length
  new : ∀ x ∈ ids, n ≤ x
  nodup : ids.Nodup
  val : v' = renT (sig f ids) f.v
  blk : ∀ (m : Nat) (b : Blk), f.a[m]? = some b → ∃ x, ids[m]? = some x ∧ g' x = some (renB (sig f ids) b)
  wrt : ∀ i, i ∈ f.w.map (·.1) → ∃ b, setAll g2 f.w i = some b ∧ g' i = some (renB (sig f ids) b)
  wdom : ∀ i, i ∈ f.w.map (·.1) → (g2 i).isSome = true
  old : ∀ i b, i ∉ f.w.map (·.1) → g2 i = some b → g' i = some b
  sv : SVT (f.sn s2) f.v
  sva : ∀ b ∈ f.a, ∀ c ∈ b.cells, SV1 (f.sn s2) c
  svw : ∀ p ∈ f.w, ∀ c ∈ p.2.cells, SV1 (f.sn s2) c

end Go.Proofs.Ytdpkhijbikbhnaa.Abs

/-
  The abstract machine, part 10: a function's contract out of its body.
-/
namespace Go.Proofs.Ytdpkhijbikbhnaa.Abs
open Go Go.RowKit

section
variable {f : Eff} {ids : List Nat} {s2 : Nat → Prop} {g2 : Heap} {n n' : Nat} {g' : Heap} {v' : Value} {base : Nat} {w0 w w' : World} {ρ ρ' : Ren}

theorem sig_old (hF : Fin f ids s2 g2 n g' v') (hfr : Fresh f s2) {i : Nat} (hi : s2 i) : sig f ids i = i := by
  unfold sig
  split
  · rename_i h
    have : ¬ i < f.j + f.a.length := fun h2 => hfr i h h2 hi
    rw [List.getElem?_eq_none (by rw [hF.len]; omega)]
    rfl
  · rfl

theorem sig_new (hF : Fin f ids s2 g2 n g' v') {i : Nat} (h1 : f.j ≤ i) (h2 : i < f.j + f.a.length) : ∃ h : i - f.j < ids.length, sig f ids i = ids[i - f.j] := by
  have h : i - f.j < ids.length := by rw [hF.len]; omega
  refine ⟨h, ?_⟩
  unfold sig
  rw [if_pos h1, List.getElem?_eq_getElem h]
  rfl

theorem ren1_old {σ : Nat → Nat} {s : Nat → Prop} (hσ : ∀ i, s i → σ i = i) {c : Value} (hc : SV1 s c) : ren1 σ c = c := by
  cases c with
  | pointer a => cases a with
    | none => rfl
    | some a => simp only [ren1, hσ a.block hc]
  | slice a l e => cases a with
    | none => rfl
    | some a =>
      simp only [ren1]
      split
      · rename_i h
        rcases hc with hc | hc
        · rw [hc] at h; cases h
        · rw [hσ a.block hc]
      · rfl
  | _ => rfl

theorem addAll_get : ∀ {l : List Blk} {g : Heap} {j m : Nat} {b : Blk}, l[m]? = some b → addAll g j l (j + m) = some b
  | [], _, _, _, _, h => by simp at h
  | x :: l, g, j, m, b, h => by
    rw [addAll]
    cases m with
    | zero =>
      simp at h
      subst h
      rw [addAll_out (by omega)]
      simp
    | succ m =>
      simp at h
      have := addAll_get (l := l) (g := upd g j (some x)) (j := j + 1) h
      rw [show j + (m + 1) = j + 1 + m by omega]
      exact this

theorem setAll_mem : ∀ {l : List (Nat × Blk)} {g : Heap} {i : Nat} {b : Blk}, i ∈ l.map (·.1) → setAll g l i = some b → ∃ p ∈ l, p.2 = b
  | [], _, _, _, h, _ => by simp at h
  | (k, x) :: l, g, i, b, h, hb => by
    rw [setAll] at hb
    by_cases hm : i ∈ l.map (·.1)
    · obtain ⟨p, hp, e⟩ := setAll_mem hm hb
      exact ⟨p, by simp [hp], e⟩
    · rw [setAll_out hm] at hb
      simp only [List.map_cons, List.mem_cons] at h
      rcases h with rfl | h
      · simp at hb
        exact ⟨(i, x), by simp, hb⟩
      · exact absurd h hm

theorem ap_cases (hF : Fin f ids s2 g2 n g' v') (hfr : Fresh f s2) (h0 : HR base w0 ρ g2 s2 w) {i : Nat} {b : Blk} (hb : f.ap g2 i = some b) :
    g' (sig f ids i) = some (renB (sig f ids) b) ∧ f.sn s2 i ∧ (∀ c ∈ b.cells, SV1 (f.sn s2) c) ∧ (sig f ids i = i ∧ i < n ∨ (f.j ≤ i ∧ i < f.j + f.a.length ∧ n ≤ sig f ids i)) ∨ ¬ (∀ i, s2 i → i < n) := by
  by_cases hn : ∀ i, s2 i → i < n
  case neg => exact .inr hn
  left
  by_cases hr : f.j ≤ i ∧ i < f.j + f.a.length
  · obtain ⟨h1, h2⟩ := hr
    obtain ⟨hlt, hs⟩ := sig_new hF h1 h2
    have hm : f.a[i - f.j]? = some f.a[i - f.j] := List.getElem?_eq_getElem (by omega)
    have hb' : f.ap g2 i = some f.a[i - f.j] := by
      have := addAll_get (g := setAll g2 f.w) (j := f.j) hm
      rw [show f.j + (i - f.j) = i by omega] at this
      exact this
    rw [hb] at hb'
    cases hb'
    obtain ⟨x, hx, hg⟩ := hF.blk _ _ hm
    rw [List.getElem?_eq_getElem hlt] at hx
    cases hx
    refine ⟨by rw [hs]; exact hg, .inr ⟨h1, h2⟩, hF.sva _ (List.mem_of_getElem? hm), .inr ⟨h1, h2, ?_⟩⟩
    rw [hs]
    exact hF.new _ (List.getElem_mem _)
  · have hout : f.ap g2 i = setAll g2 f.w i := by
      unfold Eff.ap
      rw [addAll_out (by omega)]
    rw [hout] at hb
    by_cases hw : i ∈ f.w.map (·.1)
    · obtain ⟨b', h1, h2⟩ := hF.wrt i hw
      rw [hb] at h1
      cases h1
      obtain ⟨b0, hb0⟩ := Option.isSome_iff_exists.1 (hF.wdom i hw)
      have hsi := h0.seen i b0 hb0
      have hσ := sig_old hF hfr hsi
      obtain ⟨p, hp, e⟩ := setAll_mem hw hb
      refine ⟨by rw [hσ]; exact h2, .inl hsi, fun c hc => hF.svw p hp c (by rw [e]; exact hc), .inl ⟨hσ, hn i hsi⟩⟩
    · rw [setAll_out hw] at hb
      have hsi := h0.seen i b hb
      have hσ := sig_old hF hfr hsi
      have hren : renB (sig f ids) b = b := by
        unfold renB
        have : b.cells.map (ren1 (sig f ids)) = b.cells := by
          exact (List.map_congr_left (f := ren1 (sig f ids)) (g := id) (fun c hc => ren1_old (fun i hi => sig_old hF hfr hi) (h0.wf i b hb c hc))).trans (by simp)
        rw [this]
      exact ⟨by rw [hσ, hren]; exact hF.old i b hw hb, .inl hsi, fun c hc => SV1.imp (fun _ => .inl) (h0.wf i b hb c hc), .inl ⟨hσ, hn i hsi⟩⟩

theorem VR_ren (σ : Nat → Nat) {g' G : Heap} {ρ' : Ren} (hG : ∀ i b, G i = some b → g' (σ i) = some (renB σ b)) {c c' : Value} (h : VR ρ' g' (ren1 σ c) c') : VR (fun i => ρ' (σ i)) G c c' := by
  have hlen : ∀ b, (renB σ b).cells.length = b.cells.length := fun b => by simp [renB]
  cases c with
  | pointer a => cases a with
    | none => exact h
    | some a =>
      obtain ⟨ver, hs, a', e, hk⟩ := VR_ptr h
      refine ⟨ver, hs, a', e, fun b hb => ?_⟩
      have := hk _ (hG a.block b hb)
      rw [hlen] at this
      exact this
  | slice a l e => cases a with
    | none => exact h
    | some a =>
      simp only [ren1] at h
      split at h
      · rename_i hsp
        obtain ⟨a', cap', e', q1, q2, q3, hk⟩ := VR_slice h
        refine ⟨a', cap', e', q1, q2, q3, fun ver b hv hb => ?_⟩
        have := hk ver _ hv (hG a.block b hb)
        rw [hlen] at this
        exact this
      · rename_i hsp
        obtain ⟨a', cap', e', q1, q2, q3, hk⟩ := VR_slice h
        refine ⟨a', cap', e', q1, q2, q3, fun ver b hv hb => ?_⟩
        rw [hv] at hsp
        simp at hsp
  | _ => exact h

theorem VT_ren (σ : Nat → Nat) {g' G : Heap} {ρ' : Ren} (hG : ∀ i b, G i = some b → g' (σ i) = some (renB σ b)) {c c' : Value} (h : VT ρ' g' (renT σ c) c') : VT (fun i => ρ' (σ i)) G c c' := by
  have hA : ∀ {c c' : Value}, VA ρ' g' (renA σ c) c' → VA (fun i => ρ' (σ i)) G c c' := by
    intro c c' h
    cases c with
    | agg cs =>
      obtain ⟨cs', e, h1, h2⟩ := h
      refine ⟨cs', e, by simpa using h1, fun i a ha => ?_⟩
      obtain ⟨b, hb, hr⟩ := h2 i (ren1 σ a) (by simp only [Array.toList_map, List.getElem?_map, ha, Option.map_some])
      exact ⟨b, hb, VR_ren σ hG hr⟩
    | pointer a =>
      have h' : VR ρ' g' (ren1 σ (.pointer a)) c' := by cases a <;> exact h
      exact VR_ren σ hG h'
    | slice a l e =>
      have h' : VR ρ' g' (ren1 σ (.slice a l e)) c' := by cases a <;> exact h
      exact VR_ren σ hG h'
    | _ => exact h
  cases c with
  | tuple vs =>
    obtain ⟨vs', e, h1, h2⟩ := h
    refine ⟨vs', e, by simpa using h1, fun i a ha => ?_⟩
    obtain ⟨b, hb, hr⟩ := h2 i (renA σ a) (by simp only [Array.toList_map, List.getElem?_map, ha, Option.map_some])
    exact ⟨b, hb, hA hr⟩
  | iface k v => cases v with
    | agg cs =>
      obtain ⟨cs', e, h1, h2⟩ := h
      refine ⟨cs', e, by simpa using h1, fun i a ha => ?_⟩
      obtain ⟨b, hb, hr⟩ := h2 i (ren1 σ a) (by simp only [Array.toList_map, List.getElem?_map, ha, Option.map_some])
      exact ⟨b, hb, VR_ren σ hG hr⟩
    | _ => exact h
  | agg cs => exact hA (c := .agg cs) h
  | pointer a => exact hA (c := .pointer a) (by cases a <;> exact h)
  | slice a l e => exact hA (c := .slice a l e) (by cases a <;> exact h)
  | _ => exact h

theorem fin_HR (hF : Fin f ids s2 g2 n g' v') (hfr : Fresh f s2) (hs : ∀ i, s2 i → i < n) (h0 : HR base w0 ρ g2 s2 w) (h1 : HR base w0 ρ' g' (· < n') w') (hM : Mono ρ g2 s2 ρ' g') :
    HR base w0 (fun i => ρ' (sig f ids i)) (f.ap g2) (f.sn s2) w' ∧ Mono ρ g2 s2 (fun i => ρ' (sig f ids i)) (f.ap g2) ∧
      ∀ u, VT ρ' g' v' u → VV (fun i => ρ' (sig f ids i)) (f.ap g2) (f.sn s2) f.v u := by
  have key : ∀ i b, f.ap g2 i = some b → g' (sig f ids i) = some (renB (sig f ids) b) ∧ f.sn s2 i ∧ (∀ c ∈ b.cells, SV1 (f.sn s2) c) ∧ (sig f ids i = i ∧ i < n ∨ (f.j ≤ i ∧ i < f.j + f.a.length ∧ n ≤ sig f ids i)) :=
    fun i b hb => (ap_cases hF hfr h0 hb).resolve_right (fun h => h hs)
  have hG : ∀ i b, f.ap g2 i = some b → g' (sig f ids i) = some (renB (sig f ids) b) := fun i b hb => (key i b hb).1
  refine ⟨⟨h1.below, h1.hb, fun i b hb => (key i b hb).2.1, ?_, fun i b hb => (key i b hb).2.2.1, fun i b hb hr => ?_, fun i b hb hr => ?_, fun i k b b' hb hb' hr e => ?_, h1.oth⟩, fun i b' hi hb' => ?_, fun u hu => ?_⟩
  · obtain ⟨m, hm⟩ := h0.fin
    refine ⟨max m (f.j + f.a.length), fun i hi => ?_⟩
    rcases hi with hi | hi
    · have := hm i hi; omega
    · omega
  · obtain ⟨q1, q2⟩ := h1.ro _ _ (hG i b hb) hr
    refine ⟨q1, fun k c hc => ?_⟩
    obtain ⟨c', hc', hv⟩ := q2 k (ren1 (sig f ids) c) (by simp [renB, hc])
    exact ⟨c', hc', VR_ren _ hG hv⟩
  · obtain ⟨q1, q2, cur, q3, q4, q5⟩ := h1.own _ _ (hG i b hb) hr
    refine ⟨q1, q2, cur, q3, q4, fun k c hc => ?_⟩
    obtain ⟨c', hc', hv⟩ := q5 k (ren1 (sig f ids) c) (by simp [renB, hc])
    exact ⟨c', hc', VR_ren _ hG hv⟩
  · have e' := h1.inj _ _ _ _ (hG i b hb) (hG k b' hb') hr e
    rcases (key i b hb).2.2.2 with ⟨a1, a2⟩ | ⟨a1, a2, a3⟩
    · rcases (key k b' hb').2.2.2 with ⟨c1, c2⟩ | ⟨c1, c2, c3⟩
      · rw [a1, c1] at e'; exact e'
      · omega
    · rcases (key k b' hb').2.2.2 with ⟨c1, c2⟩ | ⟨c1, c2, c3⟩
      · omega
      · obtain ⟨l1, s1⟩ := sig_new hF a1 a2
        obtain ⟨l2, s2'⟩ := sig_new hF c1 c2
        rw [s1, s2'] at e'
        have hp := List.pairwise_iff_getElem.1 hF.nodup
        rcases Nat.lt_trichotomy (i - f.j) (k - f.j) with h | h | h
        · exact absurd e' (hp _ _ l1 l2 h)
        · omega
        · exact absurd e'.symm (hp _ _ l2 l1 h)
  · have hσ := sig_old hF hfr hi
    have h2 := hG i b' hb'
    rw [hσ] at h2
    obtain ⟨b, hb, k1, k2, k3⟩ := hM i _ hi h2
    refine ⟨b, hb, fun e => k1 e, by simpa [renB] using k2, fun e => ?_⟩
    show ρ' (sig f ids i) = ρ i
    rw [hσ]
    exact k3 (by simpa [renB] using e)
  · rw [hF.val] at hu
    exact ⟨VT_ren _ hG hu, hF.sv⟩
end

/-- A function's result, off its slots. -/
def resVal (rs : List Tmp) (t : Nat → Value) : Value :=
  match rs with
  | [r] => t r
  | rs => .tuple (rs.map t).toArray

theorem run_results {P : Program} {fn : Func} {rs : List Tmp} (h : fn.results = (rs.map ResultVar.tmp).toArray) (tmps : Array Value) (w : World) :
    (results fn tmps).run P w = .ok (resVal rs fun i => tmps.getD i undef) w := by
  have hm : ∀ (rs : List Tmp) (w : World), ((rs.map ResultVar.tmp).mapM fun x => (match x with
      | .tmp t => pure (tmps.getD t undef)
      | .cell a t => do loadVar t (← asAddr (tmps.getD a undef)) : Sem Value)).run P w = .ok (rs.map fun i => tmps.getD i undef) w := by
    intro rs
    induction rs with
    | nil => intro w; simp
    | cons r rs ih => intro w; simp only [List.map_cons, List.mapM_cons, Sem.run_bind, Sem.run_pure, Result.andThen_ok, ih]
  have hvs : (fn.results.mapM fun x => (match x with
      | .tmp t => pure (tmps.getD t undef)
      | .cell a t => do loadVar t (← asAddr (tmps.getD a undef)) : Sem Value)).run P w = .ok (rs.map fun i => tmps.getD i undef).toArray w := by
    rw [h, List.mapM_toArray]
    simp only [Sem.run_map, hm, Result.andThen_ok]
  have hr : (results fn tmps).run P w = .ok (if h : (rs.map fun i => tmps.getD i undef).toArray.size = 1 then (rs.map fun i => tmps.getD i undef).toArray[0] else .tuple (rs.map fun i => tmps.getD i undef).toArray) w := by
    unfold results
    rw [Sem.run_bind]
    exact congrArg (fun r => Result.andThen r fun (vs : Array Value) w' => (pure (if h : vs.size = 1 then vs[0] else Value.tuple vs) : Sem Value).run P w') hvs
  rw [hr]
  congr 1
  unfold resVal
  rcases rs with _ | ⟨r, _ | ⟨q, rs⟩⟩
  · rfl
  · rfl
  · rw [dif_neg (by simp)]

theorem VV_res {ρ : Ren} {g : Heap} {s : Nat → Prop} {t : Nat → Value} {tmps : Array Value} {rs : List Tmp} (hv : ∀ i, VV ρ g s (t i) (tmps.getD i undef)) (ht : rs.length ≠ 1 → ∀ r ∈ rs, isTup (t r) = false) :
    VT ρ g (resVal rs t) (resVal rs fun i => tmps.getD i undef) := by
  have hva : ∀ {v v' : Value}, VV ρ g s v v' → isTup v = false → VA ρ g v v' := by
    intro v v' h1 h2
    cases v <;> first | exact h1.1 | (simp [isTup] at h2; done)
  unfold resVal
  rcases rs with _ | ⟨r, _ | ⟨q, rs⟩⟩
  · exact ⟨_, rfl, by simp [All2]⟩
  · exact (hv r).1
  · refine ⟨_, rfl, by simp, fun i a ha => ?_⟩
    simp only [List.getElem?_map, Option.map_eq_some_iff] at ha
    obtain ⟨x, hx, rfl⟩ := ha
    exact ⟨tmps.getD x undef, by simp only [List.getElem?_map, hx, Option.map_some], hva (hv x) (ht (by simp) x (List.mem_of_getElem? hx))⟩

/-- A function's contract out of its body. -/
theorem spec_of_body {P : Program} {k : FuncId} {fn : Func} {c : Code} {args : List Value} {g : Heap} {f : Eff} (rs : List Tmp) (hm : P.follows .mixedOrders = true) (hf : P.funcs[k]? = some fn) (hb : fn.body = some c)
    (hname : (fn.name == "runtime.NumGoroutine") = false) (hN : args.length ≤ fn.ntmps) (hok : okCode fn.ntmps c = true) (hrs : fn.results = (rs.map ResultVar.tmp).toArray)
    (h : ∀ (g2 : Heap) (s2 : Nat → Prop) (n : Nat), (∀ i ∈ f.fp, g2 i = g i) → Fresh f s2 → (∀ i, s2 i → i < n) → f.j + f.a.length ≤ n → (∀ i b, g2 i = some b → s2 i ∧ ∀ c ∈ b.cells, SV1 s2 c) → (∀ a ∈ args, SVT s2 a) →
      awp P c (fun e t' g' _ => (e = .normal ∨ e = .ret) ∧ (rs.length ≠ 1 → ∀ r ∈ rs, isTup (t' r) = false) ∧ ∃ ids, Fin f ids s2 g2 n g' (resVal rs t')) (fun i => args[i]?.getD undef) g2 n) : FnSpec P k args g f := by
  intro g2 s2 hg hfr base w0 ρ w args' o a K Q hR ha hk
  obtain ⟨n1, hn1⟩ := hR.fin
  obtain ⟨n, hn, hnj⟩ : ∃ n, (∀ i, s2 i → i < n) ∧ f.j + f.a.length ≤ n := ⟨max n1 (f.j + f.a.length), fun i hi => by have := hn1 i hi; omega, by omega⟩
  have hargs : ∀ a ∈ args, SVT s2 a := fun a hma => by
    obtain ⟨i, hi, e⟩ := List.mem_iff_getElem.1 hma
    obtain ⟨b, _, hv⟩ := ha.2 i a (by rw [List.getElem?_eq_getElem hi, e])
    exact hv.2
  have hw := h g2 s2 n hg hfr hn hnj (fun i b hb => ⟨hR.seen i b hb, hR.wf i b hb⟩) hargs
  have hcall : (callFunc k args').run P w = .ok (.enter k args') w := by
    unfold callFunc
    simp only [Sem.run_bind, run_program, Result.andThen_ok, hf, hname, Bool.false_eq_true, if_false, hb, Option.isNone_some, Sem.run_pure]
  rw [hcall]
  show Calls P k args' w _
  refine (callsIn_wide (n := 1)).1 (callsIn_of_wp_marks (F := Fence.wide) hf hb trivial (wpIn_wide.2 ?_) rfl)
  have hsz : args'.size = args.length := by have := ha.1; simpa using this.symm
  have hR0 : HR base w0 ρ g2 (· < n) w := hR.seenMore hn ⟨n, fun i hi => hi⟩
  have hT0 : TR [] fn.ntmps ρ g2 (· < n) (fun i => args[i]?.getD undef) { tmps := args' ++ Array.replicate (fn.ntmps - args'.size) undef, defers := [] } := by
    refine ⟨rfl, by simp [hsz]; omega, fun i => ?_⟩
    rcases Nat.lt_or_ge i args.length with hlt | hge
    · obtain ⟨b, hb', hv⟩ := ha.2 i args[i] (List.getElem?_eq_getElem hlt)
      have e1 : args[i]?.getD undef = args[i] := by rw [List.getElem?_eq_getElem hlt]; rfl
      have e2 : (args' ++ Array.replicate (fn.ntmps - args'.size) undef).getD i undef = b := by
        have hb2 : args'[i]? = some b := by simpa using hb'
        have hlt' : i < args'.size := by omega
        rw [Array.getD_eq_getD_getElem?, Array.getElem?_append_left hlt', hb2]
        rfl
      rw [e1, e2]
      exact hv.imp hn
    · have e1 : args[i]?.getD undef = undef := by rw [List.getElem?_eq_none hge]; rfl
      have e2 : (args' ++ Array.replicate (fn.ntmps - args'.size) undef).getD i undef = undef := by
        rw [Array.getD_eq_getD_getElem?, Array.getElem?_append_right (by omega), Array.getElem?_replicate]
        split <;> rfl
      rw [e1, e2]
      exact VV_undef
  refine Code.wp_mono ?_ (awp_sound (N := fn.ntmps) (base := base) (w0 := w0) (ρ0 := ρ) (gg := g2) (ss := s2) hm c _ _ g2 n _ w hok hw ⟨ρ, [], hR0, hT0, Mono.refl _ _ _, hn, Marks.nil _ _ _⟩)
  intro e a' w' hl
  obtain ⟨t', g', n', ⟨he, ht, ids, hF⟩, hh⟩ := hl
  obtain ⟨ρ', ds, hR', hT', hM', _, Ds, hDs, hnd, hDk⟩ := hh.ex
  have hend : LeavesInM Fence.wide 1 P fn a'.tmps (fun
      | .returned v, w'' => K (a.put o.dst v) w''
      | .panicked chain, w'' => Q (.panic chain) a w''
      | .outgrown, _ => LetsOut Q) a'.defers .returning w' := by
    rw [hT'.defers, hDs]
    exact leaves_marks 1 (fun w => run_results hrs _ w) (fun w'' hR'' => by
      obtain ⟨k1, k2, k3⟩ := fin_HR hF hfr hn hR hR'' hM'
      exact hk _ w'' _ k1 k2 (k3 _ (VV_res hT'.val ht))) Ds w' hnd hDk hR'
  rcases he with rfl | rfl
  · exact hend
  · exact hend

end Go.Proofs.Ytdpkhijbikbhnaa.Abs
