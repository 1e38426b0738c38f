/-
  The abstract machine, part 5: append and copy; all operations in one function.
-/
import Derived.Test.YtokmmcfnpobldaaAbs4
namespace Go.Proofs.Ytokmmcfnpobldaa.Abs
open Go Go.RowKit

/-- What a slice lends to append or copy: how many elements, and their cells. -/
def srcCells (y : Value) (g : Heap) (esz : Nat) : Option (Nat × List Value) :=
  match y with
  | .slice none _ _ => some (0, [])
  | .slice (some a) m esz' => if m = 0 then some (0, []) else match rd g a with
    | some b => if esz' = esz then some (m, (b.cells.drop a.off).take (m * esz)) else none
    | none => none
  | _ => none

def srcBlk : Value → List Nat
  | .slice (some a) m _ => if m = 0 then [] else [a.block]
  | _ => []

def stepAppend (P : Program) (T T' : TypeId) (x y : Value) (g : Heap) (j : Nat) : Option Eff :=
  if T = T' then match P.underlying T with
    | some (.slice e) => match tinf P e with
      | some (_, esz, bytes) => match srcCells y g esz with
        | some (m, news) => match x with
          | .slice none _ _ => if m = 0 then some { v := .slice none 0 0 } else
            if 0 < esz ∧ m ≤ 140737488355328 ∧ m * bytes ≤ 140737488355328 then
              some { v := .slice (some ⟨j, 0, some news.length⟩) m esz, r := srcBlk y, j := j, a := [⟨false, e, news⟩] } else none
          | .slice (some a) n esz' => match rd g a with
            | some b => if b.ro = false ∧ b.e = e ∧ a.off = 0 ∧ esz' = esz ∧ n * esz = b.cells.length ∧ 0 < esz ∧ n + m ≤ 140737488355328 ∧ (n + m) * bytes ≤ 140737488355328 then
                some { v := .slice (some ⟨a.block, 0, some (b.cells ++ news).length⟩) (n + m) esz, r := a.block :: srcBlk y, w := [(a.block, ⟨false, e, b.cells ++ news⟩)] } else none
            | none => none
          | _ => none
        | none => none
      | none => none
    | _ => none
  else none

section
variable {P : Program} {o : Oper} {ev : Operand → Value} {g : Heap} {s : Nat → Prop} {f : Eff}

/-- The source, in the world. -/
theorem src_spec {base : Nat} {w0 : World} {ρ : Ren} {w : World} (hR : HR base w0 ρ g s w) {y y' : Value} {esz m : Nat} {news : List Value} (hy : VV ρ g s y y') (h : srcCells y g esz = some (m, news)) :
    (y' = .slice none 0 0 ∧ m = 0 ∧ news = []) ∨ ∃ (a : Addr) (c : Nat) (cs : List Value), y' = .slice (some a) m c ∧ cs.length = m * esz ∧ (∀ (j : Nat) (v : Value), cs[j]? = some v → w.cell? (a.add j) = some v) ∧
      All2 (VR ρ g) news cs ∧ (∀ c ∈ news, SV1 s c) := by
  unfold srcCells at h
  split at h
  · cases h
    rw [VV_slice] at hy
    exact .inl ⟨(VR_nilslice hy.1).1, rfl, rfl⟩
  · rename_i a m0 esz'
    rw [VV_slice] at hy
    split at h
    · rename_i hm
      cases h
      subst hm
      obtain ⟨a', c', e, _⟩ := VR_slice hy.1
      exact .inr ⟨a', c', [], e, by simp, by simp, by simp [All2], by simp⟩
    · split at h
      · rename_i b hb
        split at h
        · rename_i he
          subst he
          cases h
          obtain ⟨hsp, hg⟩ := rd_spec hb
          obtain ⟨cap', e, q1, q2, q3, q4⟩ := VR_slice_live hb hy.1
          obtain ⟨cs, c1, c2, c3⟩ := hR.cells hg a.off (m * esz') q3
          refine .inr ⟨_, cap', cs, e, c1, c2, c3, fun c hc => ?_⟩
          exact hR.wf _ b hg c (List.mem_of_mem_drop (List.mem_of_mem_take hc))
        · cases h
      · cases h
  · cases h

theorem All2_oneCell {ρ : Ren} {l l' : List Value} (h : All2 (VR ρ g) l l') : ∀ c ∈ l', c.oneCell' = true := by
  intro c hc
  obtain ⟨i, hi, hci⟩ := List.mem_iff_getElem.1 hc
  have hi' : i < l.length := by rw [h.1]; exact hi
  obtain ⟨b, hb, hr⟩ := h.2 i _ (List.getElem?_eq_getElem hi')
  rw [List.getElem?_eq_getElem hi] at hb
  cases hb
  rw [← hci]
  exact (VR_one hr).2

theorem PreR.of_take {R : Value → Value → Prop} {l l' : List Value} {cur : Array Value} {n : Nat} (h : All2 R l l') (hc : cur.toList.take n = l') : PreR R l cur := by
  intro k c hk
  obtain ⟨b, hb, hr⟩ := h.2 k c hk
  refine ⟨b, ?_, hr⟩
  rw [← hc, List.getElem?_take] at hb
  split at hb
  · simpa using hb
  · cases hb

theorem All2.append {R : Value → Value → Prop} {l1 l2 m1 m2 : List Value} (h : All2 R l1 m1) (k : All2 R l2 m2) : All2 R (l1 ++ l2) (m1 ++ m2) := by
  refine ⟨by simp [h.1, k.1], fun i a hi => ?_⟩
  rcases Nat.lt_or_ge i l1.length with hlt | hge
  · rw [List.getElem?_append_left hlt] at hi
    obtain ⟨b, hb, hr⟩ := h.2 i a hi
    exact ⟨b, by rw [List.getElem?_append_left (by rw [← h.1]; exact hlt)]; exact hb, hr⟩
  · rw [List.getElem?_append_right hge] at hi
    obtain ⟨b, hb, hr⟩ := k.2 _ a hi
    exact ⟨b, by rw [List.getElem?_append_right (by rw [← h.1]; exact hge), ← h.1]; exact hb, hr⟩

theorem exec_append {x y : Operand} {T T' : TypeId} {act : Act} {w w' : World} {v : Value} (ho : o.op = .call { callee := .builtin .append, args := #[x, y], argTypes := #[T, T'] })
    (hr : (Builtin.append_ #[T, T'] o.type #[act.eval x, act.eval y]).run P w = .ok v w') : (execOp act.eval o).run P w = .ok (.value v) w' := by
  unfold execOp
  simp only [ho, resolve, invoke, builtin, Sem.run_bind, Sem.run_pure, Result.andThen_ok, List.map_toArray, List.map_cons, List.map_nil, hr]

theorem exec_copy {x y : Operand} {T T' : TypeId} {act : Act} {w w' : World} {v : Value} (ho : o.op = .call { callee := .builtin .copy, args := #[x, y], argTypes := #[T, T'] })
    (hr : (Builtin.copy_ #[T, T'] o.type #[act.eval x, act.eval y]).run P w = .ok v w') : (execOp act.eval o).run P w = .ok (.value v) w' := by
  unfold execOp
  simp only [ho, resolve, invoke, builtin, Sem.run_bind, Sem.run_pure, Result.andThen_ok, List.map_toArray, List.map_cons, List.map_nil, hr]

theorem sim_append {T T' : TypeId} {x y : Operand} {j : Nat} (ho : o.op = .call { callee := .builtin .append, args := #[x, y], argTypes := #[T, T'] }) (h : stepAppend P T T' (ev x) (ev y) g j = some f) (hj : f.a ≠ [] → ¬ s j) : OpSim P o ev g s f := by
  unfold stepAppend at h
  split at h
  · rename_i hT
    subst hT
    split at h
    · rename_i e hu
      split at h
      · rename_i zs esz bytes hti
        split at h
        · rename_i m news hsrc
          obtain ⟨i, z, hi, hz, h1, h2, h3, h4, h5, h6⟩ := tinf_spec hti
          intro base w0 ρ w act K Q hR hv hk
          have hvx := hv x (by simp [ho, Op.operands, Call.operands])
          have hvy := hv y (by simp [ho, Op.operands, Call.operands])
          have hsp := src_spec hR hvy hsrc
          have hex : ∀ {v : Value} {w' : World}, (Builtin.append_ #[T, T] o.type #[act.eval x, act.eval y]).run P w = .ok v w' → (execOp act.eval o).run P w = .ok (.value v) w' :=
            fun hr => exec_append ho hr
          split at h
          · rename_i l0 c0 hx
            rw [hx, VV_slice] at hvx
            obtain ⟨ex, rfl, rfl⟩ := VR_nilslice hvx.1
            have hown := World.ownsRow_nil w base e esz
            split at h
            · rename_i hm
              cases h
              subst hm
              refine wp_of_run (hex (v := .slice none 0 0) (w' := w) ?_) (hk ρ w _ (hR.sn0 _) (Mono.refl _ _ _) (by rw [VV_slice]; exact ⟨⟨rfl, rfl, rfl⟩, trivial⟩))
              rcases hsp with ⟨e', _, _⟩ | ⟨a, c, cs, e', hl, hc, ha, _⟩
              · rw [ex, e']
                exact run_append_owned_none (P := P) w base T o.type e i esz hu hi _ 0 [] hown
              · rw [ex, e']
                have hcs : cs = [] := List.eq_nil_of_length_eq_zero (by simpa using hl)
                subst hcs
                simp [Builtin.append_, run_underlying hu, sizeOf, typeInfo, hi, Builtin.lenOf, Builtin.firstCells, loadCells, loadCellsFrom]
            · rename_i hm
              split at h
              · rename_i hc0
                obtain ⟨hpos, hlim, hby⟩ := hc0
                cases h
                rcases hsp with ⟨_, e', _⟩ | ⟨a, c, cs, e', hl, hc, ha, hsv⟩
                · exact absurd e' hm
                · obtain ⟨v', w', hr, hown', hg, _, hat⟩ := run_append_own_at (P := P) w base T o.type e i z esz bytes hu hi hz h1 h2 h4 hpos _ 0 [] hown a m c cs hl hc (All2_oneCell ha)
                    (by simp only [maxLen]; omega) (by simpa using hby) hR.hb
                  rw [List.nil_append, Nat.zero_add] at hown'
                  rcases hown'.2 with ⟨_, e0⟩ | ⟨k0, cap, cur, rfl, hbk, hcur, hnc, hcm, hcs, htake⟩
                  · exact absurd e0 hm
                  · have hk0 : k0 = w.heap.size := by
                      rcases hat with hat | hat
                      · simp [Value.ownBlock] at hat
                      · simpa [Value.ownBlock] using hat
                    have hg' : w.grownBy w' none := by simpa [Value.ownBlock] using hg
                    obtain ⟨r1, r2⟩ := hR.added (.slice (some ⟨j, 0, some news.length⟩) m esz) (srcBlk (ev y)) (hj (by simp)) hg' (Nat.le_of_eq hk0.symm) hcur (PreR.of_take ha htake) hsv _ rfl
                    refine wp_of_run (hex (by rw [ex, e']; exact hr)) (hk _ _ _ r1 r2 (VV_newSlice (.inr ⟨Nat.le_refl _, by simp⟩) (by rw [ha.1, hl]; exact Nat.le_refl _) cap hnc hcm _ hcs.symm))
              · cases h
          · rename_i a n esz' hx
            split at h
            · rename_i b hb
              split at h
              · rename_i hc0
                obtain ⟨hro, rfl, h00, rfl, hfull, hpos, hlim, hby⟩ := hc0
                cases h
                obtain ⟨hspot, hg⟩ := rd_spec hb
                rw [hx, VV_slice] at hvx
                obtain ⟨cap', ex, q1, q2, q3, q4⟩ := VR_slice_live hb hvx.1
                obtain ⟨hbb, hoff, cur, hcur, hK, hh⟩ := hR.own _ b hg hro
                rw [hoff, h00, Nat.zero_add] at ex
                have hcap : cur.size = cap' * esz' := by have := q4 hro; omega
                have hall : All2 (VR ρ g) b.cells (cur.toList.take (n * esz')) := by
                  refine ⟨?_, fun k c hkc => ?_⟩
                  · have : n * esz' ≤ cap' * esz' := Nat.mul_le_mul_right _ q1
                    simp only [List.length_take, Array.length_toList]
                    omega
                  · obtain ⟨c', hc', hr⟩ := hh k c hkc
                    refine ⟨c', ?_, hr⟩
                    have hlt := (List.getElem?_eq_some_iff.1 hkc).1
                    rw [List.getElem?_take, if_pos (by omega)]
                    simpa using hc'
                have hown : w.ownsRow base b.e esz' (.slice (some ⟨(ρ a.block).blk, 0, none⟩) n cap') n (cur.toList.take (n * esz')) :=
                  ⟨by rw [← hall.1, hfull], .inr ⟨_, cap', cur, rfl, hbb, hcur, q1, q2, hcap, rfl⟩⟩
                have hsvb : (∀ c ∈ news, SV1 s c) → ∀ c ∈ b.cells ++ news, SV1 s c := fun hsv c hc => by
                  rcases List.mem_append.1 hc with hc | hc
                  · exact hR.wf _ b hg c hc
                  · exact hsv c hc
                -- what closes every arm
                have close : ∀ {k1 cap1 : Nat} {cur1 : Array Value} {w' : World} {cs : List Value}, (Builtin.append_ #[T, T] o.type #[act.eval x, act.eval y]).run P w = .ok (.slice (some ⟨k1, 0, none⟩) (n + m) cap1) w' →
                    w.grownBy w' (some (ρ a.block).blk) → (k1 = (ρ a.block).blk ∨ w.heap.size ≤ k1) → w'.heap[k1]? = some (.cells cur1 b.e (0, 0)) → n + m ≤ cap1 → cap1 ≤ maxLen → cur1.size = cap1 * esz' →
                    cur1.toList.take ((n + m) * esz') = cur.toList.take (n * esz') ++ cs → All2 (VR ρ g) news cs → (∀ c ∈ news, SV1 s c) → news.length = m * esz' → (m = 0 → k1 = (ρ a.block).blk ∧ cap1 = cap') → o.wp P act w K Q := by
                  intro k1 cap1 cur1 w' cs hr hgr hk1 hcur1 hn1 hm1 hs1 htake ha hsv hnl hz0
                  obtain ⟨r1, r2⟩ := hR.change (ri := ⟨k1, 0, cur1.size⟩) (cs := b.cells ++ news) hg hro hgr hk1 rfl hcur1 rfl (by simp) (fun e => by
                      have hm0 : m = 0 := by
                        have : m * esz' = 0 := by simp only [List.length_append] at e; omega
                        rcases Nat.mul_eq_zero.1 this with h | h
                        · exact h
                        · omega
                      obtain ⟨e1, e2⟩ := hz0 hm0
                      subst e1 e2
                      rw [hs1, ← hcap, hK]
                      cases hρ : ρ a.block
                      rw [hρ] at hoff
                      simp only at hoff
                      subst hoff
                      rfl) (PreR.of_take (All2.append hall ha) htake) (hsvb hsv)
                  refine wp_of_run (hex hr) (hk _ _ _ (r1.sn0 _) r2 ?_)
                  rw [VV_slice]
                  refine ⟨⟨_, _, rfl, hn1, hm1, fun h => (by cases h), fun ver b' hv' hb' => ?_⟩, .inr (.inl (hR.seen _ b hg))⟩
                  simp only [Eff.ap, setAll, addAll, upd_self, Option.some.injEq] at hb' hv'
                  subst hb' hv'
                  refine ⟨Nat.le_refl _, fun _ => ⟨by simp, ?_, fun _ => by simp [hs1]⟩⟩
                  simp only [List.length_append, hnl, ← hfull, Nat.zero_add, ← Nat.add_mul]
                  exact Nat.le_refl _
                rcases hsp with ⟨e', rfl, rfl⟩ | ⟨ad, c, cs, e', hl, hc, ha, hsv⟩
                · refine close (k1 := (ρ a.block).blk) (cap1 := cap') (cur1 := cur) (w' := w) (cs := []) ?_ ⟨rfl, rfl, rfl, Nat.le_refl _, fun _ _ _ => rfl⟩ (.inl rfl) hcur q1 q2 hcap (by simp) (by simp [All2]) (by simp) (by simp) (fun _ => ⟨rfl, rfl⟩)
                  rw [ex, e']
                  exact run_append_owned_none (P := P) w base T o.type b.e i esz' hu hi _ n _ hown
                · by_cases hroom : n + m ≤ cap'
                  · obtain ⟨w', hr, hown', hgr⟩ := run_append_fits (P := P) w base T o.type b.e i esz' hu hi h1 _ n cap' _ hown ad m c cs hl hc (All2_oneCell ha) hroom
                    rcases hown'.2 with ⟨e0, _⟩ | ⟨k0, cap, cur1, e0, hbk, hcur1, hnc, hcm, hcs1, htake⟩
                    · cases e0
                    · simp only [Value.slice.injEq, Option.some.injEq, Addr.mk.injEq, and_true, true_and] at e0
                      obtain ⟨e1, e2⟩ := e0
                      subst e1 e2
                      exact close (by rw [ex, e']; exact hr) hgr (.inl rfl) hcur1 hnc hcm hcs1 htake ha hsv (by rw [ha.1, hl]) (fun _ => ⟨rfl, rfl⟩)
                  · obtain ⟨v', w', hr, hown', hgr, _, hat⟩ := run_append_own_at (P := P) w base T o.type b.e i z esz' bytes hu hi hz h1 h2 h4 hpos _ n _ hown ad m c cs hl hc (All2_oneCell ha)
                      (by simp only [maxLen]; omega) hby hR.hb
                    rcases hown'.2 with ⟨_, e0⟩ | ⟨k0, cap, cur1, rfl, hbk, hcur1, hnc, hcm, hcs1, htake⟩
                    · omega
                    · have hk0 : k0 = (ρ a.block).blk ∨ w.heap.size ≤ k0 := by
                        rcases hat with hat | hat
                        · simp [Value.ownBlock] at hat; exact .inl hat
                        · simp [Value.ownBlock] at hat; exact .inr (by omega)
                      exact close (by rw [ex, e']; exact hr) (by simpa [Value.ownBlock] using hgr) hk0 hcur1 hnc hcm hcs1 htake ha hsv (by rw [ha.1, hl]) (fun h0 => by omega)
              · cases h
            · cases h
          · cases h
        · cases h
      · cases h
    · cases h
  · cases h

def stepCopy (P : Program) (T : TypeId) (x y : Value) (g : Heap) : Option Eff :=
  match P.underlying T, x with
  | some (.slice e), .slice (some a) n esz => if tsize P e = some 1 ∧ esz = 1 then match srcCells y g 1 with
      | some (m, cs) => if min m n = 0 then some { v := .int .i64 0, r := srcBlk y } else match rd g a with
        | some b => if b.ro = false then some { v := .int .i64 (min m n : Nat), r := a.block :: srcBlk y, w := [(a.block, ⟨false, b.e, putAll b.cells a.off (cs.take (min m n))⟩)] } else none
        | none => none
      | none => none
    else none
  | _, _ => none

theorem All2.take {R : Value → Value → Prop} {l l' : List Value} (h : All2 R l l') (n : Nat) : All2 R (l.take n) (l'.take n) := by
  refine ⟨by simp [h.1], fun i a hi => ?_⟩
  rw [List.getElem?_take] at hi
  split at hi
  · rename_i hlt
    obtain ⟨b, hb, hr⟩ := h.2 i a hi
    exact ⟨b, by rw [List.getElem?_take, if_pos hlt]; exact hb, hr⟩
  · cases hi

theorem sim_copy {T T' : TypeId} {x y : Operand} (ho : o.op = .call { callee := .builtin .copy, args := #[x, y], argTypes := #[T, T'] }) (h : stepCopy P T (ev x) (ev y) g = some f) : OpSim P o ev g s f := by
  unfold stepCopy at h
  split at h
  · rename_i e a n esz hu hx
    split at h
    · rename_i hc0
      obtain ⟨hts, rfl⟩ := hc0
      split at h
      · rename_i m cs hsrc
        intro base w0 ρ w act K Q hR hv hk
        have hvx := hv x (by simp [ho, Op.operands, Call.operands])
        have hvy := hv y (by simp [ho, Op.operands, Call.operands])
        have hsp := src_spec hR hvy hsrc
        have hex : ∀ {v : Value} {w' : World}, (Builtin.copy_ #[T, T'] o.type #[act.eval x, act.eval y]).run P w = .ok v w' → (execOp act.eval o).run P w = .ok (.value v) w' :=
          fun hr => exec_copy ho hr
        rw [hx, VV_slice] at hvx
        split at h
        · rename_i h0
          cases h
          obtain ⟨a', c', ex, _⟩ := VR_slice hvx.1
          refine wp_of_run (hex (v := goInt 0) (w' := w) ?_) (hk ρ w _ (hR.sn0 _) (Mono.refl _ _ _) (VV_plain rfl))
          rcases hsp with ⟨e', hm, _⟩ | ⟨ad, c, cs', e', _⟩
          · rw [ex, e']; exact run_copy_none w T T' o.type e _ _ _ _ _ _ hu hts (by simp)
          · rw [ex, e']; exact run_copy_none w T T' o.type e _ _ _ _ _ _ hu hts h0
        · rename_i h0
          split at h
          · rename_i b hb
            split at h
            · rename_i hro
              cases h
              obtain ⟨hspot, hg⟩ := rd_spec hb
              obtain ⟨cap', ex, q1, q2, q3, q4⟩ := VR_slice_live hb hvx.1
              obtain ⟨hbb, hoff, cur, hcur, hK, hh⟩ := hR.own _ b hg hro
              rw [hoff, Nat.zero_add] at ex
              rcases hsp with ⟨_, hm, _⟩ | ⟨ad, c, cs', e', hl, hc, ha, hsv⟩
              · exact absurd (by simp [hm]) h0
              · have hsz : cur.size ≥ b.cells.length := PreR.len hh
                have hl' : (cs'.take (min m n)).length = min m n := by simp; omega
                have hrun := run_copy_cells (P := P) w T T' o.type e (ρ a.block).blk a.off n cap' ad m c (cs'.take (min m n)) hu hts hl'
                  (fun j v hj => hc j v (by rw [List.getElem?_take] at hj; split at hj; exact hj; cases hj))
                  (fun j hj => by rw [cell_of_row w _ _ cur _ _ hcur]; simp; omega) (fun j hj => frozen_of_row w _ _ cur _ hcur)
                  (fun v hv => All2_oneCell ha v (List.mem_of_mem_take hv))
                obtain ⟨p1, p2⟩ := heap_setCells (ρ a.block).blk b.e (cs'.take (min m n)) a.off w cur hcur
                have hct := ha.take (min m n)
                obtain ⟨r1, r2⟩ := hR.change (ri := ρ a.block) (cs := putAll b.cells a.off (cs.take (min m n))) hg hro p2 (.inl rfl) hoff p1 (by rw [size_arrPut, hK]) (by simp) (fun _ => rfl)
                  (PreR.put hh hct (by rw [hct.1, hl']; omega)) (fun c hc => by
                    rcases mem_putAll hc with hc | hc
                    · exact hR.wf _ b hg c hc
                    · exact hsv c (List.mem_of_mem_take hc))
                refine wp_of_run (hex (by rw [ex, e']; exact hrun)) (hk (upd ρ a.block (ρ a.block)) _ _ (r1.sn0 _) r2 ?_)
                rw [hl']
                exact VV_plain rfl
            · cases h
          · cases h
      · cases h
    · cases h
  · cases h

end

/-- A call of a function that is built in. -/
def stepCall (P : Program) (c : Call) (ev : Operand → Value) (g : Heap) (j : Nat) : Option Eff :=
  match c.callee with
  | .builtin b => match b, c.args.toList, c.argTypes.toList with
    | .len, [x], [T] => stepLen P T (ev x)
    | .min, [x, y], [_, _] => stepMin (ev x) (ev y)
    | .append, [x, y], [T, T'] => stepAppend P T T' (ev x) (ev y) g j
    | .copy, [x, y], [T, _] => stepCopy P T (ev x) (ev y) g
    | _, _, _ => none
  | _ => none

/-- What an operation does that calls no function. j: the number of a new block. -/
def astep (P : Program) (o : Op) (ev : Operand → Value) (g : Heap) (j : Nat) : Option Eff :=
  match o with
  | .move x => some { v := ev x }
  | .assign x => some { v := ev x }
  | .pick c x y => stepPick (ev c) (ev x) (ev y)
  | .load T x => stepLoad P T (ev x) g
  | .store T x y => stepStore P T (ev x) (ev y) g
  | .nilCheck x => stepNilCheck (ev x)
  | .fieldAddr S x n => stepField P S (ev x) n
  | .indexAddr T x i => stepIndex P T (ev x) (ev i)
  | .index T x i => stepIdx P T (ev x) (ev i)
  | .slice T x lo hi mx => match mx with
    | none => stepSlice P T (ev x) (lo.map ev) (hi.map ev)
    | some _ => none
  | .binOp op T x y _ => stepBin P op T (ev x) (ev y)
  | .unOp op _ x => stepUn op (ev x)
  | .extract x i => stepExtract (ev x) i
  | .convert S D x => stepConv P S D (ev x) g
  | .box T x => stepBox T (ev x) j
  | .alloc T => stepAlloc P T j
  | .build T ps => stepBuild P T (ps.toList.map fun p => (p.1, ev p.2))
  | .buildSlice T n ps => stepBuildSlice P T n (ps.toList.map fun p => (p.1, ev p.2)) j
  | .makeSlice T l c => stepMake P T (ev l) (ev c) j
  | .call c => stepCall P c ev g j
  | _ => none

theorem sim_call {P : Program} {o : Oper} {ev : Operand → Value} {g : Heap} {s : Nat → Prop} {f : Eff} {j : Nat} {c : Call} (ho : o.op = .call c) (h : stepCall P c ev g j = some f) (hj : f.a ≠ [] → ¬ s j) : OpSim P o ev g s f := by
  obtain ⟨callee, args, argTypes⟩ := c
  unfold stepCall at h
  split at h
  · rename_i b hb
    simp only at hb h
    subst hb
    split at h
    · rename_i x T ha ht
      obtain rfl := Array.toList_inj.1 (ha : args.toList = #[x].toList)
      obtain rfl := Array.toList_inj.1 (ht : argTypes.toList = #[T].toList)
      exact sim_len ho h
    · rename_i x y T T' ha ht
      obtain rfl := Array.toList_inj.1 (ha : args.toList = #[x, y].toList)
      obtain rfl := Array.toList_inj.1 (ht : argTypes.toList = #[T, T'].toList)
      exact sim_min ho h
    · rename_i x y T T' ha ht
      obtain rfl := Array.toList_inj.1 (ha : args.toList = #[x, y].toList)
      obtain rfl := Array.toList_inj.1 (ht : argTypes.toList = #[T, T'].toList)
      exact sim_append ho h hj
    · rename_i x y T T' ha ht
      obtain rfl := Array.toList_inj.1 (ha : args.toList = #[x, y].toList)
      obtain rfl := Array.toList_inj.1 (ht : argTypes.toList = #[T, T'].toList)
      exact sim_copy ho h
    · cases h
  · cases h

theorem sim_step {P : Program} {o : Oper} {ev : Operand → Value} {g : Heap} {s : Nat → Prop} {f : Eff} {j : Nat} (h : astep P o.op ev g j = some f) (hj : f.a ≠ [] → ¬ s j) : OpSim P o ev g s f := by
  cases ho : o.op <;> rw [ho] at h <;> simp only [astep, reduceCtorEq] at h
  case move => cases h; exact sim_move (.inl ho)
  case assign => cases h; exact sim_move (.inr ho)
  case pick => exact sim_pick ho h
  case load => exact sim_load ho h
  case store => exact sim_store ho h
  case nilCheck => exact sim_nilCheck ho h
  case fieldAddr => exact sim_field ho h
  case indexAddr => exact sim_index ho h
  case index => exact sim_idx ho h
  case slice T x lo hi mx =>
    cases mx with
    | none => exact sim_slice ho h
    | some m => cases h
  case binOp => exact sim_bin ho h
  case unOp => exact sim_un ho h
  case extract => exact sim_extract ho h
  case convert => exact sim_conv ho h
  case box => exact sim_box ho h hj
  case alloc => exact sim_alloc ho h hj
  case build => exact sim_build ho h
  case buildSlice => exact sim_buildSlice ho h hj
  case makeSlice => exact sim_make ho h hj
  case call => exact sim_call ho h hj

end Go.Proofs.Ytokmmcfnpobldaa.Abs
