/-
  The abstract machine: results that lie in a cell; an atomic sum.
-/
import Derived.Test.YtdpkhijbikbhnaaT29
import Derived.Laws.LoneSync
namespace Go.Proofs.Ytdpkhijbikbhnaa.Abs
open Go Go.RowKit

section
variable {P : Program} {g : Heap} {s : Nat → Prop} {f : Eff} {base : Nat} {w0 w : World} {ρ : Ren}
theorem run_load_of {T : TypeId} {x x' : Value} (h : stepLoad P T x g = some f) (hx : VV ρ g s x x') (hR : HR base w0 ρ g s w) :
    ∃ v', (do loadVar T (← asAddr x') : Sem Value).run P w = .ok v' w ∧ VV ρ g s f.v v' := by
  unfold stepLoad at h
  split at h
  · rename_i a
    split at h
    · rename_i b hb
      obtain ⟨hsp, hg⟩ := rd_spec hb
      rw [VV_ptr] at hx
      have e := VR_ptr_live hb hx.1
      split at h
      · rename_i hagg
        split at h
        · rename_i n hn
          split at h
          · rename_i hle
            cases h
            obtain ⟨cs, h1, h2, h3⟩ := hR.cells hg a.off n hle
            refine ⟨.agg cs.toArray, ?_, ?_⟩
            · subst e
              simp [asAddr, loadVar, run_isAgg_of hagg, run_sizeOf_of hn, run_loadCells_of P h1 h2]
            · refine ⟨⟨_, rfl, by simpa using h3⟩, ?_⟩
              intro c hc
              refine hR.wf _ b hg c ?_
              have : c ∈ (b.cells.drop a.off).take n := by simpa using hc
              exact List.mem_of_mem_drop (List.mem_of_mem_take this)
          · cases h
        · cases h
      · rename_i hagg
        split at h
        · rename_i c hc
          cases h
          obtain ⟨c', hc', hvr⟩ := hR.cell hg hc
          refine ⟨c', ?_, VV_of_VR hvr (hR.wf _ b hg c (List.mem_of_getElem? hc))⟩
          subst e
          simp [asAddr, loadVar, run_isAgg_of hagg, hc']
        · cases h
      · cases h
    · cases h
  · cases h

theorem run_results2 {fn : Func} {a b : Tmp} {T : TypeId} (h : fn.results = #[.cell a T, .tmp b]) {tmps : Array Value} {v : Value} (hv : (do loadVar T (← asAddr (tmps.getD a undef)) : Sem Value).run P w = .ok v w) :
    (results fn tmps).run P w = .ok (.tuple #[v, tmps.getD b undef]) w := by
  unfold results
  rw [h]
  have hv' : ∀ (f : Value → Sem Value), (do let x ← (do loadVar T (← asAddr (tmps.getD a undef)) : Sem Value); f x : Sem Value).run P w = (f v).run P w := fun f => by
    rw [Sem.run_bind, hv]; rfl
  rw [List.mapM_toArray]
  simp only [List.mapM_cons, List.mapM_nil, Sem.run_bind, Sem.run_map, Sem.run_pure, Result.andThen_ok]
  have hv2 := hv
  simp only [Sem.run_bind] at hv2
  rw [hv2]
  simp

theorem leaves_marksC {fn : Func} {tmps : Array Value} {R : Ending → World → Prop} (n : Nat) (hres : ∀ w, HR base w0 ρ g s w → ∃ v, (results fn tmps).run P w = .ok v w ∧ R (.returned v) w) :
    ∀ (Ds : List Nat) (w : World), Ds.Nodup → (∀ D ∈ Ds, base ≤ D ∧ w0.heap.size ≤ D ∧ w.heap[D]? = some (.deferred (some []))) → HR base w0 ρ g s w → LeavesInM Fence.wide n P fn tmps R (Ds.map fun D => { target := .collected D, args := #[] }) .returning w
  | [], w, _, _, h => by obtain ⟨v, h1, h2⟩ := hres w h; exact ⟨v, h1, h2⟩
  | D :: Ds, w, hn, hd, h => by
    rw [List.nodup_cons] at hn
    obtain ⟨h1, h2, h3⟩ := hd D (by simp)
    have h' : HR base w0 ρ g s (w.putObj D (.deferred none)) := h.others (grownBy_putObj' w D _) (fun r e => by cases e; exact ⟨h1, h2, _, h3, rfl⟩)
    refine ⟨by simp, .inl ⟨D, _, rfl, run_takeDeferred h3, leaves_marksC n hres Ds _ hn.2 (fun D' hD' => ?_) h'⟩⟩
    obtain ⟨a, b, c⟩ := hd D' (by simp [hD'])
    exact ⟨a, b, (World.putObj_heap_other (fun e => hn.1 (by rw [← e]; exact hD'))).trans c⟩

/-- A function's contract out of its body: two results, the first in a cell. -/
theorem spec_of_bodyC {k : FuncId} {fn : Func} {c : Code} {args : List Value} (ra rb : Tmp) (T : TypeId) (hm : P.follows .mixedOrders = true) (hf : P.funcs[k]? = some fn) (hb : fn.body = some c)
    (hname : (fn.name == "runtime.NumGoroutine") = false) (hN : args.length ≤ fn.ntmps) (hok : okCode fn.ntmps c = true) (hrs : fn.results = #[.cell ra T, .tmp rb])
    (h : ∀ (g2 : Heap) (s2 : Nat → Prop) (n : Nat), (∀ i ∈ f.fp, g2 i = g i) → Fresh f s2 → (∀ i, s2 i → i < n) → f.j + f.a.length ≤ n → (∀ i b, g2 i = some b → s2 i ∧ ∀ c ∈ b.cells, SV1 s2 c) → (∀ a ∈ args, SVT s2 a) →
      awp P c (fun e t' g' _ => (e = .normal ∨ e = .ret) ∧ ∃ u, stepLoad P T (t' ra) g' = some u ∧ isTup u.v = false ∧ isTup (t' rb) = false ∧ ∃ ids, Fin f ids s2 g2 n g' (.tuple #[u.v, t' rb])) (fun i => args[i]?.getD undef) g2 n) : FnSpec P k args g f := by
  intro g2 s2 hg hfr base w0 ρ w args' o a K Q hR ha hk
  obtain ⟨n1, hn1⟩ := hR.fin
  obtain ⟨n, hn, hnj⟩ : ∃ n, (∀ i, s2 i → i < n) ∧ f.j + f.a.length ≤ n := ⟨max n1 (f.j + f.a.length), fun i hi => by have := hn1 i hi; omega, by omega⟩
  have hargs : ∀ a ∈ args, SVT s2 a := fun a hma => by
    obtain ⟨i, hi, e⟩ := List.mem_iff_getElem.1 hma
    obtain ⟨b, _, hv⟩ := ha.2 i a (by rw [List.getElem?_eq_getElem hi, e])
    exact hv.2
  have hw := h g2 s2 n hg hfr hn hnj (fun i b hb => ⟨hR.seen i b hb, hR.wf i b hb⟩) hargs
  have hcall : (callFunc k args').run P w = .ok (.enter k args') w := by
    unfold callFunc
    simp only [Sem.run_bind, run_program, Result.andThen_ok, hf, hname, Bool.false_eq_true, if_false, hb, Option.isNone_some, Sem.run_pure]
  rw [hcall]
  show Calls P k args' w _
  refine (callsIn_wide (n := 1)).1 (callsIn_of_wp_marks (F := Fence.wide) hf hb trivial (wpIn_wide.2 ?_) rfl)
  have hsz : args'.size = args.length := by have := ha.1; simpa using this.symm
  have hR0 : HR base w0 ρ g2 (· < n) w := hR.seenMore hn ⟨n, fun i hi => hi⟩
  have hT0 : TR [] fn.ntmps ρ g2 (· < n) (fun i => args[i]?.getD undef) { tmps := args' ++ Array.replicate (fn.ntmps - args'.size) undef, defers := [] } := by
    refine ⟨rfl, by simp [hsz]; omega, fun i => ?_⟩
    rcases Nat.lt_or_ge i args.length with hlt | hge
    · obtain ⟨b, hb', hv⟩ := ha.2 i args[i] (List.getElem?_eq_getElem hlt)
      have e1 : args[i]?.getD undef = args[i] := by rw [List.getElem?_eq_getElem hlt]; rfl
      have e2 : (args' ++ Array.replicate (fn.ntmps - args'.size) undef).getD i undef = b := by
        have hb2 : args'[i]? = some b := by simpa using hb'
        have hlt' : i < args'.size := by omega
        rw [Array.getD_eq_getD_getElem?, Array.getElem?_append_left hlt', hb2]
        rfl
      rw [e1, e2]
      exact hv.imp hn
    · have e1 : args[i]?.getD undef = undef := by rw [List.getElem?_eq_none hge]; rfl
      have e2 : (args' ++ Array.replicate (fn.ntmps - args'.size) undef).getD i undef = undef := by
        rw [Array.getD_eq_getD_getElem?, Array.getElem?_append_right (by omega), Array.getElem?_replicate]
        split <;> rfl
      rw [e1, e2]
      exact VV_undef
  refine Code.wp_mono ?_ (awp_sound (N := fn.ntmps) (base := base) (w0 := w0) (ρ0 := ρ) (gg := g2) (ss := s2) hm c _ _ g2 n _ w hok hw ⟨ρ, [], hR0, hT0, Mono.refl _ _ _, hn, Marks.nil _ _ _⟩)
  intro e a' w' hl
  obtain ⟨t', g', n', ⟨he, u, hu, ht1, ht2, ids, hF⟩, hh⟩ := hl
  obtain ⟨ρ', ds, hR', hT', hM', _, Ds, hDs, hnd, hDk⟩ := hh.ex
  have hend : LeavesInM Fence.wide 1 P fn a'.tmps (fun
      | .returned v, w'' => K (a.put o.dst v) w''
      | .panicked chain, w'' => Q (.panic chain) a w''
      | .outgrown, _ => LetsOut Q) a'.defers .returning w' := by
    rw [hT'.defers, hDs]
    refine leaves_marksC 1 (fun w'' hR'' => ?_) Ds w' hnd hDk hR'
    obtain ⟨v', hv1, hv2⟩ := run_load_of hu (hT'.val ra) hR''
    refine ⟨_, run_results2 hrs hv1, ?_⟩
    obtain ⟨k1, k2, k3⟩ := fin_HR hF hfr hn hR hR'' hM'
    have hva : ∀ {v v' : Value}, VV ρ' g' (· < n') v v' → isTup v = false → VA ρ' g' v v' := by
      intro v v' h1 h2
      cases v <;> first | exact h1.1 | (simp [isTup] at h2; done)
    refine hk _ w'' _ k1 k2 (k3 _ ⟨_, rfl, by simp, fun i x hx => ?_⟩)
    rcases i with _ | _ | i
    · simp at hx; subst hx; exact ⟨v', rfl, hva hv2 ht1⟩
    · simp at hx; subst hx; exact ⟨_, rfl, hva (hT'.val rb) ht2⟩
    · simp at hx
  rcases he with rfl | rfl
  · exact hend
  · exact hend
end

end Go.Proofs.Ytdpkhijbikbhnaa.Abs

namespace Go.Proofs.Ytdpkhijbikbhnaa
open Go Abs
set_option linter.unusedSimpArgs false
set_option linter.unusedVariables false

set_option maxRecDepth 100000 in
/-- An atomic sum. -/
theorem addI64_spec (q o m : Nat) (e : TypeId) (cs : List Value) (x y : Int) (g : Heap) (hk : g q = some ⟨false, e, cs⟩) (hm : cs.length = m) (hx : cs[o]? = some (.int .i64 x)) :
    FnSpec Try.prog 74 [.pointer (some ⟨q, o, some m⟩), .int .i64 y] g { v := .int .i64 (IntKind.i64.wrap (x + y)), r := [q], w := [(q, ⟨false, e, cs.set o (.int .i64 (IntKind.i64.wrap (x + y)))⟩)] } := by
  intro g2 s2 hg hfr base w0 ρ w args' op a K Q hR ha hk2
  have hq : g2 q = some ⟨false, e, cs⟩ := by rw [hg q (by simp [Eff.fp])]; exact hk
  obtain ⟨u, z, rfl, hu, hz⟩ := all2_two ha
  obtain rfl := VV_int.1 hz
  rw [VV_ptr] at hu
  have eq1 := VR_ptr_live (a := ⟨q, o, some m⟩) (b := ⟨false, e, cs⟩) (by simp [rd, hq, hm]) hu.1
  obtain ⟨h1, h2, cur, h3, h4, h5⟩ := hR.own q _ hq rfl
  rw [h2, Nat.zero_add] at eq1
  obtain ⟨c', hc', hv⟩ := h5 o _ hx
  cases hv
  have hcell : w.cell? ⟨(ρ q).blk, o, none⟩ = some (.int .i64 x) := by
    rw [cell_of_row w _ _ cur _ _ h3]; simp [hc']
  subst eq1
  rw [run_call_add (f := 74) Try.func74 (by kernel_rfl) (by kernel_rfl) (by kernel_rfl) .i64 (by kernel_rfl) hcell (frozen_of_row w _ _ cur _ h3) (s := IntKind.i64.wrap (x + y)) (by simp [Op.intArith, go_sem])]
  have holt : o < cs.length := by
    apply Classical.byContradiction; intro hh
    rw [List.getElem?_eq_none (by omega)] at hx; cases hx
  have ho : o < cur.size := by have hle : cs.length ≤ cur.size := PreR.len h5; omega
  have hset := heap_setCell_same w (ρ q).blk o cur e (.int .i64 (IntKind.i64.wrap (x + y))) h3
  have hgr : w.grownBy (w.setCell ⟨(ρ q).blk, o, none⟩ (.int .i64 (IntKind.i64.wrap (x + y)))) (some (ρ q).blk) := (heap_setCells (ρ q).blk e [.int .i64 (IntKind.i64.wrap (x + y))] o w cur h3).2
  have hch := hR.change hq rfl (ri := ρ q) (cs := cs.set o (.int .i64 (IntKind.i64.wrap (x + y)))) hgr (.inl rfl) h2 hset (by simp [h4]) (by simp) (fun _ => rfl) (fun j c hc => by
    rw [List.getElem?_set] at hc
    by_cases ej : o = j
    · subst ej
      rw [if_pos rfl, if_pos holt] at hc
      cases hc
      exact ⟨_, by rw [Array.getElem?_setIfInBounds_self_of_lt ho], rfl⟩
    · rw [if_neg ej] at hc
      obtain ⟨d', hd', hr⟩ := h5 j c hc
      exact ⟨d', by rw [Array.getElem?_setIfInBounds_ne ej]; exact hd', hr⟩) (fun c hc => by
    rcases List.mem_or_eq_of_mem_set hc with hc | hc
    · exact hR.wf _ _ hq c hc
    · subst hc; trivial)
  have eρ : upd ρ q (ρ q) = ρ := by funext i; by_cases e : i = q <;> simp [upd_app, e]
  rw [eρ] at hch
  exact hk2 ρ _ _ (hch.1.sn0 _) hch.2 (VV_int.2 rfl)
end Go.Proofs.Ytdpkhijbikbhnaa
