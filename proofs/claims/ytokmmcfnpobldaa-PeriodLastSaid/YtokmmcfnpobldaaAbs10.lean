/-
  The abstract machine, part 10: a function's contract out of its body.
-/
import Derived.Test.YtokmmcfnpobldaaAbs9
namespace Go.Proofs.Ytokmmcfnpobldaa.Abs
open Go Go.RowKit

section
variable {f : Eff} {ids : List Nat} {s2 : Nat → Prop} {g2 : Heap} {n n' : Nat} {g' : Heap} {v' : Value} {base : Nat} {w0 w w' : World} {ρ ρ' : Ren}

theorem sig_old (hF : Fin f ids s2 g2 n g' v') (hfr : Fresh f s2) {i : Nat} (hi : s2 i) : sig f ids i = i := by
  unfold sig
  split
  · rename_i h
    have : ¬ i < f.j + f.a.length := fun h2 => hfr i h h2 hi
    rw [List.getElem?_eq_none (by rw [hF.len]; omega)]
    rfl
  · rfl

theorem sig_new (hF : Fin f ids s2 g2 n g' v') {i : Nat} (h1 : f.j ≤ i) (h2 : i < f.j + f.a.length) : ∃ h : i - f.j < ids.length, sig f ids i = ids[i - f.j] := by
  have h : i - f.j < ids.length := by rw [hF.len]; omega
  refine ⟨h, ?_⟩
  unfold sig
  rw [if_pos h1, List.getElem?_eq_getElem h]
  rfl

theorem ren1_old {σ : Nat → Nat} {s : Nat → Prop} (hσ : ∀ i, s i → σ i = i) {c : Value} (hc : SV1 s c) : ren1 σ c = c := by
  cases c with
  | pointer a => cases a with
    | none => rfl
    | some a => simp only [ren1, hσ a.block hc]
  | slice a l e => cases a with
    | none => rfl
    | some a =>
      simp only [ren1]
      split
      · rename_i h
        rcases hc with hc | hc
        · rw [hc] at h; cases h
        · rw [hσ a.block hc]
      · rfl
  | _ => rfl

theorem addAll_get : ∀ {l : List Blk} {g : Heap} {j m : Nat} {b : Blk}, l[m]? = some b → addAll g j l (j + m) = some b
  | [], _, _, _, _, h => by simp at h
  | x :: l, g, j, m, b, h => by
    rw [addAll]
    cases m with
    | zero =>
      simp at h
      subst h
      rw [addAll_out (by omega)]
      simp
    | succ m =>
      simp at h
      have := addAll_get (l := l) (g := upd g j (some x)) (j := j + 1) h
      rw [show j + (m + 1) = j + 1 + m by omega]
      exact this

theorem setAll_mem : ∀ {l : List (Nat × Blk)} {g : Heap} {i : Nat} {b : Blk}, i ∈ l.map (·.1) → setAll g l i = some b → ∃ p ∈ l, p.2 = b
  | [], _, _, _, h, _ => by simp at h
  | (k, x) :: l, g, i, b, h, hb => by
    rw [setAll] at hb
    by_cases hm : i ∈ l.map (·.1)
    · obtain ⟨p, hp, e⟩ := setAll_mem hm hb
      exact ⟨p, by simp [hp], e⟩
    · rw [setAll_out hm] at hb
      simp only [List.map_cons, List.mem_cons] at h
      rcases h with rfl | h
      · simp at hb
        exact ⟨(i, x), by simp, hb⟩
      · exact absurd h hm

theorem ap_cases (hF : Fin f ids s2 g2 n g' v') (hfr : Fresh f s2) (h0 : HR base w0 ρ g2 s2 w) {i : Nat} {b : Blk} (hb : f.ap g2 i = some b) :
    g' (sig f ids i) = some (renB (sig f ids) b) ∧ f.sn s2 i ∧ (∀ c ∈ b.cells, SV1 (f.sn s2) c) ∧ (sig f ids i = i ∧ i < n ∨ (f.j ≤ i ∧ i < f.j + f.a.length ∧ n ≤ sig f ids i)) ∨ ¬ (∀ i, s2 i → i < n) := by
  by_cases hn : ∀ i, s2 i → i < n
  case neg => exact .inr hn
  left
  by_cases hr : f.j ≤ i ∧ i < f.j + f.a.length
  · obtain ⟨h1, h2⟩ := hr
    obtain ⟨hlt, hs⟩ := sig_new hF h1 h2
    have hm : f.a[i - f.j]? = some f.a[i - f.j] := List.getElem?_eq_getElem (by omega)
    have hb' : f.ap g2 i = some f.a[i - f.j] := by
      have := addAll_get (g := setAll g2 f.w) (j := f.j) hm
      rw [show f.j + (i - f.j) = i by omega] at this
      exact this
    rw [hb] at hb'
    cases hb'
    obtain ⟨x, hx, hg⟩ := hF.blk _ _ hm
    rw [List.getElem?_eq_getElem hlt] at hx
    cases hx
    refine ⟨by rw [hs]; exact hg, .inr ⟨h1, h2⟩, hF.sva _ (List.mem_of_getElem? hm), .inr ⟨h1, h2, ?_⟩⟩
    rw [hs]
    exact hF.new _ (List.getElem_mem _)
  · have hout : f.ap g2 i = setAll g2 f.w i := by
      unfold Eff.ap
      rw [addAll_out (by omega)]
    rw [hout] at hb
    by_cases hw : i ∈ f.w.map (·.1)
    · obtain ⟨b', h1, h2⟩ := hF.wrt i hw
      rw [hb] at h1
      cases h1
      obtain ⟨b0, hb0⟩ := Option.isSome_iff_exists.1 (hF.wdom i hw)
      have hsi := h0.seen i b0 hb0
      have hσ := sig_old hF hfr hsi
      obtain ⟨p, hp, e⟩ := setAll_mem hw hb
      refine ⟨by rw [hσ]; exact h2, .inl hsi, fun c hc => hF.svw p hp c (by rw [e]; exact hc), .inl ⟨hσ, hn i hsi⟩⟩
    · rw [setAll_out hw] at hb
      have hsi := h0.seen i b hb
      have hσ := sig_old hF hfr hsi
      have hren : renB (sig f ids) b = b := by
        unfold renB
        have : b.cells.map (ren1 (sig f ids)) = b.cells := by
          exact (List.map_congr_left (f := ren1 (sig f ids)) (g := id) (fun c hc => ren1_old (fun i hi => sig_old hF hfr hi) (h0.wf i b hb c hc))).trans (by simp)
        rw [this]
      exact ⟨by rw [hσ, hren]; exact hF.old i b hw hb, .inl hsi, fun c hc => SV1.imp (fun _ => .inl) (h0.wf i b hb c hc), .inl ⟨hσ, hn i hsi⟩⟩

theorem VR_ren (σ : Nat → Nat) {g' G : Heap} {ρ' : Ren} (hG : ∀ i b, G i = some b → g' (σ i) = some (renB σ b)) {c c' : Value} (h : VR ρ' g' (ren1 σ c) c') : VR (fun i => ρ' (σ i)) G c c' := by
  have hlen : ∀ b, (renB σ b).cells.length = b.cells.length := fun b => by simp [renB]
  cases c with
  | pointer a => cases a with
    | none => exact h
    | some a =>
      obtain ⟨ver, hs, a', e, hk⟩ := VR_ptr h
      refine ⟨ver, hs, a', e, fun b hb => ?_⟩
      have := hk _ (hG a.block b hb)
      rw [hlen] at this
      exact this
  | slice a l e => cases a with
    | none => exact h
    | some a =>
      simp only [ren1] at h
      split at h
      · rename_i hsp
        obtain ⟨a', cap', e', q1, q2, q3, hk⟩ := VR_slice h
        refine ⟨a', cap', e', q1, q2, q3, fun ver b hv hb => ?_⟩
        have := hk ver _ hv (hG a.block b hb)
        rw [hlen] at this
        exact this
      · rename_i hsp
        obtain ⟨a', cap', e', q1, q2, q3, hk⟩ := VR_slice h
        refine ⟨a', cap', e', q1, q2, q3, fun ver b hv hb => ?_⟩
        rw [hv] at hsp
        simp at hsp
  | _ => exact h

theorem VT_ren (σ : Nat → Nat) {g' G : Heap} {ρ' : Ren} (hG : ∀ i b, G i = some b → g' (σ i) = some (renB σ b)) {c c' : Value} (h : VT ρ' g' (renT σ c) c') : VT (fun i => ρ' (σ i)) G c c' := by
  have hA : ∀ {c c' : Value}, VA ρ' g' (renA σ c) c' → VA (fun i => ρ' (σ i)) G c c' := by
    intro c c' h
    cases c with
    | agg cs =>
      obtain ⟨cs', e, h1, h2⟩ := h
      refine ⟨cs', e, by simpa using h1, fun i a ha => ?_⟩
      obtain ⟨b, hb, hr⟩ := h2 i (ren1 σ a) (by simp only [Array.toList_map, List.getElem?_map, ha, Option.map_some])
      exact ⟨b, hb, VR_ren σ hG hr⟩
    | pointer a =>
      have h' : VR ρ' g' (ren1 σ (.pointer a)) c' := by cases a <;> exact h
      exact VR_ren σ hG h'
    | slice a l e =>
      have h' : VR ρ' g' (ren1 σ (.slice a l e)) c' := by cases a <;> exact h
      exact VR_ren σ hG h'
    | _ => exact h
  cases c with
  | tuple vs =>
    obtain ⟨vs', e, h1, h2⟩ := h
    refine ⟨vs', e, by simpa using h1, fun i a ha => ?_⟩
    obtain ⟨b, hb, hr⟩ := h2 i (renA σ a) (by simp only [Array.toList_map, List.getElem?_map, ha, Option.map_some])
    exact ⟨b, hb, hA hr⟩
  | agg cs => exact hA (c := .agg cs) h
  | pointer a => exact hA (c := .pointer a) (by cases a <;> exact h)
  | slice a l e => exact hA (c := .slice a l e) (by cases a <;> exact h)
  | _ => exact h

theorem fin_HR (hF : Fin f ids s2 g2 n g' v') (hfr : Fresh f s2) (hs : ∀ i, s2 i → i < n) (h0 : HR base w0 ρ g2 s2 w) (h1 : HR base w0 ρ' g' (· < n') w') (hM : Mono ρ g2 s2 ρ' g') :
    HR base w0 (fun i => ρ' (sig f ids i)) (f.ap g2) (f.sn s2) w' ∧ Mono ρ g2 s2 (fun i => ρ' (sig f ids i)) (f.ap g2) ∧
      ∀ u, VT ρ' g' v' u → VV (fun i => ρ' (sig f ids i)) (f.ap g2) (f.sn s2) f.v u := by
  have key : ∀ i b, f.ap g2 i = some b → g' (sig f ids i) = some (renB (sig f ids) b) ∧ f.sn s2 i ∧ (∀ c ∈ b.cells, SV1 (f.sn s2) c) ∧ (sig f ids i = i ∧ i < n ∨ (f.j ≤ i ∧ i < f.j + f.a.length ∧ n ≤ sig f ids i)) :=
    fun i b hb => (ap_cases hF hfr h0 hb).resolve_right (fun h => h hs)
  have hG : ∀ i b, f.ap g2 i = some b → g' (sig f ids i) = some (renB (sig f ids) b) := fun i b hb => (key i b hb).1
  refine ⟨⟨h1.below, h1.hb, fun i b hb => (key i b hb).2.1, ?_, fun i b hb => (key i b hb).2.2.1, fun i b hb hr => ?_, fun i b hb hr => ?_, fun i k b b' hb hb' hr e => ?_⟩, fun i b' hi hb' => ?_, fun u hu => ?_⟩
  · obtain ⟨m, hm⟩ := h0.fin
    refine ⟨max m (f.j + f.a.length), fun i hi => ?_⟩
    rcases hi with hi | hi
    · have := hm i hi; omega
    · omega
  · obtain ⟨q1, q2⟩ := h1.ro _ _ (hG i b hb) hr
    refine ⟨q1, fun k c hc => ?_⟩
    obtain ⟨c', hc', hv⟩ := q2 k (ren1 (sig f ids) c) (by simp [renB, hc])
    exact ⟨c', hc', VR_ren _ hG hv⟩
  · obtain ⟨q1, q2, cur, q3, q4, q5⟩ := h1.own _ _ (hG i b hb) hr
    refine ⟨q1, q2, cur, q3, q4, fun k c hc => ?_⟩
    obtain ⟨c', hc', hv⟩ := q5 k (ren1 (sig f ids) c) (by simp [renB, hc])
    exact ⟨c', hc', VR_ren _ hG hv⟩
  · have e' := h1.inj _ _ _ _ (hG i b hb) (hG k b' hb') hr e
    rcases (key i b hb).2.2.2 with ⟨a1, a2⟩ | ⟨a1, a2, a3⟩
    · rcases (key k b' hb').2.2.2 with ⟨c1, c2⟩ | ⟨c1, c2, c3⟩
      · rw [a1, c1] at e'; exact e'
      · omega
    · rcases (key k b' hb').2.2.2 with ⟨c1, c2⟩ | ⟨c1, c2, c3⟩
      · omega
      · obtain ⟨l1, s1⟩ := sig_new hF a1 a2
        obtain ⟨l2, s2'⟩ := sig_new hF c1 c2
        rw [s1, s2'] at e'
        have hp := List.pairwise_iff_getElem.1 hF.nodup
        rcases Nat.lt_trichotomy (i - f.j) (k - f.j) with h | h | h
        · exact absurd e' (hp _ _ l1 l2 h)
        · omega
        · exact absurd e'.symm (hp _ _ l2 l1 h)
  · have hσ := sig_old hF hfr hi
    have h2 := hG i b' hb'
    rw [hσ] at h2
    obtain ⟨b, hb, k1, k2, k3⟩ := hM i _ hi h2
    refine ⟨b, hb, fun e => k1 e, by simpa [renB] using k2, fun e => ?_⟩
    show ρ' (sig f ids i) = ρ i
    rw [hσ]
    exact k3 (by simpa [renB] using e)
  · rw [hF.val] at hu
    exact ⟨VT_ren _ hG hu, hF.sv⟩
end

/-- A function's result, off its slots. -/
def resVal (rs : List Tmp) (t : Nat → Value) : Value :=
  match rs with
  | [r] => t r
  | rs => .tuple (rs.map t).toArray

theorem run_results {P : Program} {fn : Func} {rs : List Tmp} (h : fn.results = (rs.map ResultVar.tmp).toArray) (tmps : Array Value) (w : World) :
    (results fn tmps).run P w = .ok (resVal rs fun i => tmps.getD i undef) w := by
  have hm : ∀ (rs : List Tmp) (w : World), ((rs.map ResultVar.tmp).mapM fun x => (match x with
      | .tmp t => pure (tmps.getD t undef)
      | .cell a t => do loadVar t (← asAddr (tmps.getD a undef)) : Sem Value)).run P w = .ok (rs.map fun i => tmps.getD i undef) w := by
    intro rs
    induction rs with
    | nil => intro w; simp
    | cons r rs ih => intro w; simp only [List.map_cons, List.mapM_cons, Sem.run_bind, Sem.run_pure, Result.andThen_ok, ih]
  have hvs : (fn.results.mapM fun x => (match x with
      | .tmp t => pure (tmps.getD t undef)
      | .cell a t => do loadVar t (← asAddr (tmps.getD a undef)) : Sem Value)).run P w = .ok (rs.map fun i => tmps.getD i undef).toArray w := by
    rw [h, List.mapM_toArray]
    simp only [Sem.run_map, hm, Result.andThen_ok]
  have hr : (results fn tmps).run P w = .ok (if h : (rs.map fun i => tmps.getD i undef).toArray.size = 1 then (rs.map fun i => tmps.getD i undef).toArray[0] else .tuple (rs.map fun i => tmps.getD i undef).toArray) w := by
    unfold results
    rw [Sem.run_bind]
    exact congrArg (fun r => Result.andThen r fun (vs : Array Value) w' => (pure (if h : vs.size = 1 then vs[0] else Value.tuple vs) : Sem Value).run P w') hvs
  rw [hr]
  congr 1
  unfold resVal
  rcases rs with _ | ⟨r, _ | ⟨q, rs⟩⟩
  · rfl
  · rfl
  · rw [dif_neg (by simp)]

theorem VV_res {ρ : Ren} {g : Heap} {s : Nat → Prop} {t : Nat → Value} {tmps : Array Value} {rs : List Tmp} (hv : ∀ i, VV ρ g s (t i) (tmps.getD i undef)) (ht : rs.length ≠ 1 → ∀ r ∈ rs, isTup (t r) = false) :
    VT ρ g (resVal rs t) (resVal rs fun i => tmps.getD i undef) := by
  have hva : ∀ {v v' : Value}, VV ρ g s v v' → isTup v = false → VA ρ g v v' := by
    intro v v' h1 h2
    cases v <;> first | exact h1.1 | (simp [isTup] at h2; done)
  unfold resVal
  rcases rs with _ | ⟨r, _ | ⟨q, rs⟩⟩
  · exact ⟨_, rfl, by simp [All2]⟩
  · exact (hv r).1
  · refine ⟨_, rfl, by simp, fun i a ha => ?_⟩
    simp only [List.getElem?_map, Option.map_eq_some_iff] at ha
    obtain ⟨x, hx, rfl⟩ := ha
    exact ⟨tmps.getD x undef, by simp only [List.getElem?_map, hx, Option.map_some], hva (hv x) (ht (by simp) x (List.mem_of_getElem? hx))⟩

/-- A function's contract out of its body. -/
theorem spec_of_body {P : Program} {k : FuncId} {fn : Func} {c : Code} {args : List Value} {g : Heap} {f : Eff} (rs : List Tmp) (hm : P.follows .mixedOrders = true) (hf : P.funcs[k]? = some fn) (hb : fn.body = some c)
    (hname : (fn.name == "runtime.NumGoroutine") = false) (hN : args.length ≤ fn.ntmps) (hok : okCode fn.ntmps c = true) (hrs : fn.results = (rs.map ResultVar.tmp).toArray)
    (h : ∀ (g2 : Heap) (s2 : Nat → Prop) (n : Nat), (∀ i ∈ f.fp, g2 i = g i) → Fresh f s2 → (∀ i, s2 i → i < n) → f.j + f.a.length ≤ n → (∀ i b, g2 i = some b → s2 i ∧ ∀ c ∈ b.cells, SV1 s2 c) → (∀ a ∈ args, SVT s2 a) →
      awp P c (fun e t' g' _ => (e = .normal ∨ e = .ret) ∧ (rs.length ≠ 1 → ∀ r ∈ rs, isTup (t' r) = false) ∧ ∃ ids, Fin f ids s2 g2 n g' (resVal rs t')) (fun i => args[i]?.getD undef) g2 n) : FnSpec P k args g f := by
  intro g2 s2 hg hfr base w0 ρ w args' o a K Q hR ha hk
  obtain ⟨n1, hn1⟩ := hR.fin
  obtain ⟨n, hn, hnj⟩ : ∃ n, (∀ i, s2 i → i < n) ∧ f.j + f.a.length ≤ n := ⟨max n1 (f.j + f.a.length), fun i hi => by have := hn1 i hi; omega, by omega⟩
  have hargs : ∀ a ∈ args, SVT s2 a := fun a hma => by
    obtain ⟨i, hi, e⟩ := List.mem_iff_getElem.1 hma
    obtain ⟨b, _, hv⟩ := ha.2 i a (by rw [List.getElem?_eq_getElem hi, e])
    exact hv.2
  have hw := h g2 s2 n hg hfr hn hnj (fun i b hb => ⟨hR.seen i b hb, hR.wf i b hb⟩) hargs
  have hcall : (callFunc k args').run P w = .ok (.enter k args') w := by
    unfold callFunc
    simp only [Sem.run_bind, run_program, Result.andThen_ok, hf, hname, Bool.false_eq_true, if_false, hb, Option.isNone_some, Sem.run_pure]
  rw [hcall]
  show Calls P k args' w _
  refine calls_of_wp hf hb ?_
  have hsz : args'.size = args.length := by have := ha.1; simpa using this.symm
  have hR0 : HR base w0 ρ g2 (· < n) w := hR.seenMore hn ⟨n, fun i hi => hi⟩
  have hT0 : TR fn.ntmps ρ g2 (· < n) (fun i => args[i]?.getD undef) { tmps := args' ++ Array.replicate (fn.ntmps - args'.size) undef, defers := [] } := by
    refine ⟨rfl, by simp [hsz]; omega, fun i => ?_⟩
    rcases Nat.lt_or_ge i args.length with hlt | hge
    · obtain ⟨b, hb', hv⟩ := ha.2 i args[i] (List.getElem?_eq_getElem hlt)
      have e1 : args[i]?.getD undef = args[i] := by rw [List.getElem?_eq_getElem hlt]; rfl
      have e2 : (args' ++ Array.replicate (fn.ntmps - args'.size) undef).getD i undef = b := by
        have hb2 : args'[i]? = some b := by simpa using hb'
        have hlt' : i < args'.size := by omega
        rw [Array.getD_eq_getD_getElem?, Array.getElem?_append_left hlt', hb2]
        rfl
      rw [e1, e2]
      exact hv.imp hn
    · have e1 : args[i]?.getD undef = undef := by rw [List.getElem?_eq_none hge]; rfl
      have e2 : (args' ++ Array.replicate (fn.ntmps - args'.size) undef).getD i undef = undef := by
        rw [Array.getD_eq_getD_getElem?, Array.getElem?_append_right (by omega), Array.getElem?_replicate]
        split <;> rfl
      rw [e1, e2]
      exact VV_undef
  refine Code.wp_mono ?_ (awp_sound (N := fn.ntmps) (base := base) (w0 := w0) (ρ0 := ρ) (gg := g2) (ss := s2) hm c _ _ g2 n _ w hok hw ⟨ρ, hR0, hT0, Mono.refl _ _ _, hn⟩)
  intro e a' w' hl
  obtain ⟨t', g', n', ⟨he, ht, ids, hF⟩, hh⟩ := hl
  obtain ⟨ρ', hR', hT', hM', _⟩ := hh.ex
  obtain ⟨k1, k2, k3⟩ := fin_HR hF hfr hn hR hR' hM'
  have hend : bodyPost P fn (fun
      | .returned v, w'' => K (a.put o.dst v) w''
      | .panicked chain, w'' => Q (.panic chain) a w''
      | .outgrown, _ => LetsOut Q) .normal a' w' :=
    ⟨hT'.defers, _, run_results hrs _ _, hk _ w' _ k1 k2 (k3 _ (VV_res hT'.val ht))⟩
  rcases he with rfl | rfl
  · exact hend
  · exact hend

end Go.Proofs.Ytokmmcfnpobldaa.Abs
