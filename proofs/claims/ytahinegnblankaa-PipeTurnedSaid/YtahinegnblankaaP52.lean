import Derived.Test.YtahinegnblankaaP51
namespace Go.Proofs.Ytahinegnblankaa
open Go Abs
set_option linter.unusedSimpArgs false
set_option linter.unusedVariables false

abbrev msB (A cls o : Nat) : Blk := ⟨false, 104, [ptr2 (A + 2), ptr2 (A + 4), ptr2 (A + 6), .int .i64 (cls : Nat), .int .i64 (o : Nat)]⟩
def msE (A w cls o : Nat) (c : List Nat) : Eff := { v := .tuple #[], r := [A, A + 2 + 2 * w, A + 1 + 2 * w], w := [(A, msB A cls o), (A + 2 + 2 * w, moP (A + 1 + 2 * w) c), (A + 1 + 2 * w, moQ c)] }
theorem msE_ap {A w cls cls' o : Nat} {ms : Nat → List Nat} {c : List Nat} {g : Heap} (h : Ms A ms cls o g) (hw : w < 3) : Ms A (setF ms w c) cls' o ((msE A w cls' o c).ap g) ∧ ∀ i, (i < A ∨ A + 7 ≤ i) → (msE A w cls' o c).ap g i = g i := by
  have hv : ∀ i, (msE A w cls' o c).ap g i = if i = A + 1 + 2 * w then some (moQ c) else if i = A + 2 + 2 * w then some (moP (A + 1 + 2 * w) c) else if i = A then some (msB A cls' o) else g i := fun i => by
    simp [msE, Eff.ap, setAll, addAll, upd_app]
  refine ⟨⟨by rw [hv, if_neg (by omega), if_neg (by omega), if_pos rfl], fun i hi => ?_⟩, fun i hi => by rw [hv, if_neg (by omega), if_neg (by omega), if_neg (by omega)]⟩
  by_cases e : i = w
  · subst e
    rw [setF_self]
    exact ⟨by rw [hv, if_neg (by omega), if_pos rfl], by rw [hv, if_pos rfl]⟩
  · rw [setF_ne e]
    exact (h.mo i hi).congr (by rw [hv, if_neg (by omega), if_neg (by omega), if_neg (by omega)]) (by rw [hv, if_neg (by omega), if_neg (by omega), if_neg (by omega)])

theorem fin_w3 {s2 : Nat → Prop} {g2 g' : Heap} {n p q m : Nat} {v' v : Value} {r : List Nat} {j : Nat} {bp bq bm : Blk} (hpq : p ≠ q) (hmp : m ≠ p) (hmq : m ≠ q) (hv : v' = v) (hsv : SVT s2 v) (hdm : (g2 m).isSome = true) (hdp : (g2 p).isSome = true) (hdq : (g2 q).isSome = true) (hm : g' m = some bm) (hp : g' p = some bp) (hq : g' q = some bq) (hsm : ∀ c ∈ bm.cells, SV1 s2 c) (hsp : ∀ c ∈ bp.cells, SV1 s2 c) (hsq : ∀ c ∈ bq.cells, SV1 s2 c) (hold : ∀ i b, i ≠ m → i ≠ p → i ≠ q → g2 i = some b → g' i = some b) :
    Abs.Fin { v := v, r := r, w := [(m, bm), (p, bp), (q, bq)], j := j } [] s2 g2 n g' v' := by
  refine fin_w hv hsv (fun i hi => ?_) (fun i hi => ?_) (fun x hx => ?_) (fun i b' hi => hold i b' ?_ ?_ ?_)
  · simp at hi
    rcases hi with rfl | rfl | rfl
    · exact hdm
    · exact hdp
    · exact hdq
  · simp at hi
    rcases hi with rfl | rfl | rfl
    · exact ⟨bm, by simp [setAll, upd_app, hmp, hmq], hm⟩
    · exact ⟨bp, by simp [setAll, upd_app, hpq], hp⟩
    · exact ⟨bq, by simp [setAll], hq⟩
  · simp at hx
    rcases hx with rfl | rfl | rfl
    · exact hsm
    · exact hsp
    · exact hsq
  · simp at hi; exact hi.1
  · simp at hi; exact hi.2.1
  · simp at hi; exact hi.2.2

set_option maxRecDepth 10000 in
theorem msaw_spec (A : Nat) (ms : Nat → List Nat) (s o x : Nat) (g : Heap) (ho : o ≤ 1) (h : Ms A ms (clsN s) o g) (hG : Good (ms (whN o s))) (hx : x < (ms (whN o s)).length) : FnSpec Try.prog 83 [ptr5 A, .int .i64 x] g (msE A (whN o s) (clsN x) o (saw (ms (whN o s)) x)) := by
  refine spec_of_body [] follows Try.func83 rfl (by kernel_rfl) (by simp [Try.f83]) (by kernel_rfl) rfl ?_
  intro g2 s2 n hg hfr hs hn hwf hsv
  have hw := whN_lt (s := s) ho
  obtain ⟨w, hww⟩ : ∃ w, whN o s = w := ⟨_, rfl⟩
  have hN := fun g h => now_spec A ms s o g ho h
  rw [hww] at hG hx hw hg ⊢
  rw [hww] at hN
  have hA : g2 A = some (msB A (clsN s) o) := by rw [hg A (by simp [msE, Eff.fp])]; exact h.hm
  have hM : Mo (A + 2 + 2 * w) (A + 1 + 2 * w) (ms w) g2 := (h.mo w hw).congr (hg _ (by simp [msE, Eff.fp])) (hg _ (by simp [msE, Eff.fp]))
  have hnow : FnSpec Try.prog 82 [ptr5 A] g2 { v := ptr2 (A + 2 + 2 * w), r := [A] } := fun g3 s3 h1 h2 => hN g h g3 s3 (fun i hi => by rw [h1 i hi]; exact hg i (by simp [Eff.fp] at hi; subst hi; simp [msE, Eff.fp])) h2
  have hlen := hG.len
  have hsum := hG.sum
  refine s_take 1 (by simp only [runL, Option.getD_some, List.getElem?_cons_zero, List.take_succ_cons, List.take_zero, awant_none, astep, evl, put, ap_none, List.length_nil, Nat.add_zero, undef] <;> rfl) ?_
  refine ops_call 82 _ rfl hnow (by simp) ?_
  refine ops_take 1 (by simp only [runL, Option.getD_some, List.getElem?_cons_succ, List.getElem?_cons_zero, List.take_succ_cons, List.take_zero, awant_none, astep, evl, put, ap_none, List.length_nil, Nat.add_zero, upd_app, ↓reduceIte, Nat.reduceEqDiff] <;> rfl) ?_
  refine ops_call 43 _ rfl (saw_yes (A + 2 + 2 * w) (A + 1 + 2 * w) (ms w) x g2 hM (by omega) (by omega) hx) (by intro h; exact (h rfl).elim) (ops_heap fun G1 hG1 => ?_)
  have hne : A + 2 + 2 * w ≠ A + 1 + 2 * w := by omega
  obtain ⟨m1, o1⟩ := sawE_ap (c := saw (ms w) x) hne g2
  rw [← hG1] at m1 o1
  refine ops_run (by simp only [runL, put] <;> rfl) ?_
  have a1 : G1 A = some (msB A (clsN s) o) := by rw [o1 A (by omega) (by omega)]; exact hA
  refine w_gen (fun t => t 0 = ptr5 A ∧ t 1 = .int .i64 x) (by simp [upd_app]) ?_
  rintro t ⟨t0, t1⟩
  refine region_take (id := 1) 2 (by simp only [runL, List.take_succ_cons, List.take_zero, awant_none, astep, evl, put, ap_none, List.length_nil, Nat.add_zero, upd_app, ↓reduceIte, Nat.reduceEqDiff, t0, t1] <;> rfl) ?_
  refine ops_call 64 _ rfl (class_spec x G1) (by simp) ?_
  rw [clsI_nat]
  have hst : stepStore Try.prog 3 (.pointer (some ⟨A, 3, some 5⟩)) (.int .i64 (clsN x : Nat)) G1 = some { v := undef, r := [A], w := [(A, msB A (clsN x) o)] } := st_at (s := some 5) (d := undef) a1 rfl (by simp) tsize3 rfl rfl
  refine ops_run (by simp only [runL, awant_none, astep, evl, put, ap_none, ap_wr, List.length_nil, Nat.add_zero, upd_app, ↓reduceIte, Nat.reduceEqDiff, undef, nchk, fld104_1, hst] <;> rfl) ?_
  refine ⟨.inl rfl, by simp, [], fin_w3 hne (by omega) (by omega) (by simp [resVal]) (by intro c hc; simp at hc) (by rw [hA]; rfl) (by rw [hM.hp]; rfl) (by rw [hM.hq]; rfl) (by simp []) (by simp only []; rw [upd_ne _ _ (by omega)]; exact m1.hp) (by simp only []; rw [upd_ne _ _ (by omega)]; exact m1.hq) (fun c hc => ?_) (fun c hc => ?_) (fun c hc => SV1_plain (plain_ints c hc)) (fun i b h1 h2 h3 hb => by simp only []; rw [upd_ne _ _ h1, o1 i h2 h3]; exact hb)⟩
  · have hcell := (hwf A _ hA).2
    simp only [List.mem_cons, List.not_mem_nil, or_false] at hc
    rcases hc with rfl | rfl | rfl | rfl | rfl
    · exact hcell _ (by simp)
    · exact hcell _ (by simp)
    · exact hcell _ (by simp)
    · trivial
    · trivial
  · have hcell := (hwf _ _ hM.hp).2
    simp only [List.mem_cons, List.not_mem_nil, or_false] at hc
    rcases hc with rfl | rfl
    · have := hcell (.slice (some ⟨A + 1 + 2 * w, 0, some (ms w).length⟩) (ms w).length 1) (by simp)
      rcases this with h | h
      · cases h
      · exact .inr h
    · trivial
end Go.Proofs.Ytahinegnblankaa
