import Derived.Test.YtdpkhijbikbhnaaT12
namespace Go.Proofs.Ytdpkhijbikbhnaa
open Go Abs Plain
set_option linter.unusedSimpArgs false
set_option linter.unusedVariables false

theorem src_form {g : Heap} {v : Value} {m : Nat} {cs : List Value} (h : Src g v 1 m cs) : ∃ a k, v = .slice a m k := by
  rcases h with ⟨rfl, rfl, _⟩ | ⟨a, rfl, rfl, _⟩ | ⟨a, b, rfl, _⟩
  · exact ⟨none, 0, rfl⟩
  · exact ⟨some a, 1, rfl⟩
  · exact ⟨some a, 1, rfl⟩
theorem box_sl {v : Value} {a : Option Addr} {m k : Nat} (T : TypeId) (j : Nat) (h : v = .slice a m k) : stepBox T v j = some { v := .pointer (some ⟨j, 0, some 1⟩), j := j, a := [⟨false, T, [v]⟩] } := by subst h; rfl
theorem clo_1 (k : FuncId) (a : Addr) : stepClo (.func k) [] [.pointer (some a)] = some { v := .iface k (.agg #[.pointer (some a)]) } := rfl

section
variable {s2 : Nat → Prop} {g2 g' : Heap} {n : Nat} {v' : Value}
/-- One new block of old values. -/
theorem fin_box {v : Value} {e : TypeId} {cs : List Value} {j k : Nat} {r : List Nat} (hv : v' = renT (fun i => if i = j then k else i) v) (hsv : SVT (fun i => s2 i ∨ i = j) v) (hk : n ≤ k) (hg : g' k = some ⟨false, e, cs⟩) (hcs : ∀ c ∈ cs, SV1 s2 c) (hj : ¬ s2 j)
    (hold : ∀ i b, g2 i = some b → g' i = some b) : Abs.Fin { v := v, r := r, j := j, a := [⟨false, e, cs⟩] } [k] s2 g2 n g' v' := by
  have hsig : (sig ({ v := v, r := r, j := j, a := [⟨false, e, cs⟩] } : Eff) [k]) = fun i => if i = j then k else i := by
    funext i
    unfold sig
    by_cases h : i = j
    · subst h; simp
    · rw [if_neg h]
      show (if j ≤ i then _ else i) = i
      split
      · rw [List.getElem?_eq_none (by simp; omega)]; rfl
      · rfl
  have hsn : ∀ i, s2 i ∨ i = j → ({ v := v, r := r, j := j, a := [⟨false, e, cs⟩] } : Eff).sn s2 i := fun i hi => by
    rcases hi with h | h
    · exact .inl h
    · exact .inr ⟨by show j ≤ i; omega, by show i < j + 1; omega⟩
  refine ⟨rfl, by simpa using hk, by simp, by rw [hsig]; exact hv, fun m b hm => ?_, by simp, by simp, fun i b _ h => hold i b h, SVT.imp hsn hsv, fun b hb c hc => ?_, by simp⟩
  · rw [hsig]
    rcases m with _ | m
    · simp at hm; subst hm
      refine ⟨k, rfl, ?_⟩
      rw [renB_old (s := s2) (fun i hi => if_neg (fun (e : i = j) => hj (by rw [← e]; exact hi))) hcs]
      exact hg
    · simp at hm
  · simp at hb; subst hb
    exact SV1.imp (fun _ => .inl) (hcs c hc)
end

theorem fresh_one {s2 : Nat → Prop} {f : Eff} {b : Blk} (h : Fresh f s2) (ha : f.a = [b]) : ¬ s2 f.j := h f.j (Nat.le_refl _) (by rw [ha]; simp)

set_option maxRecDepth 10000 in
theorem values_spec (v : Value) (m : Nat) (cs : List Value) (g : Heap) (j : Nat) (hv : Src g v 1 m cs) : FnSpec Try.prog 49 [v] g { v := .iface 68 (.agg #[.pointer (some ⟨j, 0, some 1⟩)]), j := j, a := [⟨false, 22, [v]⟩] } := by
  obtain ⟨a, k, hf⟩ := src_form hv
  refine spec_of_body [2] follows Try.func49 rfl (by kernel_rfl) (by simp [Try.f49]) (by kernel_rfl) rfl ?_
  intro g2 s2 n hg hfr hs hn hwf hsv
  refine s_run (by simp only [runL, Option.getD_some, List.getElem?_cons_zero, awant_none, astep, evl, put, ap_none, ap_new, List.length_nil, List.length_cons, Nat.add_zero, Nat.zero_add, undef, box_sl 22 n hf] <;> rfl) (w_heap fun G1 hG1 => ?_)
  refine s_run (by simp only [runL, awant_none, astep, evl, put, ap_none, List.length_nil, Nat.add_zero, upd_app, ↓reduceIte, Nat.reduceEqDiff, List.map_cons, List.map_nil, clo_1] <;> rfl) ?_
  have hj := fresh_one hfr rfl
  refine w_ret ⟨.inr rfl, by simp, [n], fin_box (by simp [resVal, renT, ren1]) (fun c hc => ?_) (Nat.le_refl _) (by rw [hG1]; simp []) (fun c hc => ?_) hj (fun i b hb => ?_)⟩
  · simp at hc; subst hc; exact .inr rfl
  · simp at hc; subst hc
    have := hsv c (by simp)
    rw [hf] at this ⊢; exact this
  · have := hs i (hwf i b hb).1
    rw [hG1, upd_ne _ _ (by omega)]; exact hb

set_option maxRecDepth 10000 in
theorem backward_spec (v : Value) (m : Nat) (cs : List Value) (g : Heap) (j : Nat) (hv : Src g v 1 m cs) : FnSpec Try.prog 52 [v] g { v := .iface 70 (.agg #[.pointer (some ⟨j, 0, some 1⟩)]), j := j, a := [⟨false, 22, [v]⟩] } := by
  obtain ⟨a, k, hf⟩ := src_form hv
  refine spec_of_body [2] follows Try.func52 rfl (by kernel_rfl) (by simp [Try.f52]) (by kernel_rfl) rfl ?_
  intro g2 s2 n hg hfr hs hn hwf hsv
  refine s_run (by simp only [runL, Option.getD_some, List.getElem?_cons_zero, awant_none, astep, evl, put, ap_none, ap_new, List.length_nil, List.length_cons, Nat.add_zero, Nat.zero_add, undef, box_sl 22 n hf] <;> rfl) (w_heap fun G1 hG1 => ?_)
  refine s_run (by simp only [runL, awant_none, astep, evl, put, ap_none, List.length_nil, Nat.add_zero, upd_app, ↓reduceIte, Nat.reduceEqDiff, List.map_cons, List.map_nil, clo_1] <;> rfl) ?_
  have hj := fresh_one hfr rfl
  refine w_ret ⟨.inr rfl, by simp, [n], fin_box (by simp [resVal, renT, ren1]) (fun c hc => ?_) (Nat.le_refl _) (by rw [hG1]; simp []) (fun c hc => ?_) hj (fun i b hb => ?_)⟩
  · simp at hc; subst hc; exact .inr rfl
  · simp at hc; subst hc
    have := hsv c (by simp)
    rw [hf] at this ⊢; exact this
  · have := hs i (hwf i b hb).1
    rw [hG1, upd_ne _ _ (by omega)]; exact hb

theorem Own.keepR {e : TypeId} {g g' : Heap} {v : Value} {l : List Value} {n n' n'' : Nat} (h : Own e g v l n n') (hk : ∀ q, n ≤ q → q < n' → g' q = g q) (hn : n' ≤ n'') : Own e g' v l n n'' := by
  obtain ⟨i, h, hi⟩ := h
  exact ⟨i, h.keep fun k hk' => hk k (hi k hk').1 (hi k hk').2.1, fun q hq => by have := hi q hq; omega⟩
theorem Own.low {e : TypeId} {g : Heap} {v : Value} {l : List Value} {n m n' : Nat} (h : Own e g v l n n') (hn : m ≤ n) : Own e g v l m n' := by
  obtain ⟨i, h, hi⟩ := h
  exact ⟨i, h, fun q hq => by have := hi q hq; omega⟩

theorem rt1 (t : Nat → Value) (p : Tmp) (v : Value) : rt t #[p] #[v] = upd t p v := by simp [rt]
theorem rt2 (t : Nat → Value) (p q : Tmp) (v w : Value) : rt t #[p, q] #[v, w] = upd (upd t p v) q w := by simp [rt]
theorem aggTS : aggT Try.prog 22 = some false := aggTI
theorem intsI_app (a b : List Int) : intsI a ++ intsI b = intsI (a ++ b) := by simp [intsI]

set_option maxRecDepth 10000 in
theorem appendSeq_spec (q : Nat) (v : Value) (xs : List Int) (g : Heap) (j : Nat) (hl : xs.length ≤ 2 ^ 38) (hA : BoxA q v xs g) :
    FnSpec Try.prog 75 [.slice none 0 0, .iface 68 (.agg #[.pointer (some ⟨q, 0, some 1⟩)])] g (newE 3 (intsI xs) (q :: srcBlk v) j) := by
  refine spec_of_body [4] follows Try.func75 rfl (by kernel_rfl) (by simp [Try.f75]) (by kernel_rfl) rfl ?_
  intro g2 s2 n hg hfr hs hn hwf hsv
  rw [newE_fp] at hg
  have hA2 : BoxA q v xs g2 := ⟨by rw [hg q (by simp)]; exact hA.1, hA.2.congr fun i hi => hg i (by simp [hi])⟩
  have hqd : q < n := hs q (hwf q _ hA2.1).1
  have hvd := dom_of hs hwf hA2.2
  clear hg hfr hn hA
  refine s_run (by simp only [runL, Option.getD_some, List.getElem?_cons_zero, awant_none, astep, evl, put, ap_none, ap_new, List.length_nil, List.length_cons, Nat.add_zero, Nat.zero_add, undef, box_sl (v := .slice none 0 0) 22 n rfl] <;> rfl) (w_heap fun G1 hG1 => ?_)
  have b1 : G1 n = some ⟨false, 22, [.slice none 0 0]⟩ := by rw [hG1]; simp []
  have k1 : Kp n g2 G1 := by rw [hG1]; exact kp_upd (Kp.refl _ _) (Nat.le_refl _)
  clear hG1
  refine w_assoc (s_run (by simp only [runL, Option.getD_some, List.getElem?_cons_succ, List.getElem?_cons_zero, awant_none, astep, evl, put, ap_none, List.length_nil, Nat.add_zero, upd_app, ↓reduceIte, Nat.reduceEqDiff] <;> rfl) ?_)
  refine w_seq (w_block ?_)
  refine ⟨_, _, _, _, _, 68, #[.pointer (some ⟨q, 0, some 1⟩)], xs.length, fun k => #[.int .i64 (xs[k]?.getD 0)], BoxA q v xs,
    fun k g n' => ∃ z, g n = some ⟨false, 22, [z]⟩ ∧ Own 3 g z (intsI (xs.take k)) (n + 1) n' ∧ Kp n g2 g ∧ n + 1 ≤ n', rfl, rfl, by simp [evl], iter_values q v xs (by omega), fun k => ⟨rfl, by simp [plain]⟩, ?_, ?_, ?_, ?_⟩
  · exact ⟨_, b1, by simpa using Own.nil _ _ _ _, k1, Nat.le_refl _⟩
  · rintro k g n' ⟨z, _, _, hk, _⟩
    exact ⟨by rw [hk q hqd]; exact hA2.1, hk.src hA2.2 hvd⟩
  · rintro k G n' hk ⟨z, b, hO, hkp, hnn⟩
    have hx : xs[k]?.getD 0 = xs[k] := by simp [hk]
    refine ops_run (by simp only [runL, awant_none, astep, evl, put, ap_none, List.length_nil, Nat.add_zero, upd_app, ↓reduceIte, rt1, hx] <;> rfl) ⟨rfl, rfl, ?_⟩
    have hld := ld_at (P := Try.prog) (T := 22) (i := 0) (c := z) (s := some 1) b rfl rfl aggTS
    obtain ⟨f, hf, hO', hk'⟩ := hO.push (P := Try.prog) (T := 22) (c := .int .i64 xs[k]) Try.underlying22 tinf3 (by simp; omega) (by omega) hnn
    refine ops_take 4 (by simp only [runL, List.take_succ_cons, List.take_zero, awant_none, astep, evl, put, ap_none, ap_new, List.length_nil, List.length_cons, Nat.add_zero, Nat.zero_add, upd_app, stepCall, ↓reduceIte, Nat.reduceEqDiff, List.map_cons, List.map_nil, undef, hld, litI_1, hf] <;> rfl) ?_
    dsimp only
    refine ops_heap fun G2 hG2 => ?_
    rw [← hG2] at hO' hk'
    have b2 : G2 n = some ⟨false, 22, [z]⟩ := by rw [hk' n (by omega)]; exact b
    obtain ⟨fa, fk, hfv⟩ := own_sl hO'
    have hst := st_at (P := Try.prog) (T := 22) (i := 0) (c := f.v) (d := z) (s := some 1) b2 rfl (by simp) tsizeI (by rw [hfv]; rfl) (by rw [hfv]; rfl)
    refine ops_run (by simp only [runL, List.drop_succ_cons, List.drop_zero, awant_none, astep, evl, put, ap_wr, List.length_nil, Nat.add_zero, upd_app, ↓reduceIte, Nat.reduceEqDiff, undef, hst] <;> rfl) ?_
    have e : intsI (xs.take (k + 1)) = intsI (xs.take k) ++ [.int .i64 xs[k]] := by rw [List.take_succ_eq_append_getElem hk]; exact (intsI_app _ _).symm
    refine ⟨f.v, by simp [], ?_, fun x hx => ?_, by first | omega | (simp; omega)⟩
    · rw [e]
      exact hO'.keepR (fun x h1 h2 => upd_ne _ _ (by omega)) (Nat.le_refl _)
    · show upd G2 n _ x = g2 x
      rw [upd_ne _ _ (by omega), hk' x (by omega), hkp x hx]
  · rintro G n' ⟨z, b, hO, hkp, hnn⟩
    rw [List.take_length] at hO
    have hld := ld_at (P := Try.prog) (T := 22) (i := 0) (c := z) (s := some 1) b rfl rfl aggTS
    show awp _ _ _ _ _ _
    refine s_run (by simp only [runL, awant_none, astep, evl, put, ap_none, List.length_nil, Nat.add_zero, upd_app, ↓reduceIte, Nat.reduceEqDiff, hld] <;> rfl) ?_
    refine w_ret ⟨.inr rfl, by simp, ?_⟩
    have := (hO.low (Nat.le_succ n)).fin (r := q :: srcBlk v) (j := j) plain_intsI hs hwf hkp
    simpa [resVal, upd_app] using this

set_option maxRecDepth 10000 in
theorem collect_spec (q : Nat) (v : Value) (xs : List Int) (g : Heap) (j : Nat) (hl : xs.length ≤ 2 ^ 38) (hA : BoxA q v xs g) :
    FnSpec Try.prog 66 [.iface 68 (.agg #[.pointer (some ⟨q, 0, some 1⟩)])] g (newE 3 (intsI xs) (q :: srcBlk v) j) := by
  refine spec_of_body [2] follows Try.func66 rfl (by kernel_rfl) (by simp [Try.f66]) (by kernel_rfl) rfl ?_
  intro g2 s2 n hg hfr hs hn hwf hsv
  rw [newE_fp] at hg
  have hA2 : BoxA q v xs g2 := ⟨by rw [hg q (by simp)]; exact hA.1, hA.2.congr fun i hi => hg i (by simp [hi])⟩
  refine s_run (by simp only [runL, awant_none, astep, evl, put, ap_none, List.length_nil, Nat.add_zero, undef] <;> rfl) ?_
  refine s_take 1 (by simp only [runL, Option.getD_some, List.getElem?_cons_zero, List.take_succ_cons, List.take_zero, awant_none, astep, evl, put, ap_none, List.length_nil, Nat.add_zero, upd_app, reduceCtorEq, ↓reduceIte] <;> rfl) ?_
  refine ops_call 75 _ rfl (appendSeq_spec q v xs g2 n hl hA2) (fun _ => newE_j _ _ _ _) ?_
  refine ops_heap fun G1 hG1 => ?_
  have k1 : Kp n g2 G1 := by rw [hG1]; exact newE_kp (Kp.refl _ _) (Nat.le_refl _)
  have hO := newE_Own (e := 3) (cs := intsI xs) (r := q :: srcBlk v) (j := n) (n := n) g2 (Nat.le_refl _)
  rw [← hG1] at hO
  refine ops_run (by simp only [runL, awant_none, astep, evl, put, ap_none, List.length_nil, Nat.add_zero, upd_app, ↓reduceIte] <;> rfl) ?_
  refine w_ret ⟨.inr rfl, by simp, ?_⟩
  have := hO.fin (r := q :: srcBlk v) (j := j) plain_intsI hs hwf k1
  simpa [resVal, upd_app, put] using this

set_option maxRecDepth 10000 in
theorem sorted_spec (q : Nat) (v : Value) (xs : List Int) (g : Heap) (j : Nat) (hl : xs.length ≤ 2 ^ 38) (hA : BoxA q v xs g) :
    FnSpec Try.prog 48 [.iface 68 (.agg #[.pointer (some ⟨q, 0, some 1⟩)])] g (newE 3 (intsI (srt xs)) (q :: srcBlk v) j) := by
  refine spec_of_body [2] follows Try.func48 rfl (by kernel_rfl) (by simp [Try.f48]) (by kernel_rfl) rfl ?_
  intro g2 s2 n hg hfr hs hn hwf hsv
  rw [newE_fp] at hg
  have hA2 : BoxA q v xs g2 := ⟨by rw [hg q (by simp)]; exact hA.1, hA.2.congr fun i hi => hg i (by simp [hi])⟩
  refine s_run (by simp only [runL, awant_none, astep, evl, put, ap_none, List.length_nil, Nat.add_zero, undef] <;> rfl) ?_
  refine s_take 1 (by simp only [runL, Option.getD_some, List.getElem?_cons_zero, List.take_succ_cons, List.take_zero, awant_none, astep, evl, put, ap_none, List.length_nil, Nat.add_zero, upd_app, reduceCtorEq, ↓reduceIte] <;> rfl) ?_
  refine ops_call 66 _ rfl (collect_spec q v xs g2 n hl hA2) (fun _ => newE_j _ _ _ _) ?_
  refine ops_heap fun G1 hG1 => ?_
  have k1 : Kp n g2 G1 := by rw [hG1]; exact newE_kp (Kp.refl _ _) (Nat.le_refl _)
  by_cases h0 : xs = []
  · subst h0
    refine ops_run (by simp only [runL, awant_none, astep, evl, put, ap_none, List.length_nil, Nat.add_zero, upd_app, ↓reduceIte, List.map_nil] <;> rfl) ?_
    refine s_take 1 (by simp only [runL, List.take_succ_cons, List.take_zero, awant_none, astep, evl, put, ap_none, List.length_nil, Nat.add_zero, upd_app, ↓reduceIte] <;> rfl) ?_
    refine ops_call 67 _ rfl (sort_nil G1) (fun h => (h rfl).elim) ?_
    refine ops_run rfl ?_
    refine s_run (by simp only [runL, awant_none, astep, evl, put, ap_none, List.length_nil, Nat.add_zero, upd_app, ↓reduceIte, Nat.reduceEqDiff, undef] <;> rfl) ?_
    refine w_ret ⟨.inr rfl, by simp, ?_⟩
    have := (Own.nil 3 G1 n n).fin (r := q :: srcBlk v) (j := j) (by simp) hs hwf k1
    simpa [resVal, upd_app, put, srt, newE] using this
  · have hlen : (intsI xs).length ≠ 0 := by simpa using h0
    have b1 : G1 n = some ⟨false, 3, intsI xs⟩ := by rw [hG1, newE_own hlen]; simp [ap_new]
    have hlx : (intsI xs).length = xs.length := by simp
    refine ops_run (by simp only [runL, awant_none, astep, evl, put, ap_none, List.length_nil, List.length_cons, Nat.add_zero, Nat.zero_add, upd_app, ↓reduceIte, newE_own hlen, hlx] <;> rfl) ?_
    refine s_take 1 (by simp only [runL, List.take_succ_cons, List.take_zero, awant_none, astep, evl, put, ap_none, List.length_nil, Nat.add_zero, upd_app, ↓reduceIte] <;> rfl) ?_
    refine ops_call 67 _ rfl (sort_spec n xs G1 hl b1) (fun h => (h rfl).elim) ?_
    refine ops_heap fun G2 hG2 => ?_
    have b2 : G2 n = some ⟨false, 3, intsI (srt xs)⟩ := by rw [hG2]; simp [ap_wr]
    have k2 : Kp n g2 G2 := by rw [hG2]; simp only [ap_wr]; exact kp_upd k1 (Nat.le_refl _)
    refine ops_run rfl ?_
    refine s_run (by simp only [runL, awant_none, astep, evl, put, ap_none, List.length_nil, Nat.add_zero, upd_app, ↓reduceIte, Nat.reduceEqDiff, undef] <;> rfl) ?_
    refine w_ret ⟨.inr rfl, by simp, ?_⟩
    have hO : Own 3 G2 (.slice (some ⟨n, 0, some xs.length⟩) xs.length 1) (intsI (srt xs)) n (n + 1) := by
      have : OwnB 3 G2 (.slice (some ⟨n, 0, some xs.length⟩) xs.length 1) (intsI (srt xs)) n := ⟨by simp [srt_len], b2⟩
      exact this.toOwn (by simpa [srt_len] using h0) (Nat.le_refl _) (Nat.lt_succ_self _)
    have := hO.fin (r := q :: srcBlk v) (j := j) plain_intsI hs hwf k2
    simpa [resVal, upd_app, put] using this
end Go.Proofs.Ytdpkhijbikbhnaa
