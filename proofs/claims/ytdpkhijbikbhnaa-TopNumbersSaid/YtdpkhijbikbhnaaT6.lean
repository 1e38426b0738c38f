import Derived.Test.YtdpkhijbikbhnaaT5
namespace Go.Proofs.Ytdpkhijbikbhnaa
open Go Abs Plain
set_option linter.unusedSimpArgs false
set_option linter.unusedVariables false

section
variable {P : Program} {ops : Array Oper} {bf : Array Nat} {K : (Nat → Value) → Heap → Nat → Prop} {o : Oper} {rest : List Oper} {idx : Nat} {acc : List FP} {t : Nat → Value} {g : Heap} {n : Nat}
/-- A call that only reads. -/
theorem d_rcall {c : Call} {fo : Operand} (k : FuncId) (f : Eff) (ho : o.op = .call c) (hc : c.callee = .value fo) (hf : evl t fo = .func (.func k) #[] #[]) (hw : awant ops o t = some true)
    (hspec : FnSpec P k (c.args.toList.map (evl t)) g f) (hfw : f.w = []) (hfa : f.a = []) (ha : ∀ p ∈ acc, p.1 < idx ∧ p.2.2 = [])
    (hk : ∀ acc', (∀ p ∈ acc', p.1 < idx + 1 ∧ p.2.2 = []) → awpD P ops bf K rest (idx + 1) acc' (put t o.dst f.v) g n) : awpD P ops bf K (o :: rest) idx acc t g n := by
  have hwr : f.wr = [] := by simp [Eff.wr, hfw, hfa]
  have hap : f.ap g = g := by simp [Eff.ap, hfw, hfa, setAll, addAll]
  refine d_call k f ho hc hf hw hspec (fun h => (h hfa).elim) (fun p hp => .inr ⟨by rw [(ha p hp).2]; simp, by rw [hwr]; simp⟩) ?_
  rw [hap, hfa, hwr]
  refine hk _ fun p hp => ?_
  rcases List.mem_cons.1 hp with rfl | hp
  · exact ⟨Nat.lt_succ_self _, rfl⟩
  · have := ha p hp; exact ⟨by omega, this.2⟩
end

def nats (a : List Int) : List Nat := a.map Int.toNat
abbrev zs (l : List Nat) : List Int := l.map fun (x : Nat) => (x : Int)
theorem ints_zs (l : List Nat) : ints l = intsI (zs l) := by simp [ints, intsI, zs]
theorem nats_zs (l : List Nat) : nats (zs l) = l := by simp [nats, zs, Function.comp_def]
theorem nats_len (a : List Int) : (nats a).length = a.length := by simp [nats]
theorem idx_zs (x : Nat) : ∀ l : List Nat, (zs l).idxOf (x : Int) = l.idxOf x
  | [] => rfl
  | y :: l => by
    have ih := idx_zs x l
    by_cases e : y = x
    · subst e; simp [zs]
    · have h1 : ((y : Int) == (x : Int)) = false := by simpa using (by omega : ¬ (y : Int) = (x : Int))
      have h2 : (y == x) = false := by simpa using e
      show ((y : Int) :: zs l).idxOf (x : Int) = _
      rw [List.idxOf_cons, List.idxOf_cons, h1, h2, ih]
theorem nodup_zs {l : List Nat} : (zs l).Nodup ↔ l.Nodup := by
  unfold List.Nodup
  rw [List.pairwise_map]
  exact ⟨fun h => h.imp fun h e => h (by rw [e]), fun h => h.imp fun h e => h (by omega)⟩
theorem permB_nat {a : List Int} (h : permB a = true) : a = zs (nats a) ∧ (nats a).Perm (List.range a.length) ∧ invL a = zs (rkL (nats a)) := by
  have h0 := of_decide_eq_true h
  have e : a = zs (nats a) := by
    unfold zs nats
    rw [List.map_map]
    refine ((List.map_congr_left (f := _) (g := id) fun x hx => ?_).trans (by simp)).symm
    have := (h0.1 x hx).1
    simp only [Function.comp_apply, id]
    omega
  refine ⟨e, ?_, ?_⟩
  · refine (List.perm_ext_iff_of_nodup ?_ List.nodup_range).2 fun x => ?_
    · have := h0.2; rw [e] at this; exact nodup_zs.1 this
    · rw [List.mem_range]
      constructor
      · intro hx
        have : (x : Int) ∈ a := by rw [e]; exact List.mem_map.2 ⟨x, hx, rfl⟩
        have := (h0.1 _ this).2
        omega
      · intro hx
        have := permB_mem h hx
        rw [e] at this
        obtain ⟨y, hy, e2⟩ := List.mem_map.1 this
        have : y = x := by omega
        subst this; exact hy
  · unfold invL rkL
    rw [nats_len, zs, List.map_map]
    refine List.map_congr_left fun x _ => ?_
    simp only [Function.comp_apply]
    conv => lhs; rw [e]
    rw [idx_zs]
theorem permB_of_perm {l : List Nat} {m : Nat} (h : l.Perm (List.range m)) : permB (zs l) = true := by
  refine decide_eq_true ⟨fun x hx => ?_, nodup_zs.2 (h.nodup_iff.2 List.nodup_range)⟩
  obtain ⟨y, hy, rfl⟩ := List.mem_map.1 hx
  have := h.mem_iff.1 hy
  have hl := h.length_eq
  simp at this hl
  simp
  omega
/-- Places in order, as the checker has it. -/
def saB (s : List Nat) (a : List Int) : Bool := permB a && (decide (a.length = s.length) && chk s (nats a))
theorem saB_iff (s : List Nat) (a : List Int) : saB s a = decide (a = zs (ordL s s.length)) := by
  rw [Bool.eq_iff_iff]
  unfold saB
  simp only [Bool.and_eq_true, decide_eq_true_eq]
  constructor
  · rintro ⟨h1, h2, h3⟩
    obtain ⟨e, hp, _⟩ := permB_nat h1
    rw [h2] at hp
    rw [e, SA.uniq ((chk_iff hp).1 h3) (ordL_SA s)]
  · rintro rfl
    have h := ordL_SA s
    exact ⟨permB_of_perm h.perm, by simpa using h.len, by rw [nats_zs]; exact chk_of h⟩

def lcpB (s : List Nat) (a : List Int) : Option (List Int) := if permB a = true ∧ a.length = s.length then some (zs (lcpL s (nats a))) else none

def preL (s A : List Nat) (k : Nat) : List Nat := (List.range A.length).map fun i => if i ≠ 0 ∧ i < k then cp (s.drop (nth A (i - 1))) (s.drop (nth A i)) else 0
theorem preL_len (s A : List Nat) (k : Nat) : (preL s A k).length = A.length := by simp [preL]
theorem preL_set {s A : List Nat} {k : Nat} (hk : k < A.length) (h0 : 1 ≤ k) : (preL s A k).set k (cp (s.drop (byt A (k - 1))) (s.drop (byt A k))) = preL s A (k + 1) := by
  apply List.ext_getElem
  · simp [preL]
  · intro i h1 h2
    rw [List.getElem_set]
    simp only [preL, List.getElem_map, List.getElem_range]
    by_cases e : k = i
    · subst e
      rw [if_pos rfl, if_pos ⟨by omega, by omega⟩, nth_byt, nth_byt]
    · rw [if_neg e]
      have : (i ≠ 0 ∧ i < k + 1) ↔ (i ≠ 0 ∧ i < k) := by omega
      simp only [this]
theorem preL_all (s A : List Nat) : preL s A (max 1 A.length) = lcpL s A := by
  unfold preL lcpL
  refine List.map_congr_left fun i hi => ?_
  have hi' : i < A.length := by simpa using hi
  by_cases e : i = 0
  · rw [if_neg (by omega), if_pos e]
  · rw [if_pos ⟨e, by omega⟩, if_neg e]

set_option maxRecDepth 10000 in
theorem lcp_spec (v w : Value) (s : List Nat) (a : List Int) (g : Heap) (j : Nat) (hl : s.length ≤ 2 ^ 38) (hla : a.length ≤ 2 ^ 38) (hv : Src g v 1 s.length (bs s)) (hw : Src g w 1 a.length (intsI a)) :
    FnSpec Try.prog 12 [v, w] g (okE (lcpB s a) (srcBlk v ++ srcBlk w) j) := by
  refine spec_of_body [4, 5] follows Try.func12 rfl (by kernel_rfl) (by simp [Try.f12]) (by kernel_rfl) rfl ?_
  intro g2 s2 n hg hfr hs hn hwf hsv
  rw [okE_fp] at hg
  have hv2 : Src g2 v 1 s.length (bs s) := hv.congr fun i hi => hg i (by simp [hi])
  have hw2 : Src g2 w 1 a.length (intsI a) := hw.congr fun i hi => hg i (by simp [hi])
  have hvd := dom_of hs hwf hv2
  have hwd := dom_of hs hwf hw2
  have hlv := hv2.len Try.underlying30
  have hlw := hw2.len Try.underlying22
  clear hg hfr hn hv hw
  refine s_run (by simp only [runL, awant_none, astep, evl, put, ap_none, List.length_nil, Nat.add_zero, undef] <;> rfl) ?_
  have hcall := inverse_spec w a g2 n hla hw2
  by_cases hp : ¬ permB a = true
  · rw [if_neg hp] at hcall
    refine s_take 1 (by simp only [runL, Option.getD_some, List.getElem?_cons_succ, List.getElem?_cons_zero, List.take_succ_cons, List.take_zero, awant_none, astep, evl, put, ap_none, List.length_nil, Nat.add_zero, upd_app, ↓reduceIte, Nat.reduceEqDiff] <;> rfl) ?_
    refine ops_call 25 _ rfl hcall (fun h => (h rfl).elim) ?_
    refine ops_run (by simp only [runL, List.getElem?_toArray, List.getElem?_cons_succ, List.getElem?_cons_zero, awant_none, astep, evl, put, ap_none, List.length_nil, Nat.add_zero, upd_app, stepExtract, ↓reduceIte, Nat.reduceEqDiff, okE] <;> rfl) ?_
    refine w_assoc (s_run (by simp only [runL, awant_some, List.getElem?_toArray, List.getElem?_cons_succ, List.getElem?_cons_zero, Option.bind_some, b_tf, Bool.not_false, awant_none, astep, evl, put, ap_none, List.length_nil, Nat.add_zero, upd_app, stepUn, stepPick, ↓reduceIte, Nat.reduceEqDiff, undef] <;> rfl) ?_)
    refine s_true (by simp [evl]) (w_assoc (s_run (by simp only [runL, awant_none, astep, evl, put, ap_none, List.length_nil, Nat.add_zero] <;> rfl) ?_))
    refine s_ret ?_
    show _ ∧ _
    exact okE_out rfl (by simp [upd_app]) (by simp []) hs hwf (Kp.refl _ _) (by rw [lcpB, if_neg (fun h => hp h.1)])
  replace hp := Classical.not_not.1 hp
  rw [if_pos hp] at hcall
  refine s_take 1 (by simp only [runL, Option.getD_some, List.getElem?_cons_succ, List.getElem?_cons_zero, List.take_succ_cons, List.take_zero, awant_none, astep, evl, put, ap_none, List.length_nil, Nat.add_zero, upd_app, ↓reduceIte, Nat.reduceEqDiff] <;> rfl) ?_
  refine ops_call 25 _ rfl hcall (fun _ => rfl) ?_
  refine ops_heap fun G1 hG1 => ?_
  have b1 : G1 n = some ⟨false, 3, intsI (invL a)⟩ := by rw [hG1]; simp [okE, ap_new]
  have k1 : Kp n g2 G1 := by rw [hG1]; simp only [okE, ap_new]; exact kp_upd (Kp.refl _ _) (Nat.le_refl _)
  clear hG1
  refine ops_run (by simp only [runL, List.getElem?_toArray, List.getElem?_cons_succ, List.getElem?_cons_zero, awant_none, astep, evl, put, ap_none, List.length_nil, List.length_cons, Nat.add_zero, Nat.zero_add, upd_app, stepExtract, ↓reduceIte, Nat.reduceEqDiff, okE] <;> rfl) ?_
  refine w_gen (fun t => t 0 = v ∧ t 1 = w ∧ t 6 = .slice (some ⟨n, 0, some (invL a).length⟩) (invL a).length 1 ∧ t 7 = .bool true) (by simp [upd_app]) ?_
  rintro t ⟨t0, t1, t6, t7⟩
  refine w_num fun N hN => ?_
  replace hN : N = n + 1 := by rw [hN]
  by_cases hal : ¬ a.length = s.length
  · have e1 : ((a.length : Int) != (s.length : Int)) = true := ine_t (by omega)
    refine w_assoc (s_run (by simp only [runL, awant_some, List.getElem?_toArray, List.getElem?_cons_succ, List.getElem?_cons_zero, Option.bind_some, b_ff, Bool.not_true, awant_none, astep, evl, put, ap_none, List.length_nil, Nat.add_zero, upd_app, stepBin, abin, stepUn, stepPick, stepCall, reduceCtorEq, ↓reduceIte, Nat.reduceEqDiff, Bool.false_eq_true, t0, t1, t7, hlv, hlw, e1] <;> rfl) ?_)
    refine s_true (by simp [evl]) (w_assoc (s_run (by simp only [runL, awant_none, astep, evl, put, ap_none, List.length_nil, Nat.add_zero] <;> rfl) ?_))
    refine s_ret ?_
    show _ ∧ _
    exact okE_out rfl (by simp [upd_app]) (by simp []) hs hwf k1 (by rw [lcpB, if_neg (fun h => hal h.2)])
  replace hal := Classical.not_not.1 hal
  have e1 : ((a.length : Int) != (s.length : Int)) = false := ine_f (by omega)
  refine w_assoc (s_run (by simp only [runL, awant_some, List.getElem?_toArray, List.getElem?_cons_succ, List.getElem?_cons_zero, Option.bind_some, b_ff, Bool.not_true, awant_none, astep, evl, put, ap_none, List.length_nil, Nat.add_zero, upd_app, stepBin, abin, stepUn, stepPick, stepCall, reduceCtorEq, ↓reduceIte, Nat.reduceEqDiff, Bool.false_eq_true, t0, t1, t7, hlv, hlw, e1] <;> rfl) ?_)
  refine s_false (by simp [evl]) (s_skip ?_)
  have hO : lcpB s a = some (zs (lcpL s (nats a))) := by rw [lcpB, if_pos ⟨hp, hal⟩]
  obtain ⟨ea, hperm, hinv⟩ := permB_nat hp
  have hAl := nats_len a
  obtain ⟨A, hA⟩ : ∃ A, nats a = A := ⟨_, rfl⟩
  rw [hA] at ea hperm hinv hO hAl
  rw [hal] at hperm
  have hwN : Src G1 w 1 A.length (ints A) := by rw [ints_zs, ← ea, hAl]; exact k1.src hw2 hwd
  rw [hinv, ← ints_zs] at b1
  have hil : (invL a).length = A.length := by rw [invL_len, hAl]
  rw [hil] at t6
  have huN : Src G1 (.slice (some ⟨n, 0, some A.length⟩) A.length 1) 1 A.length (ints (rkL A)) := by
    have := src_ints (m := A.length) b1 (by rw [rkL_len])
    rw [rkL_len] at this; exact this
  have hvN := k1.src hv2 hvd
  rw [← hAl] at hlw
  refine w_gen (fun t => t 0 = v ∧ t 1 = w ∧ t 6 = .slice (some ⟨n, 0, some A.length⟩) A.length 1) (by simp [upd_app, t0, t1, t6]) ?_
  clear t0 t1 t6 t7
  rintro t ⟨t0, t1, t6⟩
  have hord := ordered_spec v w (.slice (some ⟨n, 0, some A.length⟩) A.length 1) s A G1 hl hperm hvN hwN huN
  refine w_assoc (s_take 3 (by simp only [runL, List.take_succ_cons, List.take_zero, awant_none, astep, evl, put, ap_none, List.length_nil, Nat.add_zero, upd_app, ↓reduceIte, Nat.reduceEqDiff, t0, t1, t6] <;> rfl) ?_)
  refine ops_call 26 _ rfl (by simp only [upd_app, evl, List.map_cons, List.map_nil]; exact hord) (fun h => (h rfl).elim) ?_
  refine ops_run rfl ?_
  by_cases hc : chk s A = true
  · refine s_true (by simp [evl, put, hc]) ?_
    have hS := (chk_iff hperm).1 hc
    have hq := quick_spec v w (.slice (some ⟨n, 0, some A.length⟩) A.length 1) s A G1 N hl hS hvN hwN huN
    have hll := lcpL_len s A
    refine w_gen (fun t => t 0 = v ∧ t 1 = w ∧ t 6 = .slice (some ⟨n, 0, some A.length⟩) A.length 1) (by simp [upd_app, put, t0, t1, t6]) ?_
    clear t0 t1 t6
    rintro t ⟨t0, t1, t6⟩
    refine w_assoc (s_take 3 (by simp only [runL, List.take_succ_cons, List.take_zero, awant_none, astep, evl, put, ap_none, List.length_nil, Nat.add_zero, upd_app, ↓reduceIte, Nat.reduceEqDiff, t0, t1, t6] <;> rfl) ?_)
    refine ops_call 27 _ rfl (by simp only [upd_app, evl, List.map_cons, List.map_nil]; exact hq) (fun _ => rfl) ?_
    refine ops_run (by simp only [runL, awant_none, astep, evl, put, ap_none, ap_new, List.length_nil, List.length_cons, Nat.add_zero, Nat.zero_add, upd_app, ↓reduceIte] <;> rfl) ?_
    refine s_ret ?_
    show _ ∧ _
    refine okE_some (k := N) (l := zs (lcpL s A)) rfl (by simp [upd_app, hll]) (by simp []) (by omega) ?_ hs hwf (kp_upd k1 (by omega)) hO
    rw [← ints_zs]; simp []
  · refine s_false (by simp [evl, put, hc]) (s_skip ?_)
    refine w_gen (fun t => t 0 = v ∧ t 1 = w) (by simp [upd_app, put, t0, t1]) ?_
    clear t0 t1 t6
    rintro t ⟨t0, t1⟩
    show awp _ _ _ _ G1 N
    refine s_run (by simp only [runL, awant_none, astep, evl, put, ap_none, ap_new, List.length_nil, List.length_cons, Nat.add_zero, Nat.zero_add, upd_app, stepCall, ↓reduceIte, t1, hlw, mkInts A.length N (by omega)] <;> rfl) (w_heap fun G2 hG2 => ?_)
    have b2 : G2 N = some ⟨false, 3, ints (preL s A 1)⟩ := by
      have : preL s A 1 = List.replicate A.length 0 := by unfold preL; rw [List.eq_replicate_iff]; simp
      rw [hG2, this]; simp []
    have k2 : Kp n g2 G2 := by rw [hG2]; exact kp_upd k1 (by omega)
    refine w_assoc (s_run (by simp only [runL, awant_none, astep, evl, put, ap_none, List.length_nil, Nat.add_zero] <;> rfl) ?_)
    have hlt : ∀ i, i < A.length → byt A i < s.length := fun i hi => by
      have : byt A i ∈ A := by rw [byt_eq hi]; exact List.getElem_mem hi
      simpa using hperm.mem_iff.1 this
    refine s_for 1 (max 1 A.length) (fun k t g n' => t 0 = v ∧ t 1 = w ∧ t 8 = .slice (some ⟨N, 0, some A.length⟩) A.length 1 ∧ 1 ≤ k ∧ g N = some ⟨false, 3, ints (preL s A k)⟩ ∧ Kp n g2 g) (by omega) (by omega) (by simp []) ⟨by simp [upd_app, t0], by simp [upd_app, t1], by simp [upd_app], Nat.le_refl _, b2, k2⟩ ?_ ?_ ?_
    · rintro k t g m hk t9 ⟨t0, t1, t8, h1, b, hkp⟩
      have dl : decide ((k : Int) < (A.length : Int)) = decide (k < max 1 A.length) := by
        by_cases h : k < A.length
        · rw [decide_eq_true (by omega), decide_eq_true (by omega)]
        · rw [decide_eq_false (by omega), decide_eq_false (by omega)]
      exact ⟨_, (by simp only [runL, awant_none, astep, evl, put, ap_none, List.length_nil, Nat.add_zero, upd_app, stepBin, abin, stepCall, ↓reduceIte, Nat.reduceEqDiff, t9, t1, hlw, dl] <;> rfl), by simp [], by simp [upd_app, t9], by simp [upd_app, t0], by simp [upd_app, t1], by simp [upd_app, t8], h1, b, hkp⟩
    · clear t0 t1 b2 k2 hG2
      rintro k t g m hk t9 ⟨t0, t1, t8, h1, b, hkp⟩
      have hkA : k < A.length := by omega
      have w1 : IntKind.i64.wrap ((k : Int) - 1) = ((k - 1 : Nat) : Int) := wrap_sub1 h1 (by omega)
      have hwg : Src g w 1 A.length (ints A) := by rw [ints_zs, ← ea, hAl]; exact hkp.src hw2 hwd
      obtain ⟨p, i1, l1, _⟩ := srcN hwg (show k - 1 < A.length by omega)
      obtain ⟨q, i2, l2, _⟩ := srcN hwg hkA
      have hx := hlt (k - 1) (by omega)
      have hy := hlt k hkA
      have hset := preL_set (s := s) hkA h1
      generalize byt A (k - 1) = x at *
      generalize byt A k = y at *
      have hcom := common_spec v s x y g hl (by omega) (by omega) (hkp.src hv2 hvd)
      have iy := idxI N A.length k A.length hkA
      have s1 := stN (x := cp (s.drop x) (s.drop y)) b (preL_len s A k) (by rw [preL_len]; exact hkA)
      rw [hset] at s1
      refine region_drawn #[0, 0, 0, 0, 0, 16, 56, 120, 0, 0, 768, 1792, 4092, 8191, 16383] (by decide +kernel) ?_
      refine d_readsB 12 (by simp) (by simp only [runR, List.take_succ_cons, List.take_zero, awant_none, astep, evl, put, upd_app, stepBin, abin, reduceCtorEq, ↓reduceIte, Nat.reduceEqDiff, List.isEmpty_nil, Bool.and_self, t0, t1, t8, t9, w1, i1, l1, i2, l2] <;> rfl) fun a1 ha1 => ?_
      refine d_rcall 28 _ rfl rfl rfl (by simp only [awant_none] <;> rfl) hcom rfl rfl ha1 fun a2 ha2 => ?_
      refine d_readsB 1 ha2 (by simp only [runR, List.take_succ_cons, List.take_zero, awant_none, astep, evl, put, upd_app, ↓reduceIte, Nat.reduceEqDiff, List.isEmpty_nil, Bool.and_self, iy] <;> rfl) fun a3 ha3 => ?_
      refine d_last _ (by simp only [astep, evl, upd_app, ↓reduceIte, Nat.reduceEqDiff, undef, s1] <;> rfl) (by simp only [awant_none] <;> rfl) ha3 rfl ?_
      refine ⟨by simp [upd_app, put, t9], fun _ _ _ => ⟨by simp [upd_app, put, t0], by simp [upd_app, put, t1], by simp [upd_app, put, t8], by omega, by simp [ap_wr], ?_⟩⟩
      simp only [ap_wr]
      exact kp_upd hkp (by omega)
    · clear t0 t1 b2 k2 hG2
      rintro t g m ⟨t0, t1, t8, h1, b, hkp⟩
      rw [preL_all] at b
      have hll := lcpL_len s A
      refine s_run (by simp only [runL, awant_none, astep, evl, put, ap_none, List.length_nil, Nat.add_zero, upd_app, ↓reduceIte, t8] <;> rfl) ?_
      exact w_ret (okE_some (k := N) (l := zs (lcpL s A)) rfl (by simp [upd_app, hll]) (by simp []) (by omega) (by rw [← ints_zs]; exact b) hs hwf hkp hO)
end Go.Proofs.Ytdpkhijbikbhnaa
