import Derived.Test.YtahinegnblankaaP38
namespace Go.Proofs.Ytahinegnblankaa
open Go Abs
set_option linter.unusedSimpArgs false
set_option linter.unusedVariables false

theorem rdE_ap {T : TypeId} {p : Nat} {v : Value} {F : List Nat} {u c r u' c' r' : Nat} {ok : Bool} {g : Heap} (h : Rd T p v F u c r g) : Rd T p v F u' c' r' ((rdE T p v ok u' c' r').ap g) ∧ ∀ i, i ≠ p → (rdE T p v ok u' c' r').ap g i = g i := by
  have h1 : ∀ i, i ≠ p → (rdE T p v ok u' c' r').ap g i = g i := fun i hi => by simp [rdE, Eff.ap, setAll, addAll, upd_app, hi]
  exact ⟨h.upd (by simp [rdE, Eff.ap, setAll, addAll]) h1, h1⟩

theorem be_take_succ {l : List Nat} {k : Nat} (h : k < l.length) : be (l.take (k + 1)) = be (l.take k) * 256 + byt l k := by rw [take_succ_byt h, be_snoc]

def newRdE (v : Value) (l : List Nat) (j : Nat) : Eff := { v := .tuple #[ptr4 (j + 1), .bool true], r := srcBlk v, j := j, a := [⟨false, 5, bs l⟩, ⟨false, 91, [.slice (some ⟨j, 0, some l.length⟩) l.length 1, .int .i64 (4 : Nat), .int .u64 (be (l.take 4) : Nat), .int .u64 (4294967295 : Nat)]⟩] }

set_option maxRecDepth 10000 in
theorem newRd_no (v : Value) (l : List Nat) (g : Heap) (h4 : l.length < 4) (hv : Src g v 1 l.length (bs l)) : FnSpec Try.prog 52 [v] g { v := .tuple #[.pointer none, .bool false], r := srcBlk v } := by
  refine spec_of_body [2, 3] follows Try.func52 rfl (by kernel_rfl) (by simp [Try.f52]) (by kernel_rfl) rfl ?_
  intro g2 s2 n hg hfr hs hn hwf hsv
  have hv2 : Src g2 v 1 l.length (bs l) := hv.congr fun i hi => hg i (by simp [Eff.fp, hi])
  have hlen := hv2.len Try.underlying24
  have d1 : decide ((l.length : Int) < 4) = true := decide_eq_true (by omega)
  refine s_run (by simp only [runL, awant_none, astep, evl, put, ap_none, List.length_nil, Nat.add_zero, undef] <;> rfl) ?_
  refine w_assoc (s_run (by simp only [runL, Option.getD_some, List.getElem?_cons_zero, awant_none, astep, evl, put, ap_none, List.length_nil, Nat.add_zero, upd_app, stepBin, abin, stepCall, reduceCtorEq, ↓reduceIte, hlen, d1] <;> rfl) ?_)
  refine s_true (by simp [evl]) (w_assoc (s_run (by simp only [runL, awant_none, astep, evl, put, ap_none, List.length_nil, Nat.add_zero] <;> rfl) ?_))
  exact s_ret ⟨.inr rfl, by simp [upd_app, isTup], [], fin_none (by simp [resVal, upd_app]) (by simp [SVT, SVA, SV1]) (fun _ _ h => h)⟩

set_option maxRecDepth 10000 in
theorem newRd_yes (v : Value) (l : List Nat) (g : Heap) (j : Nat) (h4 : 4 ≤ l.length) (hl : l.length ≤ 2 ^ 38) (hb : ∀ x ∈ l, x < 256) (hv : Src g v 1 l.length (bs l)) : FnSpec Try.prog 52 [v] g (newRdE v l j) := by
  refine spec_of_body [2, 3] follows Try.func52 rfl (by kernel_rfl) (by simp [Try.f52]) (by kernel_rfl) rfl ?_
  intro g2 s2 n hg hfr hs hn hwf hsv
  have hv2 : Src g2 v 1 l.length (bs l) := hv.congr fun i hi => hg i (by simp [newRdE, Eff.fp, hi])
  have hlen := hv2.len Try.underlying24
  have hnil : isNil v = false := by
    rcases hv2 with ⟨_, h, _⟩ | ⟨a, _, h, _⟩ | ⟨a, b, rfl, _⟩
    · omega
    · omega
    · rfl
  have hcl : cloneE v l n = { v := .slice (some ⟨n, 0, some l.length⟩) l.length 1, r := srcBlk v, j := n, a := [⟨false, 5, bs l⟩] } := by rw [cloneE, if_neg (by rw [hnil]; simp)]
  have d1 : decide ((l.length : Int) < 4) = false := decide_eq_false (by omega)
  refine s_run (by simp only [runL, awant_none, astep, evl, put, ap_none, List.length_nil, Nat.add_zero, undef] <;> rfl) ?_
  refine w_assoc (s_run (by simp only [runL, Option.getD_some, List.getElem?_cons_zero, awant_none, astep, evl, put, ap_none, List.length_nil, Nat.add_zero, upd_app, stepBin, abin, stepCall, reduceCtorEq, ↓reduceIte, hlen, d1] <;> rfl) ?_)
  refine s_false (by simp [evl]) (s_skip ?_)
  have hC := clone_spec v l g2 n (by omega) hv2
  rw [hcl] at hC
  refine s_take 1 (by simp only [runL, Option.getD_some, List.getElem?_cons_zero, List.take_succ_cons, List.take_zero, awant_none, astep, evl, put, ap_none, List.length_nil, Nat.add_zero, upd_app, reduceCtorEq, ↓reduceIte] <;> rfl) ?_
  refine ops_call 76 _ rfl hC (by intro _; rfl) ?_
  refine ops_run (by simp only [runL, awant_none, astep, evl, put, ap_none, ap_new, List.length_nil, List.length_cons, Nat.add_zero, Nat.zero_add, upd_app, ↓reduceIte, List.map_cons, List.map_nil, undef, mk91, stepBox, isTup, Value.cells] <;> rfl) (w_heap fun G1 hG1 => ?_)
  have b1 : G1 n = some ⟨false, 5, bs l⟩ := by rw [hG1]; simp [upd_app]
  have p1 : G1 (n + 1) = some ⟨false, 91, [.slice (some ⟨n, 0, some l.length⟩) l.length 1, .int .i64 (0 : Nat), .int .u64 (0 : Nat), .int .u64 (4294967295 : Nat)]⟩ := by rw [hG1]; simp []
  have k1 : Kp n g2 G1 := by rw [hG1]; exact fun q hq => by simp [upd_app, show q ≠ n by omega, show q ≠ n + 1 by omega]
  have R1 : Rd 91 (n + 1) (.slice (some ⟨n, 0, some l.length⟩) l.length 1) l 0 0 4294967295 G1 := ⟨p1, src_bs b1 rfl, fun h => by have := srcBlk_own (e := 1) _ h; omega⟩
  refine w_gen (fun t => t 4 = ptr4 (n + 1)) (by simp []) ?_
  rintro t t4
  refine w_assoc (s_run (by simp only [runL, awant_none, astep, evl, put, ap_none, List.length_nil, Nat.add_zero] <;> rfl) ?_)
  refine s_rngc 4 rfl (fun k t g n' => t 4 = ptr4 (n + 1) ∧ Rd 91 (n + 1) (.slice (some ⟨n, 0, some l.length⟩) l.length 1) l k (be (l.take k)) 4294967295 g ∧ g n = some ⟨false, 5, bs l⟩ ∧ Kp n g2 g) (by omega) (by simp []) (fun v => ⟨by simp [upd_app, t4], by simpa [be] using R1, b1, k1⟩) (by decide) ?_ ?_
  · clear t4
    rintro k t g n' hk t12 ⟨t4, hR, hbk, hkp⟩
    have hbt := be_lt (l := l.take k) (fun x hx => hb x (List.mem_of_mem_take hx))
    have hbt2 : be (l.take k) < 2 ^ 40 := by
      have : 256 ^ (l.take k).length ≤ 256 ^ 4 := Nat.pow_le_pow_right (by omega) (by simp; omega)
      omega
    have hrd := reads_yes (n + 1) _ l k (be (l.take k)) 4294967295 g hR hb (by omega) (by omega) hbt2
    rw [← be_take_succ (by omega)] at hrd
    obtain ⟨a1, a2⟩ := rdE_ap (u' := k + 1) (c' := be (l.take (k + 1))) (r' := 4294967295) (ok := true) hR
    refine region_take (id := 6) 1 (by simp only [runL, List.take_succ_cons, List.take_zero, awant_none, astep, evl, put, ap_none, List.length_nil, Nat.add_zero, t4] <;> rfl) ?_
    refine ops_call 79 _ rfl hrd (by simp [rdE]) (ops_heap fun G2 hG2 => ?_)
    rw [← hG2] at a1 a2
    refine ops_run (by simp only [runL, put] <;> rfl) ?_
    simp only [rangePost]
    exact ⟨by simp [upd_app, t12], fun _ _ _ => ⟨by simp [upd_app, t4], a1, by show G2 n = _; rw [a2 n (by omega)]; exact hbk, fun q hq => by show G2 q = g2 q; rw [a2 q (by omega), hkp q hq]⟩⟩
  · clear t4
    rintro t g n' ⟨t4, hR, hbk, hkp⟩
    refine s_run (by simp only [runL, awant_none, astep, evl, put, ap_none, List.length_nil, Nat.add_zero, upd_app, ↓reduceIte, t4] <;> rfl) ?_
    refine w_ret ⟨.inr rfl, by simp [upd_app, isTup], [n, n + 1], ?_⟩
    refine fin_new2 ?_ ?_ (Nat.le_refl _) (by omega) (by omega) ?_ ?_ (fun x hx => SV1_plain (plain_bs _ x hx)) (fun x hx => ?_) (fun i b hb => hkp.at (hs i (hwf i b hb).1) hb)
    · simp [resVal, upd_app, renT, renA, ren1]
    · intro x hx
      simp at hx
      rcases hx with rfl | rfl
      · exact .inr ⟨by simp, by simp⟩
      · trivial
    · rw [renB_plain (plain_bs _)]; simpa only [if_true] using hbk
    · rw [hR.hp]; simp [renB, ren1]
    · simp only [List.mem_cons, List.not_mem_nil, or_false] at hx
      rcases hx with rfl | rfl | rfl | rfl
      · exact .inr (.inr ⟨Nat.le_refl _, by simp⟩)
      · trivial
      · trivial
      · trivial
end Go.Proofs.Ytahinegnblankaa
