import Derived.Test.YtdpkhijbikbhnaaAbsC
import Derived.Test.YtdpkhijbikbhnaaProg
import Derived.KernelRfl
import Derived.Laws.BitsAllLaws
import Derived.Laws.Strings
namespace Go.Proofs.Ytdpkhijbikbhnaa
open Go Abs
set_option linter.unusedSimpArgs false
set_option linter.unusedVariables false

theorem follows : Try.prog.follows .mixedOrders = true := by kernel_rfl
theorem tinf5 : tinf Try.prog 5 = some ([.int .u8 0], 1, 1) := by kernel_rfl
theorem tinf3 : tinf Try.prog 3 = some ([.int .i64 0], 1, 8) := by kernel_rfl
theorem tsize5 : tsize Try.prog 5 = some 1 := by kernel_rfl
theorem tsize3 : tsize Try.prog 3 = some 1 := by kernel_rfl
theorem aggT5 : aggT Try.prog 5 = some false := by kernel_rfl
theorem aggT3 : aggT Try.prog 3 = some false := by kernel_rfl

theorem conv5_3 (x : Int) (g : Heap) : stepConv Try.prog 5 3 (.int .u8 x) g = some { v := .int .i64 (IntKind.i64.wrap x) } := by simp [stepConv, Try.underlying5, Try.underlying3]
theorem conv3_5 (x : Int) (g : Heap) : stepConv Try.prog 3 5 (.int .i64 x) g = some { v := .int .u8 (IntKind.u8.wrap x) } := by simp [stepConv, Try.underlying5, Try.underlying3]

theorem wrap64_of {x : Int} (h1 : -9223372036854775808 ≤ x) (h2 : x ≤ 9223372036854775807) : IntKind.i64.wrap x = x := by rw [IntKind.wrap_i64]; omega
theorem wrapU64_of {x : Int} (h1 : 0 ≤ x) (h2 : x < 18446744073709551616) : IntKind.u64.wrap x = x := by rw [IntKind.wrap_u64]; omega
theorem wrap_u8 (v : Nat) : IntKind.u8.wrap (v : Int) = ((v % 256 : Nat) : Int) := by simp [IntKind.wrap, IntKind.bits, IntKind.signed]
theorem wrap8_of {v : Nat} (h : v < 256) : IntKind.u8.wrap (v : Int) = (v : Int) := by rw [wrap_u8, Nat.mod_eq_of_lt h]
theorem wrap_succ {k : Nat} (h : k < 9223372036854775807) : IntKind.i64.wrap ((k : Int) + 1) = ((k + 1 : Nat) : Int) := by rw [wrap64_of (by omega) (by omega)]; simp
theorem wrap_nat {k : Nat} (h : k ≤ 9223372036854775807) : IntKind.i64.wrap (k : Int) = (k : Int) := wrap64_of (by omega) (by omega)
theorem wrap_add {a b : Nat} (h : a + b ≤ 9223372036854775807) : IntKind.i64.wrap ((a : Int) + (b : Int)) = ((a + b : Nat) : Int) := by rw [wrap64_of (by omega) (by omega)]; simp
theorem wrap_sub {a b : Nat} (h : b ≤ a) (ha : a ≤ 9223372036854775807) : IntKind.i64.wrap ((a : Int) - (b : Int)) = ((a - b : Nat) : Int) := by rw [wrap64_of (by omega) (by omega)]; omega
theorem wrap_sub1 {a : Nat} (h : 1 ≤ a) (ha : a ≤ 9223372036854775807) : IntKind.i64.wrap ((a : Int) - 1) = ((a - 1 : Nat) : Int) := by rw [wrap64_of (by omega) (by omega)]; omega
theorem ieq_t {a b : Int} (h : a = b) : (a == b) = true := by simp [h]
theorem ieq_f {a b : Int} (h : a ≠ b) : (a == b) = false := by simp [h]
theorem ine_t {a b : Int} (h : a ≠ b) : (a != b) = true := by simp [h]
theorem ine_f {a b : Int} (h : a = b) : (a != b) = false := by simp [h]

abbrev bs (l : List Nat) : List Value := l.map fun (b : Nat) => Value.int .u8 (b : Int)
abbrev ints (l : List Nat) : List Value := l.map fun (b : Nat) => Value.int .i64 (b : Int)

/-- Byte i. -/
def byt (s : List Nat) (i : Nat) : Nat := s[i]?.getD 0
theorem byt_lt {l : List Nat} (h : ∀ x ∈ l, x < 256) (i : Nat) : byt l i < 256 := by
  unfold byt
  by_cases hi : i < l.length
  · rw [List.getElem?_eq_getElem hi]; exact h _ (List.getElem_mem hi)
  · rw [List.getElem?_eq_none (by omega)]; simp
theorem byt_eq {l : List Nat} {i : Nat} (h : i < l.length) : byt l i = l[i] := by simp [byt, List.getElem?_eq_getElem h]
theorem bs_at {l : List Nat} {i : Nat} (h : i < l.length) : (bs l)[i]? = some (.int .u8 (byt l i)) := by simp [byt, List.getElem?_eq_getElem h]
theorem ints_at {l : List Nat} {i : Nat} (h : i < l.length) : (ints l)[i]? = some (.int .i64 (byt l i)) := by simp [byt, List.getElem?_eq_getElem h]
theorem bs_app (a b : List Nat) : bs a ++ bs b = bs (a ++ b) := by simp [bs]
theorem ints_app (a b : List Nat) : ints a ++ ints b = ints (a ++ b) := by simp [ints]
theorem bs_ints (l : List Nat) : bs l = (l.map fun (b : Nat) => (b : Int)).map (Value.int .u8) := by simp
theorem ints_ints (l : List Nat) : ints l = (l.map fun (b : Nat) => (b : Int)).map (Value.int .i64) := by simp
theorem bs_inj {a b : List Nat} (h : bs a = bs b) : a = b := by
  have := congrArg (List.map fun v => match v with | Value.int _ n => n.toNat | _ => 0) h
  simpa [Function.comp_def] using this
theorem bs_set (l : List Nat) (i x : Nat) : (bs l).set i (.int .u8 (x : Int)) = bs (l.set i x) := by simp [bs, List.map_set]
theorem ints_set (l : List Nat) (i x : Nat) : (ints l).set i (.int .i64 (x : Int)) = ints (l.set i x) := by simp [ints, List.map_set]

/-- The string of bytes. -/
def nstr (l : List Nat) : ByteArray := bstr (l.map fun (b : Nat) => (b : Int))

theorem foldl_push (l : List Int) (a : ByteArray) : (l.foldl (fun r n => r.push (UInt8.ofNat n.toNat)) a).data.toList = a.data.toList ++ l.map fun n => UInt8.ofNat n.toNat := by
  induction l generalizing a with
  | nil => simp
  | cons x l ih =>
    rw [List.foldl_cons, ih]
    simp [ByteArray.data_push]

theorem nstr_data (l : List Nat) : (nstr l).data.toList = l.map UInt8.ofNat := by
  rw [nstr, bstr, foldl_push, show (ByteArray.empty).data.toList = [] from rfl, List.nil_append, List.map_map]
  rfl

theorem nstr_inj {a b : List Nat} (ha : ∀ x ∈ a, x < 256) (hb : ∀ x ∈ b, x < 256) (h : nstr a = nstr b) : a = b := by
  have h1 := congrArg (fun s : ByteArray => s.data.toList.map UInt8.toNat) h
  simp only [nstr_data, List.map_map] at h1
  have key : ∀ l : List Nat, (∀ x ∈ l, x < 256) → l.map (UInt8.toNat ∘ UInt8.ofNat) = l := by
    intro l hl
    refine (List.map_congr_left (g := id) fun x hx => ?_).trans (by simp)
    simp [Nat.mod_eq_of_lt (hl x hx)]
  rwa [key a ha, key b hb] at h1

theorem toList_inj {a b : ByteArray} (h : a.toList = b.toList) : a = b := by
  rw [ByteArray.toList_eq, ByteArray.toList_eq] at h
  exact ByteArray.ext (Array.toList_inj.mp h)

theorem nstr_beq {a b : List Nat} (ha : ∀ x ∈ a, x < 256) (hb : ∀ x ∈ b, x < 256) : ((nstr a).toList == (nstr b).toList) = decide (a = b) := by
  by_cases h : a = b
  · subst h; simp
  · rw [decide_eq_false h, beq_eq_false_iff_ne]
    exact fun e => h (nstr_inj ha hb (toList_inj e))

theorem src_cells {g : Heap} {k e m : Nat} {ro : Bool} {cs : List Value} (h : g k = some ⟨ro, e, cs⟩) (hm : m = cs.length) : Src g (.slice (some ⟨k, 0, some m⟩) m 1) 1 m cs := by
  subst hm
  by_cases h0 : cs.length = 0
  · have : cs = [] := List.eq_nil_of_length_eq_zero h0
    subst this
    exact .inr (.inl ⟨_, rfl, rfl, rfl⟩)
  · exact .inr (.inr ⟨_, ⟨ro, e, cs⟩, rfl, by omega, by simp [rd, h], by rw [Nat.mul_one]; exact (List.take_of_length_le (by simp)).symm, by simp⟩)

theorem src_bs {g : Heap} {k e m : Nat} {ro : Bool} {l : List Nat} (h : g k = some ⟨ro, e, bs l⟩) (hm : m = l.length) : Src g (.slice (some ⟨k, 0, some m⟩) m 1) 1 l.length (bs l) := by subst hm; exact src_cells h (by simp)
theorem src_ints {g : Heap} {k e m : Nat} {ro : Bool} {l : List Nat} (h : g k = some ⟨ro, e, ints l⟩) (hm : m = l.length) : Src g (.slice (some ⟨k, 0, some m⟩) m 1) 1 l.length (ints l) := by subst hm; exact src_cells h (by simp)

theorem srcBlk_own {k m o : Nat} {sp : Option Nat} {e : Nat} : ∀ i ∈ srcBlk (.slice (some ⟨k, o, sp⟩) m e), i = k := by intro i hi; simp [srcBlk] at hi; exact hi.2

/-- Below n nothing is changed. -/
def Kp (n : Nat) (g g' : Heap) : Prop := ∀ k, k < n → g' k = g k

theorem Kp.refl (n : Nat) (g : Heap) : Kp n g g := fun _ _ => rfl
theorem Kp.trans {n m : Nat} {g g' g'' : Heap} (h : Kp n g g') (h2 : Kp m g' g'') (hm : n ≤ m) : Kp n g g'' := fun k hk => by rw [h2 k (by omega), h k hk]
theorem Kp.le {n m : Nat} {g g' : Heap} (h : Kp n g g') (hm : m ≤ n) : Kp m g g' := fun k hk => h k (by omega)
theorem Kp.src {n : Nat} {g g' : Heap} {v : Value} {esz m : Nat} {cs : List Value} (h : Kp n g g') (hs : Src g v esz m cs) (hd : ∀ i ∈ srcBlk v, i < n) : Src g' v esz m cs := hs.congr fun i hi => h i (hd i hi)
theorem Kp.at {n : Nat} {g g' : Heap} {k : Nat} {b : Blk} (h : Kp n g g') (hk : k < n) (hb : g k = some b) : g' k = some b := by rw [h k hk]; exact hb
theorem kp_upd {n k : Nat} {g g' : Heap} {b : Option Blk} (h : Kp n g g') (hk : n ≤ k) : Kp n g (upd g' k b) := fun i hi => by rw [upd_ne _ _ (by omega)]; exact h i hi

/-- An effect that writes nothing. -/
theorem kp_ap {n : Nat} {g g' : Heap} {f : Eff} (h : Kp n g g') (hw : f.w = []) (hj : f.a ≠ [] → n ≤ f.j) : Kp n g (f.ap g') := by
  intro i hi
  unfold Eff.ap
  rw [hw, setAll]
  cases ha : f.a with
  | nil => exact h i hi
  | cons b l =>
    have := hj (by simp [ha])
    rw [addAll_out (by omega)]
    exact h i hi

theorem ops_num {P : Program} {ops : Array Oper} {K : (Nat → Value) → Heap → Nat → Prop} {t : Nat → Value} {g : Heap} {n : Nat} {l : List Oper} (h : ∀ N, N = n → awpOps P ops K l t g N) : awpOps P ops K l t g n := h n rfl

/-- A new slice, nil if it is empty. -/
def newE (e : TypeId) (cs : List Value) (r : List Nat) (j : Nat) : Eff :=
  if cs.length = 0 then { v := .slice none 0 0, r := r, j := j } else { v := .slice (some ⟨j, 0, some cs.length⟩) cs.length 1, r := r, j := j, a := [⟨false, e, cs⟩] }

theorem newE_r (e : TypeId) (cs : List Value) (r : List Nat) (j : Nat) : (newE e cs r j).r = r := by unfold newE; split <;> rfl
theorem newE_w (e : TypeId) (cs : List Value) (r : List Nat) (j : Nat) : (newE e cs r j).w = [] := by unfold newE; split <;> rfl
theorem newE_j (e : TypeId) (cs : List Value) (r : List Nat) (j : Nat) : (newE e cs r j).j = j := by unfold newE; split <;> rfl
theorem newE_a (e : TypeId) (cs : List Value) (r : List Nat) (j : Nat) : (newE e cs r j).a.length ≤ 1 := by unfold newE; split <;> simp
theorem newE_fp (e : TypeId) (cs : List Value) (r : List Nat) (j : Nat) : (newE e cs r j).fp = r := by simp [Eff.fp, newE_r, newE_w]
theorem newE_src (e : TypeId) (cs : List Value) (r : List Nat) (j : Nat) (G : Heap) : Src ((newE e cs r j).ap G) (newE e cs r j).v 1 cs.length cs := by
  unfold newE
  split
  · rename_i h
    have : cs = [] := List.eq_nil_of_length_eq_zero h
    subst this
    exact .inl ⟨rfl, rfl, rfl⟩
  · exact src_cells (ro := false) (e := e) (by simp [ap_new]) rfl
theorem newE_blk (e : TypeId) (cs : List Value) (r : List Nat) (j : Nat) : ∀ i ∈ srcBlk (newE e cs r j).v, i = j ∧ (newE e cs r j).a.length = 1 := by
  unfold newE
  split
  · simp [srcBlk]
  · intro i hi; exact ⟨srcBlk_own i hi, rfl⟩
theorem newE_kp {e : TypeId} {cs : List Value} {r : List Nat} {j n : Nat} {g g' : Heap} (h : Kp n g g') (hn : n ≤ j) : Kp n g ((newE e cs r j).ap g') := kp_ap h (newE_w ..) (fun _ => by rw [newE_j]; exact hn)
theorem newE_own {e : TypeId} {cs : List Value} {r : List Nat} {j : Nat} (h : cs.length ≠ 0) : newE e cs r j = { v := .slice (some ⟨j, 0, some cs.length⟩) cs.length 1, r := r, j := j, a := [⟨false, e, cs⟩] } := by rw [newE, if_neg h]
theorem newE_nil {e : TypeId} {cs : List Value} {r : List Nat} {j : Nat} (h : cs.length = 0) : newE e cs r j = { v := .slice none 0 0, r := r, j := j } := by rw [newE, if_pos h]

/-- v is nil or the whole of one of the blocks n.. below n', which has the cells l (then not empty). -/
def Own (e : TypeId) (g : Heap) (v : Value) (l : List Value) (n n' : Nat) : Prop := ∃ i, OwnI e 1 g v l.length l i ∧ ∀ q, i = some q → n ≤ q ∧ q < n' ∧ l.length ≠ 0

theorem Own.nil (e : TypeId) (g : Heap) (n n' : Nat) : Own e g (.slice none 0 0) [] n n' := ⟨none, OwnI.nil e 1 g, by simp⟩
theorem Own.src {e : TypeId} {g : Heap} {v : Value} {l : List Value} {n n' : Nat} (h : Own e g v l n n') : Src g v 1 l.length l := by obtain ⟨i, h, _⟩ := h; exact h.toSrc
theorem Own.blk {e : TypeId} {g : Heap} {v : Value} {l : List Value} {n n' : Nat} (h : Own e g v l n n') : ∀ i ∈ srcBlk v, n ≤ i ∧ i < n' := by
  obtain ⟨i, h, hi⟩ := h
  rcases h with ⟨_, rfl, _, _⟩ | ⟨k, rfl, rfl, _, _⟩
  · simp [srcBlk]
  · intro q hq
    have := srcBlk_own q hq
    have := hi k rfl
    omega
theorem Own.keep {e : TypeId} {g g' : Heap} {v : Value} {l : List Value} {n n' n'' : Nat} (h : Own e g v l n n') (hk : Kp n' g g') (hn : n' ≤ n'') : Own e g' v l n n'' := by
  obtain ⟨i, h, hi⟩ := h
  exact ⟨i, h.keep fun k hk' => hk k (hi k hk').2.1, fun q hq => by have := hi q hq; omega⟩

section
variable {P : Program} {g : Heap} {n n' : Nat}

theorem Own.append {T e : TypeId} {zs : List Value} {bytes : Nat} {v y : Value} {l news : List Value} (h : Own e g v l n n') (hs : Src g y 1 news.length news) (ht : P.underlying T = some (.slice e)) (hti : tinf P e = some (zs, 1, bytes)) (hb1 : l.length + news.length ≤ 1099511627776) (hb2 : bytes ≤ 100) (hn : n ≤ n') :
    ∃ f, stepAppend P T T v y g n' = some f ∧ Own e (f.ap g) f.v (l ++ news) n (n' + f.a.length) ∧ Kp n g (f.ap g) := by
  obtain ⟨i, h, hi⟩ := h
  obtain ⟨f, i', hf, hO, hi', hk⟩ := own_append (P := P) (n := n') h hs.cells (by simp) ht hti (by omega) hb1 hb2
  refine ⟨f, hf, ⟨i', by rw [List.length_append]; exact hO, fun q hq => ?_⟩, fun k hk' => hk k (by omega) fun e => by have := hi k e.symm; omega⟩
  rcases hi' with ⟨e1, e2⟩ | ⟨e1, e2, e3⟩
  · rw [e1] at hq
    have := hi q hq
    exact ⟨this.1, by omega, by rw [List.length_append]; omega⟩
  · rw [e2] at hq
    cases hq
    refine ⟨hn, by omega, ?_⟩
    rcases hO with ⟨h, _⟩ | ⟨k, _, _, _, h4⟩
    · rw [h] at e2; cases e2
    · intro h0
      have hl : l ++ news = [] := List.eq_nil_of_length_eq_zero h0
      have hl2 : news = [] := (List.append_eq_nil_iff.1 hl).2
      subst hl2
      have : f.a.length = 0 := by
        rcases h with ⟨_, rfl, _, _⟩ | ⟨k, e4, _, _, _⟩
        · have := hs.cells
          simp [stepAppend, ht, hti, this] at hf
          rw [← hf]; rfl
        · rw [e1] at e4; cases e4
      omega

/-- 'append(v, c)'. -/
theorem Own.push {T e : TypeId} {zs : List Value} {bytes : Nat} {v c : Value} {l : List Value} (h : Own e g v l n n') (ht : P.underlying T = some (.slice e)) (hti : tinf P e = some (zs, 1, bytes)) (hb1 : l.length + 1 ≤ 1099511627776) (hb2 : bytes ≤ 100) (hn : n ≤ n') :
    ∃ f, stepAppend P T T v (.slice (some ⟨n', 0, some 1⟩) 1 1) (upd g n' (some ⟨false, e, [c]⟩)) (n' + 1) = some f ∧ Own e (f.ap (upd g n' (some ⟨false, e, [c]⟩))) f.v (l ++ [c]) n (n' + 1 + f.a.length) ∧ Kp n g (f.ap (upd g n' (some ⟨false, e, [c]⟩))) := by
  have h' : Own e (upd g n' (some ⟨false, e, [c]⟩)) v l n (n' + 1) := h.keep (kp_upd (Kp.refl _ _) (Nat.le_refl _)) (by omega)
  have hs : Src (upd g n' (some ⟨false, e, [c]⟩)) (.slice (some ⟨n', 0, some 1⟩) 1 1) 1 [c].length [c] := src_cells (ro := false) (e := e) (by simp) rfl
  obtain ⟨f, hf, hO, hk⟩ := h'.append (P := P) hs ht hti hb1 hb2 (by omega)
  exact ⟨f, hf, hO, fun k hk' => by rw [hk k hk', upd_ne _ _ (by omega)]⟩
end

section
variable {s2 : Nat → Prop} {g2 g' : Heap} {n n' : Nat} {v' : Value}

theorem fin_plain {v : Value} {r : List Nat} {j : Nat} (hs : ∀ i, s2 i → i < n) (hwf : ∀ i b, g2 i = some b → s2 i ∧ ∀ c ∈ b.cells, SV1 s2 c) (hk : Kp n g2 g') (hv : v' = v) (hsv : SVT s2 v) : Abs.Fin { v := v, r := r, j := j } [] s2 g2 n g' v' :=
  fin_none hv hsv fun i b hb => hk.at (hs i (hwf i b hb).1) hb

theorem Own.fin {e : TypeId} {l : List Value} {r : List Nat} {j : Nat} (h : Own e g' v' l n n') (hp : ∀ c ∈ l, plain c = true) (hs : ∀ i, s2 i → i < n) (hwf : ∀ i b, g2 i = some b → s2 i ∧ ∀ c ∈ b.cells, SV1 s2 c) (hk : Kp n g2 g') : ∃ ids, Abs.Fin (newE e l r j) ids s2 g2 n g' v' := by
  have hold : ∀ i b, g2 i = some b → g' i = some b := fun i b hb => hk.at (hs i (hwf i b hb).1) hb
  obtain ⟨i, h, hi⟩ := h
  rcases h with ⟨_, rfl, h2, h3⟩ | ⟨k, rfl, rfl, h3, h4⟩
  · exact ⟨[], by rw [newE_nil h2]; exact fin_none rfl trivial hold⟩
  · have := hi k rfl
    exact ⟨[k], by rw [newE_own this.2.2]; exact fin_slice rfl this.1 h3 hp hold⟩
end

theorem litB_1 (x : Int) (j : Nat) : stepBuildSlice Try.prog 30 1 [(0, .int .u8 x)] j = some { v := .slice (some ⟨j, 0, some 1⟩) 1 1, j := j, a := [⟨false, 5, [.int .u8 x]⟩] } := build_one Try.underlying30 tinf5 _ _ _
theorem litI_1 (x : Int) (j : Nat) : stepBuildSlice Try.prog 22 1 [(0, .int .i64 x)] j = some { v := .slice (some ⟨j, 0, some 1⟩) 1 1, j := j, a := [⟨false, 3, [.int .i64 x]⟩] } := build_one Try.underlying22 tinf3 _ _ _
theorem litB_0 (j : Nat) : stepBuildSlice Try.prog 30 0 [] j = some { v := .slice (some ⟨j, 0, some 0⟩) 0 1, j := j, a := [⟨false, 5, []⟩] } := build_nil Try.underlying30 tinf5 j
theorem litI_0 (j : Nat) : stepBuildSlice Try.prog 22 0 [] j = some { v := .slice (some ⟨j, 0, some 0⟩) 0 1, j := j, a := [⟨false, 3, []⟩] } := build_nil Try.underlying22 tinf3 j

theorem mkInts (n j : Nat) (h : n ≤ 2 ^ 40) : stepMake Try.prog 22 (.int .i64 n) (.int .i64 n) j = some { v := .slice (some ⟨j, 0, some n⟩) n 1, j := j, a := [⟨false, 3, ints (List.replicate n 0)⟩] } := by
  have hz : zcells [Value.int .i64 0] n = ints (List.replicate n 0) := by
    apply List.ext_getElem?
    intro i
    by_cases hi : i < n
    · simp [zcells, hi, Nat.mod_one]
    · rw [List.getElem?_eq_none (by simp [zcells]; omega), List.getElem?_eq_none (by simp; omega)]
  simp only [stepMake, Try.underlying22, tinf3, Nat.mul_one, Int.toNat_natCast, hz]
  rw [if_pos ⟨by omega, trivial, by omega, by omega, by omega⟩]

theorem mkBytes (n j : Nat) (h : n ≤ 2 ^ 40) : stepMake Try.prog 30 (.int .i64 n) (.int .i64 n) j = some { v := .slice (some ⟨j, 0, some n⟩) n 1, j := j, a := [⟨false, 5, bs (List.replicate n 0)⟩] } := by
  have hz : zcells [Value.int .u8 0] n = bs (List.replicate n 0) := by
    apply List.ext_getElem?
    intro i
    by_cases hi : i < n
    · simp [zcells, hi, Nat.mod_one]
    · rw [List.getElem?_eq_none (by simp [zcells]; omega), List.getElem?_eq_none (by simp; omega)]
  simp only [stepMake, Try.underlying30, tinf5, Nat.mul_one, Int.toNat_natCast, hz]
  rw [if_pos ⟨by omega, trivial, by omega, by omega, by omega⟩]

theorem wf_u8 {a : Int} (h : (Lit.int .u8 a).wf = true) : ∃ n : Nat, a = n ∧ n < 256 := by
  have h1 : 0 ≤ a ∧ a < 256 := by
    simp [Lit.wf, IntKind.min, IntKind.max, IntKind.signed, IntKind.bits] at h
    omega
  exact ⟨a.toNat, by omega, by omega⟩

theorem row_bytes {w : World} {a : Option Addr} {len cap : Nat} {zs : List Int} (h : Row .u8 w a len cap zs) : ∃ l : List Nat, l.length = len ∧ (∀ x ∈ l, x < 256) ∧ (zs.take len).map (Value.int .u8) = bs l := by
  have hl := (row_in h 0).2.2.2.2
  have hz : ∀ n ∈ zs.take len, ∃ m : Nat, n = m ∧ m < 256 := by
    intro n hn
    rcases h with ⟨_, _, _, rfl⟩ | ⟨x, _, _, _, _, _, h5⟩
    · simp at hn
    · exact wf_u8 (h5 n (List.mem_of_mem_take hn))
  refine ⟨(zs.take len).map Int.toNat, by simpa using hl, ?_, ?_⟩
  · intro x hx
    obtain ⟨n, hn, rfl⟩ := List.mem_map.1 hx
    obtain ⟨m, rfl, hm⟩ := hz n hn
    simpa using hm
  · unfold bs
    rw [List.map_map]
    refine List.map_congr_left fun n hn => ?_
    obtain ⟨m, rfl, hm⟩ := hz n hn
    simp

/-- A row of bytes that came in: what a walk is handed. -/
theorem row_arg {w : World} {a : Option Addr} {len cap : Nat} {zs : List Int} (h : Row .u8 w a len cap zs) : ∃ l : List Nat, (∀ x ∈ l, x < 256) ∧ EntIn w (argE a len 5 (bs l)) ∧ l.length = len ∧
    (∀ (L : List Ent) (i : Nat), L[i]? = some (argE a len 5 (bs l)) → Src (gOf L) (argV i a len 1) 1 l.length (bs l) ∧ ∀ s : Nat → Prop, s i → VV (rOf L) (gOf L) s (argV i a len 1) (.slice a len cap)) := by
  obtain ⟨hE, h1, h2, hn, hl⟩ := row_in h 5
  obtain ⟨l, hl1, hl2, hl3⟩ := row_bytes h
  rw [hl3] at hE hl
  refine ⟨l, hl2, hE, hl1, fun L i hL => ⟨?_, fun s hs => argV_VV hL hs (by simpa using hl) h1 h2 hn hE⟩⟩
  rw [hl1]
  exact argV_src hL (by simpa using hl) (fun e => (hn e).1)

/-- A row of ints that came in. -/
theorem row_argI {w : World} {a : Option Addr} {len cap : Nat} {zs : List Int} (h : Row .i64 w a len cap zs) : ∃ l : List Int, l.length = len ∧ EntIn w (argE a len 3 (l.map (Value.int .i64))) ∧
    (∀ (L : List Ent) (i : Nat), L[i]? = some (argE a len 3 (l.map (Value.int .i64))) → Src (gOf L) (argV i a len 1) 1 l.length (l.map (Value.int .i64)) ∧ ∀ s : Nat → Prop, s i → VV (rOf L) (gOf L) s (argV i a len 1) (.slice a len cap)) ∧ ∀ x ∈ l, -9223372036854775808 ≤ x ∧ x ≤ 9223372036854775807 := by
  obtain ⟨hE, h1, h2, hn, hl⟩ := row_in h 3
  have hl1 : (zs.take len).length = len := by simpa using hl
  refine ⟨zs.take len, hl1, hE, fun L i hL => ⟨?_, fun s hs => argV_VV hL hs (by simpa using hl) h1 h2 hn hE⟩, fun x hx => ?_⟩
  · rw [hl1]
    exact argV_src hL (by simpa using hl) (fun e => (hn e).1)
  · rcases h with ⟨_, _, _, rfl⟩ | ⟨x, _, _, _, _, _, h5⟩
    · simp at hx
    · have := h5 _ (List.mem_of_mem_take hx)
      simp [Lit.wf, IntKind.min, IntKind.max, IntKind.signed, IntKind.bits] at this
      omega

/-- 'for i := k0; i < M; i++': J k holds at the head of round k. -/
theorem for_loop {P : Program} {Q : AQ} {id id1 ra rb : Nat} {i c d e : Tmp} {ops : Array Oper} {ty1 ty2 ty3 T3 T4 : TypeId} {p1 p2 p3 : String} {a1 a2 a3 : Array Edge} {body : Code} {t : Nat → Value} {g : Heap} {n : Nat}
    (k0 M : Nat) (J : Nat → (Nat → Value) → Heap → Nat → Prop) (hM : M ≤ 4611686018427387904) (hk0 : k0 ≤ M) (h0 : t i = .int .i64 k0) (hJ0 : J k0 t g n)
    (hcond : ∀ k t g n, k ≤ M → t i = .int .i64 k → J k t g n → ∃ t', runL P ops ops.toList ⟨t, g, n⟩ = some ⟨t', g, n⟩ ∧ t' c = .bool (decide (k < M)) ∧ t' i = .int .i64 k ∧ J k t' g n)
    (hbody : ∀ k t g n, k < M → t i = .int .i64 k → J k t g n → awp P body (rngPost id id1 (fun t' g' n' => t' i = .int .i64 k ∧ ∀ v1 v2 v3, J (k + 1) (upd (upd (upd t' d v1) e v2) i v3) g' n') Q) t g n)
    (hend : ∀ t g n, J M t g n → Q .normal t g n) :
    awp P (.block id (.loop (.seq (.seq (.region ra ops false) (.cond (.tmp c) .skip (.exit id)))
      (.seq (.block id1 body) (.region rb #[⟨some d, .move (.tmp i), ty1, p1, a1, none⟩, ⟨some e, .binOp .add T3 (.tmp d) (.const (.int .i64 1)) T4, ty2, p2, a2, none⟩, ⟨some i, .assign (.tmp e), ty3, p3, a3, none⟩] false))))) Q t g n := by
  refine w_block (w_loop (fun t g n => ∃ k, k ≤ M ∧ t i = .int .i64 k ∧ J k t g n) (fun t _ _ => match t i with | .int _ k => M - k.toNat | _ => 0) ⟨k0, hk0, h0, hJ0⟩ ?_)
  rintro t g n ⟨k, hk, hi, hJk⟩
  obtain ⟨t', hr, hc, hi', hJ'⟩ := hcond k t g n hk hi hJk
  refine w_assoc (s_run hr ?_)
  by_cases hlt : k < M
  · refine s_true (by simp only [evl, hc]; simp; exact hlt) (s_skip (w_seq (w_block ?_)))
    refine awp_mono ?_ (hbody k _ g n hlt hi' hJ')
    have inc : ∀ t' g' n', (t' i = .int .i64 k ∧ ∀ v1 v2 v3, J (k + 1) (upd (upd (upd t' d v1) e v2) i v3) g' n') → awp P (.region rb #[⟨some d, .move (.tmp i), ty1, p1, a1, none⟩, ⟨some e, .binOp .add T3 (.tmp d) (.const (.int .i64 1)) T4, ty2, p2, a2, none⟩, ⟨some i, .assign (.tmp e), ty3, p3, a3, none⟩] false)
        (athen (fun t'' g'' n'' => (∃ k, k ≤ M ∧ t'' i = .int .i64 k ∧ J k t'' g'' n'') ∧ (match t'' i with | .int _ k => M - k.toNat | _ => 0) < (match t i with | .int _ k => M - k.toNat | _ => 0)) (ainBlock id Q)) t' g' n' := by
      rintro t' g' n' ⟨q1, q3⟩
      have hw : IntKind.i64.wrap ((k : Int) + 1) = ((k + 1 : Nat) : Int) := wrap_succ (by omega)
      refine region_run (t' := upd (upd (upd t' d (.int .i64 k)) e (.int .i64 ((k + 1 : Nat) : Int))) i (.int .i64 ((k + 1 : Nat) : Int))) (g' := g') (n' := n') (by simp only [runL, awant_none, astep, evl, put, ap_none, List.length_nil, Nat.add_zero, stepBin, abin, q1, if_true, hw, upd_self]) ?_
      clear hw
      refine ⟨⟨k + 1, by omega, by simp, q3 _ _ _⟩, ?_⟩
      rw [hi, upd_self]
      show M - ((k + 1 : Nat) : Int).toNat < M - (k : Int).toNat
      rw [Int.toNat_natCast, Int.toNat_natCast]
      exact Nat.sub_lt_sub_left hlt (Nat.lt_succ_self k)
    intro e t' g' n' he
    cases e with
    | normal => exact inc t' g' n' he
    | exit e =>
      simp only [rngPost] at he
      simp only [ainBlock]
      split at he
      · rename_i e1; rw [if_pos e1]; exact inc t' g' n' he
      · rename_i e1
        rw [if_neg e1]
        simp only [athen, ainBlock] at he ⊢
        exact he
    | _ => exact he
  · refine s_false (by simp only [evl, hc]; simp; omega) (s_exit ?_)
    have : k = M := by omega
    subst this
    simp only [athen, ainBlock, if_true]
    exact hend _ _ _ hJ'

/-- The same with what stands behind it. -/
theorem s_for {P : Program} {Q : AQ} {id id1 ra rb : Nat} {i c d e : Tmp} {ops : Array Oper} {ty1 ty2 ty3 T3 T4 : TypeId} {p1 p2 p3 : String} {a1 a2 a3 : Array Edge} {body rest : Code} {t : Nat → Value} {g : Heap} {n : Nat}
    (k0 M : Nat) (J : Nat → (Nat → Value) → Heap → Nat → Prop) (hM : M ≤ 4611686018427387904) (hk0 : k0 ≤ M) (h0 : t i = .int .i64 k0) (hJ0 : J k0 t g n)
    (hcond : ∀ k t g n, k ≤ M → t i = .int .i64 k → J k t g n → ∃ t', runL P ops ops.toList ⟨t, g, n⟩ = some ⟨t', g, n⟩ ∧ t' c = .bool (decide (k < M)) ∧ t' i = .int .i64 k ∧ J k t' g n)
    (hbody : ∀ k t g n, k < M → t i = .int .i64 k → J k t g n → awp P body (rngPost id id1 (fun t' g' n' => t' i = .int .i64 k ∧ ∀ v1 v2 v3, J (k + 1) (upd (upd (upd t' d v1) e v2) i v3) g' n') (athen (awp P rest Q) Q)) t g n)
    (hend : ∀ t g n, J M t g n → awp P rest Q t g n) :
    awp P (.seq (.block id (.loop (.seq (.seq (.region ra ops false) (.cond (.tmp c) .skip (.exit id)))
      (.seq (.block id1 body) (.region rb #[⟨some d, .move (.tmp i), ty1, p1, a1, none⟩, ⟨some e, .binOp .add T3 (.tmp d) (.const (.int .i64 1)) T4, ty2, p2, a2, none⟩, ⟨some i, .assign (.tmp e), ty3, p3, a3, none⟩] false))))) rest) Q t g n :=
  w_seq (for_loop k0 M J hM hk0 h0 hJ0 hcond hbody hend)

/-- 'for i := range M' (of a slice or a number): J k holds at the head of round k. -/
theorem s_rng {P : Program} {Q : AQ} {id id1 ra rb : Nat} {i m c d : Tmp} {ty1 ty2 ty3 T1 T2 T3 T4 : TypeId} {p1 p2 p3 : String} {a1 a2 a3 : Array Edge} {body rest : Code} {t : Nat → Value} {g : Heap} {n : Nat}
    (M : Nat) (J : Nat → (Nat → Value) → Heap → Nat → Prop) (hM : M ≤ 4611686018427387904) (h0 : t i = .int .i64 0) (hm : t m = .int .i64 M) (hJ0 : ∀ v, J 0 (upd t c v) g n)
    (hd : i ≠ m ∧ c ≠ i ∧ c ≠ m ∧ d ≠ i ∧ d ≠ m)
    (hbody : ∀ k t g n, k < M → t i = .int .i64 k → t m = .int .i64 M → J k t g n → awp P body (rngPost id id1 (fun t' g' n' => t' i = .int .i64 k ∧ t' m = .int .i64 M ∧ ∀ v1 v2 v3, J (k + 1) (upd (upd (upd t' d v1) i v2) c v3) g' n') (athen (awp P rest Q) Q)) t g n)
    (hend : ∀ t g n, J M t g n → awp P rest Q t g n) :
    awp P (.seq (.block id (.loop (.seq (.region ra #[⟨some c, .binOp .lss T1 (.tmp i) (.tmp m) T2, ty1, p1, a1, none⟩] false)
      (.seq (.cond (.tmp c) .skip (.exit id)) (.seq (.block id1 body) (.region rb #[⟨some d, .binOp .add T3 (.tmp i) (.const (.int .i64 1)) T4, ty2, p2, a2, none⟩, ⟨some i, .move (.tmp d), ty3, p3, a3, none⟩] false)))))) rest) Q t g n := by
  obtain ⟨d1, d2, d3, d4, d5⟩ := hd
  refine w_seq (w_block (w_loop (fun t g n => ∃ k, k ≤ M ∧ t i = .int .i64 k ∧ t m = .int .i64 M ∧ ∀ v, J k (upd t c v) g n) (fun t _ _ => match t i with | .int _ k => M - k.toNat | _ => 0) ⟨0, by omega, h0, hm, hJ0⟩ ?_))
  rintro t g n ⟨k, hk, hi, hm, hJk⟩
  refine s_run (t' := upd t c (.bool (decide ((k : Int) < M)))) (g' := g) (n' := n) (by simp only [runL, awant_none, astep, evl, put, ap_none, List.length_nil, Nat.add_zero, stepBin, abin, hi, hm, if_true]) ?_
  have hJc := hJk (.bool (decide ((k : Int) < M)))
  have hi' : upd t c (.bool (decide ((k : Int) < M))) i = .int .i64 k := by rw [upd_ne _ _ (Ne.symm d2)]; exact hi
  have hm' : upd t c (.bool (decide ((k : Int) < M))) m = .int .i64 M := by rw [upd_ne _ _ (Ne.symm d3)]; exact hm
  by_cases hlt : k < M
  · refine s_true (by simp only [evl, upd_self]; simp; exact hlt) (s_skip (w_seq (w_block ?_)))
    refine awp_mono ?_ (hbody k _ g n hlt hi' hm' hJc)
    have inc : ∀ t' g' n', (t' i = .int .i64 k ∧ t' m = .int .i64 M ∧ ∀ v1 v2 v3, J (k + 1) (upd (upd (upd t' d v1) i v2) c v3) g' n') → awp P (.region rb #[⟨some d, .binOp .add T3 (.tmp i) (.const (.int .i64 1)) T4, ty2, p2, a2, none⟩, ⟨some i, .move (.tmp d), ty3, p3, a3, none⟩] false)
        (athen (fun t'' g'' n'' => (∃ k, k ≤ M ∧ t'' i = .int .i64 k ∧ t'' m = .int .i64 M ∧ ∀ v, J k (upd t'' c v) g'' n'') ∧ (match t'' i with | .int _ k => M - k.toNat | _ => 0) < (match t i with | .int _ k => M - k.toNat | _ => 0)) (ainBlock id (athen (awp P rest Q) Q))) t' g' n' := by
      rintro t' g' n' ⟨q1, q2, q3⟩
      have hw : IntKind.i64.wrap ((k : Int) + 1) = ((k + 1 : Nat) : Int) := wrap_succ (by omega)
      refine region_run (t' := upd (upd t' d (.int .i64 ((k + 1 : Nat) : Int))) i (.int .i64 ((k + 1 : Nat) : Int))) (g' := g') (n' := n') (by simp only [runL, awant_none, astep, evl, put, ap_none, List.length_nil, Nat.add_zero, stepBin, abin, q1, if_true, hw, upd_self]) ?_
      clear hw
      refine ⟨⟨k + 1, by omega, by simp, ?_, fun v => q3 _ _ _⟩, ?_⟩
      · rw [upd_ne _ _ (Ne.symm d1), upd_ne _ _ (Ne.symm d5)]; exact q2
      · rw [hi, upd_self]
        show M - ((k + 1 : Nat) : Int).toNat < M - (k : Int).toNat
        rw [Int.toNat_natCast, Int.toNat_natCast]
        exact Nat.sub_lt_sub_left hlt (Nat.lt_succ_self k)
    intro e t' g' n' he
    cases e with
    | normal => exact inc t' g' n' he
    | exit e =>
      simp only [rngPost] at he
      simp only [ainBlock]
      split at he
      · rename_i e1; rw [if_pos e1]; exact inc t' g' n' he
      · rename_i e1
        rw [if_neg e1]
        simp only [athen, ainBlock] at he ⊢
        exact he
    | _ => exact he
  · refine s_false (by simp only [evl, upd_self]; simp; omega) (s_exit ?_)
    have : k = M := by omega
    subst this
    simp only [athen, ainBlock, if_true]
    exact hend _ _ _ hJc

theorem plain_bs (l : List Nat) : ∀ c ∈ bs l, plain c = true := plain_ints
theorem plain_is (l : List Nat) : ∀ c ∈ ints l, plain c = true := plain_ints


/-- What was done so far in a statement whose order is open: it wrote blocks from lo on alone, and all lies below hi. -/
def AccB (lo hi idx : Nat) (acc : List FP) : Prop := ∀ p ∈ acc, p.1 < idx ∧ (∀ x ∈ p.2.2, lo ≤ x ∧ x < hi) ∧ ∀ x ∈ p.2.1, x < hi

theorem AccB.nil (lo hi idx : Nat) : AccB lo hi idx [] := by intro p hp; simp at hp
theorem AccB.le {lo hi idx lo' hi' idx' : Nat} {acc : List FP} (h : AccB lo hi idx acc) (h1 : lo' ≤ lo) (h2 : hi ≤ hi') (h3 : idx ≤ idx') : AccB lo' hi' idx' acc := fun p hp => by
  obtain ⟨a, b, c⟩ := h p hp
  exact ⟨by omega, fun x hx => by have := b x hx; omega, fun x hx => by have := c x hx; omega⟩

section
variable {P : Program} {ops : Array Oper} {bf : Array Nat} {K : (Nat → Value) → Heap → Nat → Prop} {o : Oper} {rest : List Oper} {idx lo hi : Nat} {acc : List FP} {t : Nat → Value} {g : Heap} {n : Nat}

theorem AccB.cons (ha : AccB lo hi idx acc) {r w : List Nat} (hr : ∀ x ∈ r, x < hi) (hw : ∀ x ∈ w, lo ≤ x ∧ x < hi) : AccB lo hi (idx + 1) ((idx, r, w) :: acc) := by
  intro p hp
  rcases List.mem_cons.1 hp with rfl | hp
  · exact ⟨by omega, hw, hr⟩
  · obtain ⟨a, b, c⟩ := ha p hp
    exact ⟨by omega, b, c⟩

/-- An operation that reads blocks below lo. -/
theorem d_low (f : Eff) (h : astep P o.op (evl t) g n = some f) (hw : awant ops o t = some true) (ha : AccB lo hi idx acc) (hr : ∀ x ∈ f.r, x < lo) (h1 : f.w = []) (h2 : f.a = []) (hlh : lo ≤ hi)
    (hk : ∀ acc', AccB lo hi (idx + 1) acc' → awpD P ops bf K rest (idx + 1) acc' (put t o.dst f.v) g n) : awpD P ops bf K (o :: rest) idx acc t g n := by
  have hwr : f.wr = [] := by simp [Eff.wr, h1, h2]
  refine d_step f h hw (fun p hp => .inr ⟨fun x hx => ⟨fun hx' => ?_, by rw [hwr]; simp⟩, by rw [hwr]; simp⟩) ?_
  · have := (ha p hp).2.1 x hx
    have := hr x hx'
    omega
  · have e : f.ap g = g := by simp [Eff.ap, h1, h2, setAll, addAll]
    rw [e, h2, hwr]
    exact hk _ (ha.cons (fun x hx => by have := hr x hx; omega) (by simp))

/-- An operation that makes one block. -/
theorem d_new (f : Eff) (h : astep P o.op (evl t) g n = some f) (hw : awant ops o t = some true) (ha : AccB lo n idx acc) (hr : f.r = []) (h1 : f.w = []) (b : Blk) (h2 : f.a = [b]) (hj : f.j = n) (hlh : lo ≤ n)
    (hk : ∀ acc', AccB lo (n + 1) (idx + 1) acc' → awpD P ops bf K rest (idx + 1) acc' (put t o.dst f.v) (f.ap g) (n + 1)) : awpD P ops bf K (o :: rest) idx acc t g n := by
  have hwr : ∀ x, x ∈ f.wr ↔ x = n := fun x => by simp [Eff.wr, h1, h2, hj] 
  refine d_step f h hw (fun p hp => .inr ⟨fun x hx => ⟨by rw [hr]; simp, fun hx' => ?_⟩, fun x hx hx' => ?_⟩) ?_
  · have := (ha p hp).2.1 x hx
    have := (hwr x).1 hx'
    omega
  · have := (ha p hp).2.2 x hx
    have := (hwr x).1 hx'
    omega
  · rw [h2]
    refine hk _ ((ha.le (Nat.le_refl _) (Nat.le_succ n) (Nat.le_refl _)).cons (by rw [hr]; simp) fun x hx => ?_)
    have := (hwr x).1 hx
    omega

theorem full_bit {k i : Nat} (h : i < k) : (2 ^ k - 1).testBit i = true := by simp [Nat.testBit_two_pow_sub_one, h]

/-- An operation that stands behind all that was before. -/
theorem d_full (f : Eff) (h : astep P o.op (evl t) g n = some f) (hw : awant ops o t = some true) (ha : AccB lo hi idx acc) (hb : bf.getD idx 0 = 2 ^ idx - 1) (hr : ∀ x ∈ f.r, x < n + f.a.length) (hwr : ∀ x ∈ f.wr, lo ≤ x ∧ x < n + f.a.length) (hn : hi ≤ n)
    (hk : ∀ acc', AccB lo (n + f.a.length) (idx + 1) acc' → awpD P ops bf K rest (idx + 1) acc' (put t o.dst f.v) (f.ap g) (n + f.a.length)) : awpD P ops bf K (o :: rest) idx acc t g n := by
  refine d_step f h hw (fun p hp => .inl ?_) (hk _ ((ha.le (Nat.le_refl _) (by omega) (Nat.le_refl _)).cons hr hwr))
  rw [hb]
  exact full_bit (ha p hp).1

/-- A call that stands first. -/
theorem d_call1 {c : Call} {fo : Operand} (k : FuncId) (f : Eff) (ho : o.op = .call c) (hc : c.callee = .value fo) (hf : evl t fo = .func (.func k) #[] #[]) (hw : awant ops o t = some true)
    (hspec : FnSpec P k (c.args.toList.map (evl t)) g f) (hj : f.a ≠ [] → f.j = n) (ha : AccB lo hi idx acc) (hp : ∀ p ∈ acc, (bf.getD idx 0).testBit p.1 = true ∨ ((∀ x ∈ p.2.2, x ∉ f.r ∧ x ∉ f.wr) ∧ ∀ x ∈ p.2.1, x ∉ f.wr))
    (hr : ∀ x ∈ f.r, x < n + f.a.length) (hwr : ∀ x ∈ f.wr, lo ≤ x ∧ x < n + f.a.length) (hn : hi ≤ n + f.a.length)
    (hk : ∀ acc', AccB lo (n + f.a.length) (idx + 1) acc' → awpD P ops bf K rest (idx + 1) acc' (put t o.dst f.v) (f.ap g) (n + f.a.length)) : awpD P ops bf K (o :: rest) idx acc t g n :=
  d_call k f ho hc hf hw hspec hj hp (hk _ ((ha.le (Nat.le_refl _) hn (Nat.le_refl _)).cons hr hwr))
end

theorem d_num {P : Program} {ops : Array Oper} {bf : Array Nat} {K : (Nat → Value) → Heap → Nat → Prop} {l : List Oper} {idx : Nat} {acc : List FP} {t : Nat → Value} {g : Heap} {n : Nat} (h : ∀ N, N = n → awpD P ops bf K l idx acc t g N) : awpD P ops bf K l idx acc t g n := h n rfl

theorem append_fp_nil {P : Program} {T T' : TypeId} {p q : Nat} {y : Value} {g : Heap} {j : Nat} {f : Eff} (hf : stepAppend P T T' (.slice none p q) y g j = some f) : (∀ x ∈ f.r, x ∈ srcBlk y) ∧ ∀ x ∈ f.wr, x = j ∧ f.a.length = 1 := by
  unfold stepAppend at hf
  repeat' split at hf
  all_goals first | cases hf | skip
  all_goals simp_all [Eff.wr]

theorem append_fp_some {P : Program} {T T' : TypeId} {a : Addr} {p q : Nat} {y : Value} {g : Heap} {j : Nat} {f : Eff} (hf : stepAppend P T T' (.slice (some a) p q) y g j = some f) : (∀ x ∈ f.r, x = a.block ∨ x ∈ srcBlk y) ∧ ∀ x ∈ f.wr, x = a.block := by
  unfold stepAppend at hf
  repeat' split at hf
  all_goals first | cases hf | skip
  all_goals simp_all [Eff.wr]

/-- What an append to a slice of one's own looks at and writes. -/
theorem Own.append_fp {P : Program} {T T' e : TypeId} {g g' : Heap} {v y : Value} {l : List Value} {n n' j : Nat} {f : Eff} (h : Own e g v l n n') (hf : stepAppend P T T' v y g' j = some f) (hn : n ≤ j) (hj : n' ≤ j) :
    (∀ x ∈ f.r, x < j ∨ x ∈ srcBlk y) ∧ ∀ x ∈ f.wr, n ≤ x ∧ x < j + f.a.length := by
  obtain ⟨i, h, hi⟩ := h
  rcases h with ⟨_, rfl, _, _⟩ | ⟨k, rfl, rfl, _, _⟩
  · obtain ⟨h1, h2⟩ := append_fp_nil hf
    exact ⟨fun x hx => .inr (h1 x hx), fun x hx => by have := h2 x hx; omega⟩
  · obtain ⟨h1, h2⟩ := append_fp_some hf
    have := hi k rfl
    refine ⟨fun x hx => ?_, fun x hx => by have := h2 x hx; simp only at this; omega⟩
    rcases h1 x hx with e | e
    · simp only at e; left; omega
    · exact .inr e

theorem newE_wr {e : TypeId} {cs : List Value} {r : List Nat} {j : Nat} : ∀ x ∈ (newE e cs r j).wr, x = j ∧ (newE e cs r j).a.length = 1 := by
  unfold newE
  split
  · simp [Eff.wr]
  · intro x hx
    simp [Eff.wr] at hx
    exact ⟨hx, rfl⟩

theorem drop_cons {l : List Nat} {k : Nat} (h : k < l.length) : l.drop k = byt l k :: l.drop (k + 1) := by
  rw [List.drop_eq_getElem_cons h, byt_eq h]

/-- 'for i := range M', M known. -/
theorem s_rngc {P : Program} {Q : AQ} {id id1 ra rb : Nat} {i c d : Tmp} {ty1 ty2 ty3 T1 T2 T3 T4 : TypeId} {p1 p2 p3 : String} {a1 a2 a3 : Array Edge} {body rest : Code} {t : Nat → Value} {g : Heap} {n : Nat} {MI : Int}
    (M : Nat) (hMI : MI = (M : Int)) (J : Nat → (Nat → Value) → Heap → Nat → Prop) (hM : M ≤ 4611686018427387904) (h0 : t i = .int .i64 0) (hJ0 : ∀ v, J 0 (upd t c v) g n)
    (hd : c ≠ i ∧ d ≠ i)
    (hbody : ∀ k t g n, k < M → t i = .int .i64 k → J k t g n → awp P body (rngPost id id1 (fun t' g' n' => t' i = .int .i64 k ∧ ∀ v1 v2 v3, J (k + 1) (upd (upd (upd t' d v1) i v2) c v3) g' n') (athen (awp P rest Q) Q)) t g n)
    (hend : ∀ t g n, J M t g n → awp P rest Q t g n) :
    awp P (.seq (.block id (.loop (.seq (.region ra #[⟨some c, .binOp .lss T1 (.tmp i) (.const (.int .i64 MI)) T2, ty1, p1, a1, none⟩] false)
      (.seq (.cond (.tmp c) .skip (.exit id)) (.seq (.block id1 body) (.region rb #[⟨some d, .binOp .add T3 (.tmp i) (.const (.int .i64 1)) T4, ty2, p2, a2, none⟩, ⟨some i, .move (.tmp d), ty3, p3, a3, none⟩] false)))))) rest) Q t g n := by
  subst hMI
  obtain ⟨d2, d4⟩ := hd
  refine w_seq (w_block (w_loop (fun t g n => ∃ k, k ≤ M ∧ t i = .int .i64 k ∧ ∀ v, J k (upd t c v) g n) (fun t _ _ => match t i with | .int _ k => M - k.toNat | _ => 0) ⟨0, by omega, h0, hJ0⟩ ?_))
  rintro t g n ⟨k, hk, hi, hJk⟩
  refine s_run (t' := upd t c (.bool (decide ((k : Int) < M)))) (g' := g) (n' := n) (by simp only [runL, awant_none, astep, evl, put, ap_none, List.length_nil, Nat.add_zero, stepBin, abin, hi, if_true]) ?_
  have hJc := hJk (.bool (decide ((k : Int) < M)))
  have hi' : upd t c (.bool (decide ((k : Int) < M))) i = .int .i64 k := by rw [upd_ne _ _ (Ne.symm d2)]; exact hi
  by_cases hlt : k < M
  · refine s_true (by simp only [evl, upd_self]; simp; exact hlt) (s_skip (w_seq (w_block ?_)))
    refine awp_mono ?_ (hbody k _ g n hlt hi' hJc)
    have inc : ∀ t' g' n', (t' i = .int .i64 k ∧ ∀ v1 v2 v3, J (k + 1) (upd (upd (upd t' d v1) i v2) c v3) g' n') → awp P (.region rb #[⟨some d, .binOp .add T3 (.tmp i) (.const (.int .i64 1)) T4, ty2, p2, a2, none⟩, ⟨some i, .move (.tmp d), ty3, p3, a3, none⟩] false)
        (athen (fun t'' g'' n'' => (∃ k, k ≤ M ∧ t'' i = .int .i64 k ∧ ∀ v, J k (upd t'' c v) g'' n'') ∧ (match t'' i with | .int _ k => M - k.toNat | _ => 0) < (match t i with | .int _ k => M - k.toNat | _ => 0)) (ainBlock id (athen (awp P rest Q) Q))) t' g' n' := by
      rintro t' g' n' ⟨q1, q3⟩
      have hw : IntKind.i64.wrap ((k : Int) + 1) = ((k + 1 : Nat) : Int) := wrap_succ (by omega)
      refine region_run (t' := upd (upd t' d (.int .i64 ((k + 1 : Nat) : Int))) i (.int .i64 ((k + 1 : Nat) : Int))) (g' := g') (n' := n') (by simp only [runL, awant_none, astep, evl, put, ap_none, List.length_nil, Nat.add_zero, stepBin, abin, q1, if_true, hw, upd_self]) ?_
      clear hw
      refine ⟨⟨k + 1, by omega, by simp, fun v => q3 _ _ _⟩, ?_⟩
      rw [hi, upd_self]
      show M - ((k + 1 : Nat) : Int).toNat < M - (k : Int).toNat
      rw [Int.toNat_natCast, Int.toNat_natCast]
      exact Nat.sub_lt_sub_left hlt (Nat.lt_succ_self k)
    intro e t' g' n' he
    cases e with
    | normal => exact inc t' g' n' he
    | exit e =>
      simp only [rngPost] at he
      simp only [ainBlock]
      split at he
      · rename_i e1; rw [if_pos e1]; exact inc t' g' n' he
      · rename_i e1
        rw [if_neg e1]
        simp only [athen, ainBlock] at he ⊢
        exact he
    | _ => exact he
  · refine s_false (by simp only [evl, upd_self]; simp; omega) (s_exit ?_)
    have : k = M := by omega
    subst this
    simp only [athen, ainBlock, if_true]
    exact hend _ _ _ hJc


theorem ren1_id (c : Value) : ren1 (fun i => i) c = c := by
  cases c with
  | pointer a => cases a <;> rfl
  | slice a l e => cases a with
    | none => rfl
    | some a => simp only [ren1]; split <;> rfl
  | _ => rfl

theorem renA_id (c : Value) : renA (fun i => i) c = c := by
  cases c with
  | agg cs =>
    simp only [renA]
    congr 1
    apply Array.toList_inj.1
    simp only [Array.toList_map]
    exact (List.map_congr_left (g := id) fun c _ => ren1_id c).trans (by simp)
  | pointer a => exact ren1_id (.pointer a)
  | slice a l e => exact ren1_id (.slice a l e)
  | _ => rfl

theorem renT_id (c : Value) : renT (fun i => i) c = c := by
  cases c with
  | iface k v => cases v with
    | agg cs =>
      simp only [renT]
      congr 2
      apply Array.toList_inj.1
      simp only [Array.toList_map]
      exact (List.map_congr_left (g := id) fun c _ => ren1_id c).trans (by simp)
    | _ => rfl
  | tuple cs =>
    simp only [renT]
    congr 1
    apply Array.toList_inj.1
    simp only [Array.toList_map]
    exact (List.map_congr_left (g := id) fun c _ => renA_id c).trans (by simp)
  | agg cs => exact renA_id (.agg cs)
  | pointer a => exact ren1_id (.pointer a)
  | slice a l e => exact ren1_id (.slice a l e)
  | _ => rfl

theorem renB_id (b : Blk) : renB (fun i => i) b = b := by
  unfold renB
  have : b.cells.map (ren1 fun i => i) = b.cells := (List.map_congr_left (g := id) fun c _ => ren1_id c).trans (by simp)
  rw [this]

theorem renB_old {σ : Nat → Nat} {s : Nat → Prop} {b : Blk} (hσ : ∀ i, s i → σ i = i) (hb : ∀ c ∈ b.cells, SV1 s c) : renB σ b = b := by
  unfold renB
  have : b.cells.map (ren1 σ) = b.cells := (List.map_congr_left (g := id) fun c hc => ren1_old hσ (hb c hc)).trans (by simp)
  rw [this]

section
variable {s2 : Nat → Prop} {g2 g' : Heap} {n : Nat} {v' : Value}

/-- Written blocks, nothing new. -/
theorem fin_w {v : Value} {r : List Nat} {j : Nat} {w : List (Nat × Blk)} (hv : v' = v) (hsv : SVT s2 v) (hdom : ∀ i, i ∈ w.map (·.1) → (g2 i).isSome = true) (hw : ∀ i, i ∈ w.map (·.1) → ∃ b, setAll g2 w i = some b ∧ g' i = some b)
    (hsvw : ∀ p ∈ w, ∀ c ∈ p.2.cells, SV1 s2 c) (hold : ∀ i b, i ∉ w.map (·.1) → g2 i = some b → g' i = some b) :
    Abs.Fin { v := v, r := r, w := w, j := j } [] s2 g2 n g' v' := by
  have hσ : sig ({ v := v, r := r, w := w, j := j } : Eff) [] = fun i => i := funext fun i => by unfold sig; split <;> simp
  refine ⟨rfl, by simp, by simp, by rw [hσ, renT_id]; exact hv, by simp, fun i hi => ?_, hdom, hold, SVT.imp (fun _ => .inl) hsv, by simp, fun p hp c hc => SV1.imp (fun _ => .inl) (hsvw p hp c hc)⟩
  obtain ⟨b, h1, h2⟩ := hw i hi
  exact ⟨b, h1, by rw [hσ, renB_id]; exact h2⟩

/-- One written block, nothing new. -/
theorem fin_w1 {v : Value} {r : List Nat} {j p : Nat} {b : Blk} (hv : v' = v) (hsv : SVT s2 v) (hdom : (g2 p).isSome = true) (hw : g' p = some b) (hsvw : ∀ c ∈ b.cells, SV1 s2 c) (hold : ∀ i b, i ≠ p → g2 i = some b → g' i = some b) :
    Abs.Fin { v := v, r := r, w := [(p, b)], j := j } [] s2 g2 n g' v' := by
  refine fin_w hv hsv (fun i hi => ?_) (fun i hi => ?_) (fun q hq => ?_) (fun i b' hi => hold i b' ?_)
  · simp at hi; subst hi; exact hdom
  · simp at hi; subst hi; exact ⟨b, by simp [setAll], hw⟩
  · simp at hq; subst hq; exact hsvw
  · simpa using hi

/-- Written blocks and a new one of plain cells. -/
theorem fin_wa {v : Value} {r : List Nat} {j k : Nat} {w : List (Nat × Blk)} {e : TypeId} {cs : List Value} (hv : v' = renT (fun i => if i = j then k else i) v) (hsv : SVT (fun i => s2 i ∨ i = j) v) (hk : n ≤ k) (hgk : g' k = some ⟨false, e, cs⟩) (hp : ∀ c ∈ cs, plain c = true)
    (hj : ¬ s2 j) (hdom : ∀ i, i ∈ w.map (·.1) → (g2 i).isSome = true) (hw : ∀ i, i ∈ w.map (·.1) → ∃ b, setAll g2 w i = some b ∧ g' i = some (renB (fun i => if i = j then k else i) b)) (hsvw : ∀ p ∈ w, ∀ c ∈ p.2.cells, SV1 (fun i => s2 i ∨ i = j) c) (hold : ∀ i b, i ∉ w.map (·.1) → g2 i = some b → g' i = some b) :
    Abs.Fin { v := v, r := r, w := w, j := j, a := [⟨false, e, cs⟩] } [k] s2 g2 n g' v' := by
  have hsig : (sig ({ v := v, r := r, w := w, j := j, a := [⟨false, e, cs⟩] } : Eff) [k]) = fun i => if i = j then k else i := by
    funext i
    unfold sig
    by_cases h : i = j
    · subst h; simp
    · rw [if_neg h]
      show (if j ≤ i then _ else i) = i
      split
      · have : i - j ≠ 0 := by omega
        simp [this]
      · rfl
  have hup : ∀ i, (s2 i ∨ i = j) → (({ v := v, r := r, w := w, j := j, a := [⟨false, e, cs⟩] } : Eff).sn s2) i := fun i hi => by
    rcases hi with hi | rfl
    · exact .inl hi
    · exact .inr ⟨Nat.le_refl _, by simp⟩
  refine ⟨rfl, by simpa using hk, by simp, by rw [hsig]; exact hv, fun i b hi => ?_, fun i hi => ?_, hdom, hold, SVT.imp hup hsv, ?_, fun p hp c hc => SV1.imp hup (hsvw p hp c hc)⟩
  · cases i with
    | zero => simp at hi; subst hi; exact ⟨k, rfl, by rw [hgk, renB_plain hp]⟩
    | succ i => simp at hi
  · obtain ⟨b, h1, h2⟩ := hw i hi
    exact ⟨b, h1, by rw [hsig]; exact h2⟩
  · intro b hb c hc
    simp at hb
    subst hb
    exact SV1_plain (hp c hc)

/-- One written block whose cells are old, and a new one of plain cells. -/
theorem fin_wa1 {v : Value} {r : List Nat} {j k p : Nat} {b : Blk} {e : TypeId} {cs : List Value} (hv : v' = renT (fun i => if i = j then k else i) v) (hsv : SVT (fun i => s2 i ∨ i = j) v) (hk : n ≤ k) (hgk : g' k = some ⟨false, e, cs⟩) (hp : ∀ c ∈ cs, plain c = true)
    (hj : ¬ s2 j) (hdom : (g2 p).isSome = true) (hw : g' p = some b) (hsvw : ∀ c ∈ b.cells, SV1 s2 c) (hold : ∀ i b, i ≠ p → g2 i = some b → g' i = some b) :
    Abs.Fin { v := v, r := r, w := [(p, b)], j := j, a := [⟨false, e, cs⟩] } [k] s2 g2 n g' v' := by
  refine fin_wa hv hsv hk hgk hp hj (fun i hi => ?_) (fun i hi => ?_) (fun q hq c hc => ?_) (fun i b' hi => hold i b' ?_)
  · simp at hi; subst hi; exact hdom
  · simp at hi; subst hi
    refine ⟨b, by simp [setAll], ?_⟩
    rw [renB_old (s := s2) (fun i hi => if_neg (fun (e : i = j) => hj (by rw [← e]; exact hi))) hsvw]
    exact hw
  · simp at hq; subst hq; exact SV1.imp (fun _ => .inl) (hsvw c hc)
  · simpa using hi
end

/-- A part of a slice. -/
def slV (v : Value) (l k : Nat) : Value := match v with
  | .slice none _ _ => .slice none 0 0
  | .slice (some a) _ esz => if l = k then .slice (some ⟨0, 0, none⟩) 0 esz else .slice (some { a with off := a.off + l * esz }) (k - l) esz
  | v => v

theorem src_slV {P : Program} {g : Heap} {v : Value} {m : Nat} {cs : List Value} {T e : TypeId} (h : Src g v 1 m cs) (ht : P.underlying T = some (.slice e)) (hs : tsize P e = some 1) (lo hi : Option Value) (l k : Nat)
    (hl : boundOf lo 0 = some (l : Int)) (hh : boundOf hi (m : Int) = some (k : Int)) (h1 : l ≤ k) (h2 : k ≤ m) :
    stepSlice P T v lo hi = some { v := slV v l k } ∧ Src g (slV v l k) 1 (k - l) ((cs.drop l).take (k - l)) ∧ (∀ i ∈ srcBlk (slV v l k), i ∈ srcBlk v) ∧ ∀ s, SV1 s v → SV1 s (slV v l k) := by
  obtain ⟨v', e1, e2, e3, e4⟩ := h.slice (P := P) ht hs lo hi l k hl hh h1 h2
  have hv : v' = slV v l k := by
    rcases h with ⟨rfl, rfl, rfl⟩ | ⟨a, rfl, rfl, rfl⟩ | ⟨a, b, rfl, h0, hb, hcs, hle⟩
    · simp only [stepSlice, ht] at e1
      rw [hh, hl] at e1
      simp only [hs] at e1
      split at e1
      · split at e1 <;> cases e1; rfl
      · cases e1
    · have : l = 0 := by omega
      have : k = 0 := by omega
      subst l k
      simp only [stepSlice, ht] at e1
      rw [hh, hl] at e1
      simp [hs] at e1
      simp [slV, e1]
    · simp only [stepSlice, ht] at e1
      rw [hh, hl] at e1
      simp only [hs, if_true] at e1
      rw [if_pos (by omega)] at e1
      by_cases e0 : l = k
      · subst e0
        simp at e1
        simp [slV, e1]
      · rw [if_neg (by omega)] at e1
        simp only [Option.some.injEq] at e1
        have := congrArg Eff.v e1
        simp only [Int.toNat_natCast] at this
        rw [← this, slV, if_neg e0]
        congr 1
        omega
  subst hv
  refine ⟨e1, by simpa using e2, e3, fun s hsv => ?_⟩
  have hsh : ∀ x, (∃ a m e, x = Value.slice a m e) → SVT s x = SV1 s x := by
    rintro x ⟨a, m, e, rfl⟩; rfl
  have := e4 s
  obtain ⟨a1, q1, hv1⟩ := h.shape
  obtain ⟨a2, q2, hv2⟩ := e2.shape
  rw [hsh _ ⟨_, _, _, hv1⟩, hsh _ ⟨_, _, _, hv2⟩] at this
  exact this hsv

def cl : Code → Code
  | .seq a _ => a
  | c => c
def cr : Code → Code
  | .seq _ b => b
  | c => c
def cb : Code → Code
  | .block _ c => c
  | .loop c => c
  | c => c
def ct : Code → Code
  | .cond _ x _ => x
  | c => c
def ce : Code → Code
  | .cond _ _ y => y
  | c => c

section
variable {P : Program} {ops : Array Oper} {bf : Array Nat} {K : (Nat → Value) → Heap → Nat → Prop} {o : Oper} {rest : List Oper} {idx lo hi : Nat} {acc : List FP} {t : Nat → Value} {g : Heap} {n : Nat}

/-- A call that reads below lo and makes blocks. -/
theorem d_newcall {c : Call} {fo : Operand} (k : FuncId) (f : Eff) (ho : o.op = .call c) (hc : c.callee = .value fo) (hf : evl t fo = .func (.func k) #[] #[]) (hw : awant ops o t = some true)
    (hspec : FnSpec P k (c.args.toList.map (evl t)) g f) (hj : f.a ≠ [] → f.j = n) (ha : AccB lo n idx acc) (hr : ∀ x ∈ f.r, x < lo) (h1 : f.w = []) (hlo : lo ≤ n)
    (hk : ∀ acc', AccB lo (n + f.a.length) (idx + 1) acc' → (∀ p ∈ acc', ∀ x ∈ p.2.2, n ≤ x → p.1 = idx) → awpD P ops bf K rest (idx + 1) acc' (put t o.dst f.v) (f.ap g) (n + f.a.length)) : awpD P ops bf K (o :: rest) idx acc t g n := by
  have hwr : ∀ x ∈ f.wr, n ≤ x ∧ x < n + f.a.length := by
    intro x hx
    simp only [Eff.wr, h1, List.map_nil, List.nil_append, List.mem_range'_1] at hx
    by_cases e : f.a = []
    · simp [e] at hx; omega
    · rw [hj e] at hx; omega
  refine d_call k f ho hc hf hw hspec hj (fun p hp => .inr ⟨fun x hx => ⟨fun h2 => ?_, fun h2 => ?_⟩, fun x hx h2 => ?_⟩) (hk _ ((ha.le (Nat.le_refl _) (by omega) (Nat.le_refl _)).cons (fun x hx => by have := hr x hx; omega) (fun x hx => by have := hwr x hx; omega)) ?_)
  · have := (ha p hp).2.1 x hx
    have := hr x h2
    omega
  · have := (ha p hp).2.1 x hx
    have := hwr x h2
    omega
  · have := (ha p hp).2.2 x hx
    have := hwr x h2
    omega
  · intro p hp x hx hn
    rcases List.mem_cons.1 hp with rfl | hp
    · rfl
    · have := (ha p hp).2.1 x hx
      omega

/-- What such a call made is read, behind it. -/
theorem d_rdnew (m i : Nat) (f : Eff) (h : astep P o.op (evl t) g n = some f) (hw : awant ops o t = some true) (ha : AccB lo hi idx acc) (hm : ∀ p ∈ acc, ∀ x ∈ p.2.2, m ≤ x → p.1 = i) (hb : (bf.getD idx 0).testBit i = true) (hr : ∀ x ∈ f.r, m ≤ x ∧ x < hi) (h1 : f.w = []) (h2 : f.a = [])
    (hk : ∀ acc', AccB lo hi (idx + 1) acc' → awpD P ops bf K rest (idx + 1) acc' (put t o.dst f.v) g n) : awpD P ops bf K (o :: rest) idx acc t g n := by
  have hwr : f.wr = [] := by simp [Eff.wr, h1, h2]
  refine d_step f h hw (fun p hp => ?_) ?_
  · by_cases e : p.1 = i
    · left; rw [e]; exact hb
    · right
      refine ⟨fun x hx => ⟨fun hx' => ?_, by rw [hwr]; simp⟩, by rw [hwr]; simp⟩
      exact e (hm p hp x hx (hr x hx').1)
  · have e : f.ap g = g := by simp [Eff.ap, h1, h2, setAll, addAll]
    rw [e, h2, hwr]
    exact hk _ (ha.cons (fun x hx => (hr x hx).2) (by simp))
end

section
variable {P : Program} {ops : Array Oper} {bf : Array Nat} {K : (Nat → Value) → Heap → Nat → Prop} {o : Oper} {rest : List Oper} {idx lo hi : Nat} {acc : List FP} {t : Nat → Value} {g : Heap} {n : Nat}

/-- A call that stands behind all that was before, and makes nothing. -/
theorem d_fcall {c : Call} {fo : Operand} (k : FuncId) (f : Eff) (ho : o.op = .call c) (hc : c.callee = .value fo) (hf : evl t fo = .func (.func k) #[] #[]) (hw : awant ops o t = some true)
    (hspec : FnSpec P k (c.args.toList.map (evl t)) g f) (hfa : f.a = []) (ha : AccB lo hi idx acc) (hb : bf.getD idx 0 = 2 ^ idx - 1) (hr : ∀ x ∈ f.r, x < hi) (hwr : ∀ x ∈ f.wr, lo ≤ x ∧ x < hi)
    (hk : ∀ acc', AccB lo hi (idx + 1) acc' → awpD P ops bf K rest (idx + 1) acc' (put t o.dst f.v) (f.ap g) n) : awpD P ops bf K (o :: rest) idx acc t g n := by
  refine d_call k f ho hc hf hw hspec (fun h => (h hfa).elim) (fun p hp => .inl (by rw [hb]; exact full_bit (ha p hp).1)) ?_
  have := hk _ (ha.cons hr hwr)
  rw [hfa]
  exact this
end


section
variable {P : Program} {ops : Array Oper} {bf : Array Nat} {K : (Nat → Value) → Heap → Nat → Prop}

/-- The same as d_reads; and the numbers of what was done are kept. -/
theorem d_readsB (k : Nat) : ∀ {l : List Oper} {idx : Nat} {acc : List FP} {t : Nat → Value} {g : Heap} {n : Nat} {s : St}, (∀ p ∈ acc, p.1 < idx ∧ p.2.2 = []) → runR P ops (l.take k) ⟨t, g, n⟩ = some s →
    (∀ acc' : List FP, (∀ p ∈ acc', p.1 < idx + (l.take k).length ∧ p.2.2 = []) → awpD P ops bf K (l.drop k) (idx + (l.take k).length) acc' s.t s.g s.n) → awpD P ops bf K l idx acc t g n := by
  induction k with
  | zero => intro l idx acc t g n s ha h hk; simp only [List.take_zero, runR, Option.some.injEq] at h; subst h; simpa using hk acc (by simpa using ha)
  | succ k ih =>
    intro l idx acc t g n s ha h hk
    cases l with
    | nil => simp only [List.take_nil, runR, Option.some.injEq] at h; subst h; simpa using hk acc (by simpa using ha)
    | cons o rest =>
      simp only [List.take_succ_cons, runR] at h
      have hk' : ∀ acc' : List FP, (∀ p ∈ acc', p.1 < idx + 1 + (rest.take k).length ∧ p.2.2 = []) → awpD P ops bf K (rest.drop k) (idx + 1 + (rest.take k).length) acc' s.t s.g s.n := fun acc' h' => by
        have := hk acc' (fun p hp => by
          have := h' p hp
          simp only [List.take_succ_cons, List.length_cons]
          exact ⟨by omega, this.2⟩)
        simp only [List.drop_succ_cons, List.take_succ_cons, List.length_cons] at this
        rwa [show idx + ((rest.take k).length + 1) = idx + 1 + (rest.take k).length by omega] at this
      have ha' : ∀ p ∈ acc, p.1 < idx + 1 ∧ p.2.2 = [] := fun p hp => ⟨by have := (ha p hp).1; omega, (ha p hp).2⟩
      split at h
      · rename_i hw
        split at h
        · rename_i f hf
          split at h
          · rename_i he
            simp only [Bool.and_eq_true] at he
            obtain ⟨h3, h4⟩ := wr_nil he.1 he.2
            have h5 : f.a.length = 0 := by have := he.2; simp only [List.isEmpty_iff] at this; simp [this]
            refine ⟨true, hw, f, .inl hf, fun p hp => .inr ⟨by rw [(ha p hp).2]; simp, by rw [h3]; simp⟩, ?_⟩
            rw [h4, h5]
            refine ih ?_ h hk'
            intro p hp
            split at hp
            · exact ha' p hp
            · rcases List.mem_cons.1 hp with rfl | hp
              · exact ⟨by simp, h3⟩
              · exact ha' p hp
          · cases h
        · cases h
      · rename_i hw
        exact ⟨false, hw, ih ha' h hk'⟩
      · cases h

theorem region_drawn {id : Nat} {ops : Array Oper} {Q : AQ} {t : Nat → Value} {g : Heap} {n : Nat} (bf : Array Nat) (hd : drawOK ops bf = true) (h : awpD P ops bf (Q .normal) ops.toList 0 [] t g n) : awp P (.region id ops true) Q t g n := ⟨bf, hd, h⟩

/-- The last operation, behind all others. -/
theorem d_last {o : Oper} {idx : Nat} {acc : List FP} {t : Nat → Value} {g : Heap} {n : Nat} (f : Eff) (h : astep P o.op (evl t) g n = some f) (hw : awant ops o t = some true) (ha : ∀ p ∈ acc, p.1 < idx ∧ p.2.2 = []) (hb : bf.getD idx 0 = 2 ^ idx - 1)
    (hk : K (put t o.dst f.v) (f.ap g) (n + f.a.length)) : awpD P ops bf K [o] idx acc t g n :=
  d_step f h hw (fun p hp => .inl (by rw [hb]; exact full_bit (ha p hp).1)) hk
end

section
variable {s2 : Nat → Prop} {g2 g' : Heap} {n : Nat} {v' : Value}

/-- Two new blocks that may hold one another's places. -/
theorem fin_new2 {v : Value} {r : List Nat} {j k0 k1 : Nat} {b0 b1 : Blk} (hv : v' = renT (fun i => if i = j then k0 else if i = j + 1 then k1 else i) v) (hsv : SVT (fun i => s2 i ∨ (j ≤ i ∧ i < j + 2)) v) (hk0 : n ≤ k0) (hk1 : n ≤ k1) (hne : k0 ≠ k1)
    (h0 : g' k0 = some (renB (fun i => if i = j then k0 else if i = j + 1 then k1 else i) b0)) (h1 : g' k1 = some (renB (fun i => if i = j then k0 else if i = j + 1 then k1 else i) b1)) (hs0 : ∀ c ∈ b0.cells, SV1 (fun i => s2 i ∨ (j ≤ i ∧ i < j + 2)) c) (hs1 : ∀ c ∈ b1.cells, SV1 (fun i => s2 i ∨ (j ≤ i ∧ i < j + 2)) c)
    (hold : ∀ i b, g2 i = some b → g' i = some b) : Abs.Fin { v := v, r := r, j := j, a := [b0, b1] } [k0, k1] s2 g2 n g' v' := by
  have hsig : (sig ({ v := v, r := r, j := j, a := [b0, b1] } : Eff) [k0, k1]) = fun i => if i = j then k0 else if i = j + 1 then k1 else i := by
    funext i
    unfold sig
    by_cases e0 : i = j
    · subst e0; simp
    · by_cases e1 : i = j + 1
      · subst e1; simp
      · rw [if_neg e0, if_neg e1]
        show (if j ≤ i then _ else i) = i
        split
        · rw [List.getElem?_eq_none (by simp; omega)]; rfl
        · rfl
  refine ⟨rfl, by simp [hk0, hk1], by simpa using hne, by rw [hsig]; exact hv, fun m b hm => ?_, by simp, by simp, fun i b _ h => hold i b h, hsv, fun b hb c hc => ?_, by simp⟩
  · rw [hsig]
    rcases m with _ | _ | m
    · simp at hm; subst hm; exact ⟨k0, rfl, h0⟩
    · simp at hm; subst hm; exact ⟨k1, rfl, h1⟩
    · simp at hm
  · simp at hb
    rcases hb with rfl | rfl
    · exact hs0 c hc
    · exact hs1 c hc
end

theorem ld_at {P : Program} {T k e : Nat} {g : Heap} {ro : Bool} {cs : List Value} {i : Nat} {c : Value} {s : Option Nat} (h : g k = some ⟨ro, e, cs⟩) (hs : s = some cs.length) (hc : cs[i]? = some c) (ha : aggT P T = some false) : stepLoad P T (.pointer (some ⟨k, i, s⟩)) g = some { v := c, r := [k] } := by
  subst hs
  simp [stepLoad, rd, h, ha, hc]
/-- A cell is written. -/
theorem st_at {P : Program} {T k e : Nat} {g : Heap} {cs : List Value} {i : Nat} {c d : Value} {s : Option Nat} (h : g k = some ⟨false, e, cs⟩) (hs : s = some cs.length) (hi : i < cs.length) (ht : tsize P T = some 1) (hc : c.cells = #[c]) (hc2 : isTup c = false) : stepStore P T (.pointer (some ⟨k, i, s⟩)) c g = some { v := undef, r := [k], w := [(k, ⟨false, e, cs.set i c⟩)] } := by
  subst hs
  simp [stepStore, rd, h, hc2, ht, hc, putAll]
  omega


theorem nchk (a : Addr) : stepNilCheck (.pointer (some a)) = some { v := .pointer (some a) } := rfl
theorem tinf4 : tinf Try.prog 4 = some ([.bool false], 1, 1) := by kernel_rfl
theorem tsize4 : tsize Try.prog 4 = some 1 := by kernel_rfl
theorem aggT4 : aggT Try.prog 4 = some false := by kernel_rfl
theorem aggTI : aggT Try.prog 22 = some false := by kernel_rfl
theorem tsizeI : tsize Try.prog 22 = some 1 := by kernel_rfl
abbrev bools (l : List Bool) : List Value := l.map Value.bool
abbrev intsI (l : List Int) : List Value := l.map (Value.int .i64)
theorem plain_bools {l : List Bool} : ∀ c ∈ bools l, plain c = true := by intro c hc; obtain ⟨b, _, rfl⟩ := List.mem_map.1 hc; rfl
theorem plain_intsI {l : List Int} : ∀ c ∈ intsI l, plain c = true := by intro c hc; obtain ⟨b, _, rfl⟩ := List.mem_map.1 hc; rfl
theorem mkBools (n j : Nat) (h : n ≤ 2 ^ 40) : stepMake Try.prog 67 (.int .i64 n) (.int .i64 n) j = some { v := .slice (some ⟨j, 0, some n⟩) n 1, j := j, a := [⟨false, 4, bools (List.replicate n false)⟩] } := by
  have hz : zcells [Value.bool false] n = bools (List.replicate n false) := by
    apply List.ext_getElem?
    intro i
    by_cases hi : i < n
    · simp [zcells, hi, Nat.mod_one]
    · rw [List.getElem?_eq_none (by simp [zcells]; omega), List.getElem?_eq_none (by simp; omega)]
  simp only [stepMake, Try.underlying67, tinf4, Nat.mul_one, Int.toNat_natCast, hz]
  rw [if_pos ⟨by omega, trivial, by omega, by omega, by omega⟩]
theorem mkIntsI (n j : Nat) (h : n ≤ 2 ^ 40) : stepMake Try.prog 22 (.int .i64 n) (.int .i64 n) j = some { v := .slice (some ⟨j, 0, some n⟩) n 1, j := j, a := [⟨false, 3, intsI (List.replicate n 0)⟩] } := by
  rw [mkInts n j h]; simp
/-- Own rows: their length, place i, what is read and written there. -/
theorem lenI (q m : Nat) (s : Option Nat) : stepLen Try.prog 22 (.slice (some ⟨q, 0, s⟩) m 1) = some { v := .int .i64 m } := by simp [stepLen, Try.underlying22]
theorem lenL (q m : Nat) (s : Option Nat) : stepLen Try.prog 67 (.slice (some ⟨q, 0, s⟩) m 1) = some { v := .int .i64 m } := by simp [stepLen, Try.underlying67]
theorem lenNilI : stepLen Try.prog 22 (.slice none 0 0) = some { v := .int .i64 0 } := by simp [stepLen, Try.underlying22]
theorem idxI (q m i s : Nat) (h : i < m) : stepIndex Try.prog 22 (.slice (some ⟨q, 0, some s⟩) m 1) (.int .i64 (i : Int)) = some { v := .pointer (some ⟨q, i, some s⟩) } := by simp [stepIndex, Try.underlying22, tsize3, h]
theorem idxL (q m i s : Nat) (h : i < m) : stepIndex Try.prog 67 (.slice (some ⟨q, 0, some s⟩) m 1) (.int .i64 (i : Int)) = some { v := .pointer (some ⟨q, i, some s⟩) } := by simp [stepIndex, Try.underlying67, tsize4, h]
theorem ldI {q i m : Nat} {c : List Int} {g : Heap} (h : g q = some ⟨false, 3, intsI c⟩) (hm : c.length = m) (hi : i < c.length) : stepLoad Try.prog 3 (.pointer (some ⟨q, i, some m⟩)) g = some { v := .int .i64 c[i], r := [q] } := ld_at h (by simp [hm]) (by simp [hi]) aggT3
theorem stI {q i m : Nat} {x : Int} {c : List Int} {g : Heap} (h : g q = some ⟨false, 3, intsI c⟩) (hm : c.length = m) (hi : i < c.length) : stepStore Try.prog 3 (.pointer (some ⟨q, i, some m⟩)) (.int .i64 x) g = some { v := undef, r := [q], w := [(q, ⟨false, 3, intsI (c.set i x)⟩)] } := by
  rw [st_at (d := undef) h (by simp [hm]) (by simpa using hi) tsize3 rfl rfl]; simp [intsI, List.map_set]
theorem ldL {q i m : Nat} {c : List Bool} {g : Heap} (h : g q = some ⟨false, 4, bools c⟩) (hm : c.length = m) (hi : i < c.length) : stepLoad Try.prog 4 (.pointer (some ⟨q, i, some m⟩)) g = some { v := .bool c[i], r := [q] } := ld_at h (by simp [hm]) (by simp [hi]) aggT4
theorem stL {q i m : Nat} {x : Bool} {c : List Bool} {g : Heap} (h : g q = some ⟨false, 4, bools c⟩) (hm : c.length = m) (hi : i < c.length) : stepStore Try.prog 4 (.pointer (some ⟨q, i, some m⟩)) (.bool x) g = some { v := undef, r := [q], w := [(q, ⟨false, 4, bools (c.set i x)⟩)] } := by
  rw [st_at (d := undef) h (by simp [hm]) (by simpa using hi) tsize4 rfl rfl]; simp [bools, List.map_set]
theorem src_intsI' {g : Heap} {k e m : Nat} {ro : Bool} {l : List Int} (h : g k = some ⟨ro, e, intsI l⟩) (hm : m = l.length) : Src g (.slice (some ⟨k, 0, some m⟩) m 1) 1 l.length (intsI l) := by subst hm; exact src_cells h (by simp)
theorem w_num {P : Program} {c : Code} {Q : AQ} {t : Nat → Value} {g : Heap} {n : Nat} (h : ∀ N, N = n → awp P c Q t g N) : awp P c Q t g n := h n rfl
/-- A row's number i, wherever the row is. -/
theorem srcI {g : Heap} {v : Value} {l : List Int} {i : Nat} (h : Src g v 1 l.length (intsI l)) (hi : i < l.length) : ∃ p : Addr, stepIndex Try.prog 22 v (.int .i64 (i : Int)) = some { v := .pointer (some p) } ∧ stepLoad Try.prog 3 (.pointer (some p)) g = some { v := .int .i64 l[i], r := [p.block] } ∧ p.block ∈ srcBlk v := by
  obtain ⟨p, h1, h2, h3⟩ := h.at1 (P := Try.prog) (i := i) (c := .int .i64 l[i]) (by simp [hi]) Try.underlying22 tsize3 aggT3
  exact ⟨p, h1 .i64, h2, h3⟩
theorem srcB {g : Heap} {v : Value} {l : List Nat} {i : Nat} (h : Src g v 1 l.length (bs l)) (hi : i < l.length) : ∃ p : Addr, stepIndex Try.prog 30 v (.int .i64 (i : Int)) = some { v := .pointer (some p) } ∧ stepLoad Try.prog 5 (.pointer (some p)) g = some { v := .int .u8 (byt l i), r := [p.block] } ∧ p.block ∈ srcBlk v := by
  obtain ⟨p, h1, h2, h3⟩ := h.at1 (P := Try.prog) (i := i) (c := .int .u8 (byt l i)) (bs_at hi) Try.underlying30 tsize5 aggT5
  exact ⟨p, h1 .i64, h2, h3⟩
theorem newE_OwnI (e : TypeId) (cs : List Value) (r : List Nat) (j : Nat) (G : Heap) : ∃ i, OwnI e 1 ((newE e cs r j).ap G) (newE e cs r j).v cs.length cs i ∧ ∀ q, i = some q → q = j ∧ (newE e cs r j).a.length = 1 := by
  unfold newE
  split
  · rename_i h
    have : cs = [] := List.eq_nil_of_length_eq_zero h
    subst this
    exact ⟨none, OwnI.nil e 1 _, by simp⟩
  · exact ⟨some j, .inr ⟨j, rfl, rfl, by simp [ap_new], by simp⟩, fun q hq => by cases hq; exact ⟨rfl, rfl⟩⟩
theorem newE_Own {e : TypeId} {cs : List Value} {r : List Nat} {j n : Nat} (G : Heap) (h : n ≤ j) : Own e ((newE e cs r j).ap G) (newE e cs r j).v cs n (j + (newE e cs r j).a.length) := by
  unfold newE
  split
  · rename_i h
    have : cs = [] := List.eq_nil_of_length_eq_zero h
    subst this
    exact Own.nil _ _ _ _
  · rename_i h0
    exact ⟨some j, .inr ⟨j, rfl, rfl, by simp [ap_new], by simp⟩, fun q hq => by cases hq; exact ⟨h, by simp, h0⟩⟩
theorem own_sl {e : TypeId} {g : Heap} {v : Value} {l : List Value} {n n' : Nat} (h : Own e g v l n n') : ∃ a k, v = .slice a l.length k := by
  obtain ⟨i, h, _⟩ := h
  rcases h with ⟨_, h1, h2, _⟩ | ⟨k, _, h1, _⟩
  · exact ⟨none, 0, by rw [h1, h2]⟩
  · exact ⟨_, _, h1⟩
/-- An answer with a new slice in it, nil or a block of one's own. -/
theorem Own.fin_tuple {s2 : Nat → Prop} {g2 g' : Heap} {n n' : Nat} {v' : Value} {e : TypeId} {l : List Value} {r : List Nat} {j : Nat} {q : Bool} (h : Own e g' v' l n n') (hp : ∀ c ∈ l, plain c = true) (hs : ∀ i, s2 i → i < n)
    (hwf : ∀ i b, g2 i = some b → s2 i ∧ ∀ c ∈ b.cells, SV1 s2 c) (hk : Kp n g2 g') :
    ∃ ids, Abs.Fin { v := .tuple #[(newE e l r j).v, .bool q], r := r, j := j, a := (newE e l r j).a } ids s2 g2 n g' (.tuple #[v', .bool q]) := by
  have hold : ∀ i b, g2 i = some b → g' i = some b := fun i b hb => hk.at (hs i (hwf i b hb).1) hb
  obtain ⟨i, h, hi⟩ := h
  rcases h with ⟨_, rfl, h2, h3⟩ | ⟨k, rfl, rfl, h3, h4⟩
  · refine ⟨[], ?_⟩
    rw [newE_nil h2]
    exact fin_plain hs hwf hk rfl (by intro c hc; simp at hc; rcases hc with rfl | rfl <;> trivial)
  · have := hi k rfl
    refine ⟨[k], ?_⟩
    rw [newE_own this.2.2]
    refine fin_one ?_ ?_ this.1 h3 hp hold
    · simp [renT, renA, ren1]
    · intro c hc
      simp at hc
      rcases hc with rfl | rfl
      · exact .inr (.inr rfl)
      · trivial

end Go.Proofs.Ytdpkhijbikbhnaa
