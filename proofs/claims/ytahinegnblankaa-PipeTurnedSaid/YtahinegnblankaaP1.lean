import Derived.Test.YtahinegnblankaaAbsC
import Derived.Test.YtahinegnblankaaProg
import Derived.KernelRfl
import Derived.Laws.BitsAllLaws
import Derived.Laws.Strings
namespace Go.Proofs.Ytahinegnblankaa
open Go Abs
set_option linter.unusedSimpArgs false
set_option linter.unusedVariables false

theorem follows : Try.prog.follows .mixedOrders = true := by kernel_rfl
theorem tinf5 : tinf Try.prog 5 = some ([.int .u8 0], 1, 1) := by kernel_rfl
theorem tinf3 : tinf Try.prog 3 = some ([.int .i64 0], 1, 8) := by kernel_rfl
theorem tsize5 : tsize Try.prog 5 = some 1 := by kernel_rfl
theorem tsize3 : tsize Try.prog 3 = some 1 := by kernel_rfl
theorem aggT5 : aggT Try.prog 5 = some false := by kernel_rfl
theorem aggT3 : aggT Try.prog 3 = some false := by kernel_rfl

theorem conv5_3 (x : Int) (g : Heap) : stepConv Try.prog 5 3 (.int .u8 x) g = some { v := .int .i64 (IntKind.i64.wrap x) } := by simp [stepConv, Try.underlying5, Try.underlying3]
theorem conv3_5 (x : Int) (g : Heap) : stepConv Try.prog 3 5 (.int .i64 x) g = some { v := .int .u8 (IntKind.u8.wrap x) } := by simp [stepConv, Try.underlying5, Try.underlying3]
theorem conv3_25 (x : Int) (g : Heap) : stepConv Try.prog 3 25 (.int .i64 x) g = some { v := .int .u64 (IntKind.u64.wrap x) } := by simp [stepConv, Try.underlying25, Try.underlying3]
theorem conv3_41 (x : Int) (g : Heap) : stepConv Try.prog 3 41 (.int .i64 x) g = some { v := .int .u64 (IntKind.u64.wrap x) } := by simp [stepConv, Try.underlying41, Try.underlying3]
theorem conv41_3 (x : Int) (g : Heap) : stepConv Try.prog 41 3 (.int .u64 x) g = some { v := .int .i64 (IntKind.i64.wrap x) } := by simp [stepConv, Try.underlying41, Try.underlying3]
theorem conv41_5 (x : Int) (g : Heap) : stepConv Try.prog 41 5 (.int .u64 x) g = some { v := .int .u8 (IntKind.u8.wrap x) } := by simp [stepConv, Try.underlying41, Try.underlying5]
theorem conv5_41 (x : Int) (g : Heap) : stepConv Try.prog 5 41 (.int .u8 x) g = some { v := .int .u64 (IntKind.u64.wrap x) } := by simp [stepConv, Try.underlying41, Try.underlying5]

theorem wrap64_of {x : Int} (h1 : -9223372036854775808 ≤ x) (h2 : x ≤ 9223372036854775807) : IntKind.i64.wrap x = x := by rw [IntKind.wrap_i64]; omega
theorem wrapU64_of {x : Int} (h1 : 0 ≤ x) (h2 : x < 18446744073709551616) : IntKind.u64.wrap x = x := by rw [IntKind.wrap_u64]; omega
theorem wrap_u8 (v : Nat) : IntKind.u8.wrap (v : Int) = ((v % 256 : Nat) : Int) := by simp [IntKind.wrap, IntKind.bits, IntKind.signed]
theorem wrap8_of {v : Nat} (h : v < 256) : IntKind.u8.wrap (v : Int) = (v : Int) := by rw [wrap_u8, Nat.mod_eq_of_lt h]
theorem wrap_succ {k : Nat} (h : k < 9223372036854775807) : IntKind.i64.wrap ((k : Int) + 1) = ((k + 1 : Nat) : Int) := by rw [wrap64_of (by omega) (by omega)]; simp
theorem wrap_nat {k : Nat} (h : k ≤ 9223372036854775807) : IntKind.i64.wrap (k : Int) = (k : Int) := wrap64_of (by omega) (by omega)
theorem wrap_add {a b : Nat} (h : a + b ≤ 9223372036854775807) : IntKind.i64.wrap ((a : Int) + (b : Int)) = ((a + b : Nat) : Int) := by rw [wrap64_of (by omega) (by omega)]; simp
theorem wrap_sub {a b : Nat} (h : b ≤ a) (ha : a ≤ 9223372036854775807) : IntKind.i64.wrap ((a : Int) - (b : Int)) = ((a - b : Nat) : Int) := by rw [wrap64_of (by omega) (by omega)]; omega
theorem wrap_sub1 {a : Nat} (h : 1 ≤ a) (ha : a ≤ 9223372036854775807) : IntKind.i64.wrap ((a : Int) - 1) = ((a - 1 : Nat) : Int) := by rw [wrap64_of (by omega) (by omega)]; omega
theorem ieq_t {a b : Int} (h : a = b) : (a == b) = true := by simp [h]
theorem ieq_f {a b : Int} (h : a ≠ b) : (a == b) = false := by simp [h]
theorem ine_t {a b : Int} (h : a ≠ b) : (a != b) = true := by simp [h]
theorem ine_f {a b : Int} (h : a = b) : (a != b) = false := by simp [h]

abbrev bs (l : List Nat) : List Value := l.map fun (b : Nat) => Value.int .u8 (b : Int)
abbrev ints (l : List Nat) : List Value := l.map fun (b : Nat) => Value.int .i64 (b : Int)

/-- Byte i. -/
def byt (s : List Nat) (i : Nat) : Nat := s[i]?.getD 0
theorem byt_lt {l : List Nat} (h : ∀ x ∈ l, x < 256) (i : Nat) : byt l i < 256 := by
  unfold byt
  by_cases hi : i < l.length
  · rw [List.getElem?_eq_getElem hi]; exact h _ (List.getElem_mem hi)
  · rw [List.getElem?_eq_none (by omega)]; simp
theorem byt_eq {l : List Nat} {i : Nat} (h : i < l.length) : byt l i = l[i] := by simp [byt, List.getElem?_eq_getElem h]
theorem bs_at {l : List Nat} {i : Nat} (h : i < l.length) : (bs l)[i]? = some (.int .u8 (byt l i)) := by simp [byt, List.getElem?_eq_getElem h]
theorem ints_at {l : List Nat} {i : Nat} (h : i < l.length) : (ints l)[i]? = some (.int .i64 (byt l i)) := by simp [byt, List.getElem?_eq_getElem h]
theorem bs_app (a b : List Nat) : bs a ++ bs b = bs (a ++ b) := by simp [bs]
theorem ints_app (a b : List Nat) : ints a ++ ints b = ints (a ++ b) := by simp [ints]
theorem bs_ints (l : List Nat) : bs l = (l.map fun (b : Nat) => (b : Int)).map (Value.int .u8) := by simp
theorem ints_ints (l : List Nat) : ints l = (l.map fun (b : Nat) => (b : Int)).map (Value.int .i64) := by simp
theorem bs_inj {a b : List Nat} (h : bs a = bs b) : a = b := by
  have := congrArg (List.map fun v => match v with | Value.int _ n => n.toNat | _ => 0) h
  simpa [Function.comp_def] using this
theorem bs_set (l : List Nat) (i x : Nat) : (bs l).set i (.int .u8 (x : Int)) = bs (l.set i x) := by simp [bs, List.map_set]
theorem ints_set (l : List Nat) (i x : Nat) : (ints l).set i (.int .i64 (x : Int)) = ints (l.set i x) := by simp [ints, List.map_set]

/-- The string of bytes. -/
def nstr (l : List Nat) : ByteArray := bstr (l.map fun (b : Nat) => (b : Int))

theorem foldl_push (l : List Int) (a : ByteArray) : (l.foldl (fun r n => r.push (UInt8.ofNat n.toNat)) a).data.toList = a.data.toList ++ l.map fun n => UInt8.ofNat n.toNat := by
  induction l generalizing a with
  | nil => simp
  | cons x l ih =>
    rw [List.foldl_cons, ih]
    simp [ByteArray.data_push]

theorem nstr_data (l : List Nat) : (nstr l).data.toList = l.map UInt8.ofNat := by
  rw [nstr, bstr, foldl_push, show (ByteArray.empty).data.toList = [] from rfl, List.nil_append, List.map_map]
  rfl

theorem nstr_inj {a b : List Nat} (ha : ∀ x ∈ a, x < 256) (hb : ∀ x ∈ b, x < 256) (h : nstr a = nstr b) : a = b := by
  have h1 := congrArg (fun s : ByteArray => s.data.toList.map UInt8.toNat) h
  simp only [nstr_data, List.map_map] at h1
  have key : ∀ l : List Nat, (∀ x ∈ l, x < 256) → l.map (UInt8.toNat ∘ UInt8.ofNat) = l := by
    intro l hl
    refine (List.map_congr_left (g := id) fun x hx => ?_).trans (by simp)
    simp [Nat.mod_eq_of_lt (hl x hx)]
  rwa [key a ha, key b hb] at h1

theorem toList_inj {a b : ByteArray} (h : a.toList = b.toList) : a = b := by
  rw [ByteArray.toList_eq, ByteArray.toList_eq] at h
  exact ByteArray.ext (Array.toList_inj.mp h)

theorem nstr_beq {a b : List Nat} (ha : ∀ x ∈ a, x < 256) (hb : ∀ x ∈ b, x < 256) : ((nstr a).toList == (nstr b).toList) = decide (a = b) := by
  by_cases h : a = b
  · subst h; simp
  · rw [decide_eq_false h, beq_eq_false_iff_ne]
    exact fun e => h (nstr_inj ha hb (toList_inj e))

theorem src_str {g : Heap} {v : Value} {l : List Nat} (h : Src g v 1 l.length (bs l)) : ∃ r, stepConv Try.prog 24 9 v g = some { v := .string (nstr l), r := r } ∧ ∀ i ∈ r, i ∈ srcBlk v :=
  Src.str (ns := l.map fun (b : Nat) => (b : Int)) (by rw [← bs_ints]; exact h) Try.underlying24 Try.underlying5 Try.underlying9

theorem src_cells {g : Heap} {k e m : Nat} {ro : Bool} {cs : List Value} (h : g k = some ⟨ro, e, cs⟩) (hm : m = cs.length) : Src g (.slice (some ⟨k, 0, some m⟩) m 1) 1 m cs := by
  subst hm
  by_cases h0 : cs.length = 0
  · have : cs = [] := List.eq_nil_of_length_eq_zero h0
    subst this
    exact .inr (.inl ⟨_, rfl, rfl, rfl⟩)
  · exact .inr (.inr ⟨_, ⟨ro, e, cs⟩, rfl, by omega, by simp [rd, h], by rw [Nat.mul_one]; exact (List.take_of_length_le (by simp)).symm, by simp⟩)

theorem src_bs {g : Heap} {k e m : Nat} {ro : Bool} {l : List Nat} (h : g k = some ⟨ro, e, bs l⟩) (hm : m = l.length) : Src g (.slice (some ⟨k, 0, some m⟩) m 1) 1 l.length (bs l) := by subst hm; exact src_cells h (by simp)
theorem src_ints {g : Heap} {k e m : Nat} {ro : Bool} {l : List Nat} (h : g k = some ⟨ro, e, ints l⟩) (hm : m = l.length) : Src g (.slice (some ⟨k, 0, some m⟩) m 1) 1 l.length (ints l) := by subst hm; exact src_cells h (by simp)

theorem srcBlk_own {k m o : Nat} {sp : Option Nat} {e : Nat} : ∀ i ∈ srcBlk (.slice (some ⟨k, o, sp⟩) m e), i = k := by intro i hi; simp [srcBlk] at hi; exact hi.2

/-- Below n nothing is changed. -/
def Kp (n : Nat) (g g' : Heap) : Prop := ∀ k, k < n → g' k = g k

theorem Kp.refl (n : Nat) (g : Heap) : Kp n g g := fun _ _ => rfl
theorem Kp.trans {n m : Nat} {g g' g'' : Heap} (h : Kp n g g') (h2 : Kp m g' g'') (hm : n ≤ m) : Kp n g g'' := fun k hk => by rw [h2 k (by omega), h k hk]
theorem Kp.le {n m : Nat} {g g' : Heap} (h : Kp n g g') (hm : m ≤ n) : Kp m g g' := fun k hk => h k (by omega)
theorem Kp.src {n : Nat} {g g' : Heap} {v : Value} {esz m : Nat} {cs : List Value} (h : Kp n g g') (hs : Src g v esz m cs) (hd : ∀ i ∈ srcBlk v, i < n) : Src g' v esz m cs := hs.congr fun i hi => h i (hd i hi)
theorem Kp.at {n : Nat} {g g' : Heap} {k : Nat} {b : Blk} (h : Kp n g g') (hk : k < n) (hb : g k = some b) : g' k = some b := by rw [h k hk]; exact hb
theorem kp_upd {n k : Nat} {g g' : Heap} {b : Option Blk} (h : Kp n g g') (hk : n ≤ k) : Kp n g (upd g' k b) := fun i hi => by rw [upd_ne _ _ (by omega)]; exact h i hi

/-- An effect that writes nothing. -/
theorem kp_ap {n : Nat} {g g' : Heap} {f : Eff} (h : Kp n g g') (hw : f.w = []) (hj : f.a ≠ [] → n ≤ f.j) : Kp n g (f.ap g') := by
  intro i hi
  unfold Eff.ap
  rw [hw, setAll]
  cases ha : f.a with
  | nil => exact h i hi
  | cons b l =>
    have := hj (by simp [ha])
    rw [addAll_out (by omega)]
    exact h i hi

theorem ops_num {P : Program} {ops : Array Oper} {K : (Nat → Value) → Heap → Nat → Prop} {t : Nat → Value} {g : Heap} {n : Nat} {l : List Oper} (h : ∀ N, N = n → awpOps P ops K l t g N) : awpOps P ops K l t g n := h n rfl

/-- A new slice, nil if it is empty. -/
def newE (e : TypeId) (cs : List Value) (r : List Nat) (j : Nat) : Eff :=
  if cs.length = 0 then { v := .slice none 0 0, r := r, j := j } else { v := .slice (some ⟨j, 0, some cs.length⟩) cs.length 1, r := r, j := j, a := [⟨false, e, cs⟩] }

theorem newE_r (e : TypeId) (cs : List Value) (r : List Nat) (j : Nat) : (newE e cs r j).r = r := by unfold newE; split <;> rfl
theorem newE_w (e : TypeId) (cs : List Value) (r : List Nat) (j : Nat) : (newE e cs r j).w = [] := by unfold newE; split <;> rfl
theorem newE_j (e : TypeId) (cs : List Value) (r : List Nat) (j : Nat) : (newE e cs r j).j = j := by unfold newE; split <;> rfl
theorem newE_a (e : TypeId) (cs : List Value) (r : List Nat) (j : Nat) : (newE e cs r j).a.length ≤ 1 := by unfold newE; split <;> simp
theorem newE_fp (e : TypeId) (cs : List Value) (r : List Nat) (j : Nat) : (newE e cs r j).fp = r := by simp [Eff.fp, newE_r, newE_w]
theorem newE_src (e : TypeId) (cs : List Value) (r : List Nat) (j : Nat) (G : Heap) : Src ((newE e cs r j).ap G) (newE e cs r j).v 1 cs.length cs := by
  unfold newE
  split
  · rename_i h
    have : cs = [] := List.eq_nil_of_length_eq_zero h
    subst this
    exact .inl ⟨rfl, rfl, rfl⟩
  · exact src_cells (ro := false) (e := e) (by simp [ap_new]) rfl
theorem newE_blk (e : TypeId) (cs : List Value) (r : List Nat) (j : Nat) : ∀ i ∈ srcBlk (newE e cs r j).v, i = j ∧ (newE e cs r j).a.length = 1 := by
  unfold newE
  split
  · simp [srcBlk]
  · intro i hi; exact ⟨srcBlk_own i hi, rfl⟩
theorem newE_kp {e : TypeId} {cs : List Value} {r : List Nat} {j n : Nat} {g g' : Heap} (h : Kp n g g') (hn : n ≤ j) : Kp n g ((newE e cs r j).ap g') := kp_ap h (newE_w ..) (fun _ => by rw [newE_j]; exact hn)
theorem newE_own {e : TypeId} {cs : List Value} {r : List Nat} {j : Nat} (h : cs.length ≠ 0) : newE e cs r j = { v := .slice (some ⟨j, 0, some cs.length⟩) cs.length 1, r := r, j := j, a := [⟨false, e, cs⟩] } := by rw [newE, if_neg h]
theorem newE_nil {e : TypeId} {cs : List Value} {r : List Nat} {j : Nat} (h : cs.length = 0) : newE e cs r j = { v := .slice none 0 0, r := r, j := j } := by rw [newE, if_pos h]

/-- v is nil or the whole of one of the blocks n.. below n', which has the cells l (then not empty). -/
def Own (e : TypeId) (g : Heap) (v : Value) (l : List Value) (n n' : Nat) : Prop := ∃ i, OwnI e 1 g v l.length l i ∧ ∀ q, i = some q → n ≤ q ∧ q < n' ∧ l.length ≠ 0

theorem Own.nil (e : TypeId) (g : Heap) (n n' : Nat) : Own e g (.slice none 0 0) [] n n' := ⟨none, OwnI.nil e 1 g, by simp⟩
theorem Own.src {e : TypeId} {g : Heap} {v : Value} {l : List Value} {n n' : Nat} (h : Own e g v l n n') : Src g v 1 l.length l := by obtain ⟨i, h, _⟩ := h; exact h.toSrc
theorem Own.blk {e : TypeId} {g : Heap} {v : Value} {l : List Value} {n n' : Nat} (h : Own e g v l n n') : ∀ i ∈ srcBlk v, n ≤ i ∧ i < n' := by
  obtain ⟨i, h, hi⟩ := h
  rcases h with ⟨_, rfl, _, _⟩ | ⟨k, rfl, rfl, _, _⟩
  · simp [srcBlk]
  · intro q hq
    have := srcBlk_own q hq
    have := hi k rfl
    omega
theorem Own.keep {e : TypeId} {g g' : Heap} {v : Value} {l : List Value} {n n' n'' : Nat} (h : Own e g v l n n') (hk : Kp n' g g') (hn : n' ≤ n'') : Own e g' v l n n'' := by
  obtain ⟨i, h, hi⟩ := h
  exact ⟨i, h.keep fun k hk' => hk k (hi k hk').2.1, fun q hq => by have := hi q hq; omega⟩

section
variable {P : Program} {g : Heap} {n n' : Nat}

theorem Own.append {T e : TypeId} {zs : List Value} {bytes : Nat} {v y : Value} {l news : List Value} (h : Own e g v l n n') (hs : Src g y 1 news.length news) (ht : P.underlying T = some (.slice e)) (hti : tinf P e = some (zs, 1, bytes)) (hb1 : l.length + news.length ≤ 1099511627776) (hb2 : bytes ≤ 100) (hn : n ≤ n') :
    ∃ f, stepAppend P T T v y g n' = some f ∧ Own e (f.ap g) f.v (l ++ news) n (n' + f.a.length) ∧ Kp n g (f.ap g) := by
  obtain ⟨i, h, hi⟩ := h
  obtain ⟨f, i', hf, hO, hi', hk⟩ := own_append (P := P) (n := n') h hs.cells (by simp) ht hti (by omega) hb1 hb2
  refine ⟨f, hf, ⟨i', by rw [List.length_append]; exact hO, fun q hq => ?_⟩, fun k hk' => hk k (by omega) fun e => by have := hi k e.symm; omega⟩
  rcases hi' with ⟨e1, e2⟩ | ⟨e1, e2, e3⟩
  · rw [e1] at hq
    have := hi q hq
    exact ⟨this.1, by omega, by rw [List.length_append]; omega⟩
  · rw [e2] at hq
    cases hq
    refine ⟨hn, by omega, ?_⟩
    rcases hO with ⟨h, _⟩ | ⟨k, _, _, _, h4⟩
    · rw [h] at e2; cases e2
    · intro h0
      have hl : l ++ news = [] := List.eq_nil_of_length_eq_zero h0
      have hl2 : news = [] := (List.append_eq_nil_iff.1 hl).2
      subst hl2
      have : f.a.length = 0 := by
        rcases h with ⟨_, rfl, _, _⟩ | ⟨k, e4, _, _, _⟩
        · have := hs.cells
          simp [stepAppend, ht, hti, this] at hf
          rw [← hf]; rfl
        · rw [e1] at e4; cases e4
      omega

/-- 'append(v, c)'. -/
theorem Own.push {T e : TypeId} {zs : List Value} {bytes : Nat} {v c : Value} {l : List Value} (h : Own e g v l n n') (ht : P.underlying T = some (.slice e)) (hti : tinf P e = some (zs, 1, bytes)) (hb1 : l.length + 1 ≤ 1099511627776) (hb2 : bytes ≤ 100) (hn : n ≤ n') :
    ∃ f, stepAppend P T T v (.slice (some ⟨n', 0, some 1⟩) 1 1) (upd g n' (some ⟨false, e, [c]⟩)) (n' + 1) = some f ∧ Own e (f.ap (upd g n' (some ⟨false, e, [c]⟩))) f.v (l ++ [c]) n (n' + 1 + f.a.length) ∧ Kp n g (f.ap (upd g n' (some ⟨false, e, [c]⟩))) := by
  have h' : Own e (upd g n' (some ⟨false, e, [c]⟩)) v l n (n' + 1) := h.keep (kp_upd (Kp.refl _ _) (Nat.le_refl _)) (by omega)
  have hs : Src (upd g n' (some ⟨false, e, [c]⟩)) (.slice (some ⟨n', 0, some 1⟩) 1 1) 1 [c].length [c] := src_cells (ro := false) (e := e) (by simp) rfl
  obtain ⟨f, hf, hO, hk⟩ := h'.append (P := P) hs ht hti hb1 hb2 (by omega)
  exact ⟨f, hf, hO, fun k hk' => by rw [hk k hk', upd_ne _ _ (by omega)]⟩
end

section
variable {s2 : Nat → Prop} {g2 g' : Heap} {n n' : Nat} {v' : Value}

theorem fin_plain {v : Value} {r : List Nat} {j : Nat} (hs : ∀ i, s2 i → i < n) (hwf : ∀ i b, g2 i = some b → s2 i ∧ ∀ c ∈ b.cells, SV1 s2 c) (hk : Kp n g2 g') (hv : v' = v) (hsv : SVT s2 v) : Abs.Fin { v := v, r := r, j := j } [] s2 g2 n g' v' :=
  fin_none hv hsv fun i b hb => hk.at (hs i (hwf i b hb).1) hb

theorem Own.fin {e : TypeId} {l : List Value} {r : List Nat} {j : Nat} (h : Own e g' v' l n n') (hp : ∀ c ∈ l, plain c = true) (hs : ∀ i, s2 i → i < n) (hwf : ∀ i b, g2 i = some b → s2 i ∧ ∀ c ∈ b.cells, SV1 s2 c) (hk : Kp n g2 g') : ∃ ids, Abs.Fin (newE e l r j) ids s2 g2 n g' v' := by
  have hold : ∀ i b, g2 i = some b → g' i = some b := fun i b hb => hk.at (hs i (hwf i b hb).1) hb
  obtain ⟨i, h, hi⟩ := h
  rcases h with ⟨_, rfl, h2, h3⟩ | ⟨k, rfl, rfl, h3, h4⟩
  · exact ⟨[], by rw [newE_nil h2]; exact fin_none rfl trivial hold⟩
  · have := hi k rfl
    exact ⟨[k], by rw [newE_own this.2.2]; exact fin_slice rfl this.1 h3 hp hold⟩
end

theorem lit24_1 (x : Int) (j : Nat) : stepBuildSlice Try.prog 24 1 [(0, .int .u8 x)] j = some { v := .slice (some ⟨j, 0, some 1⟩) 1 1, j := j, a := [⟨false, 5, [.int .u8 x]⟩] } := build_one Try.underlying24 tinf5 _ _ _
theorem lit22_1 (x : Int) (j : Nat) : stepBuildSlice Try.prog 22 1 [(0, .int .i64 x)] j = some { v := .slice (some ⟨j, 0, some 1⟩) 1 1, j := j, a := [⟨false, 3, [.int .i64 x]⟩] } := build_one Try.underlying22 tinf3 _ _ _
theorem lit24_0 (j : Nat) : stepBuildSlice Try.prog 24 0 [] j = some { v := .slice (some ⟨j, 0, some 0⟩) 0 1, j := j, a := [⟨false, 5, []⟩] } := build_nil Try.underlying24 tinf5 j
theorem lit22_0 (j : Nat) : stepBuildSlice Try.prog 22 0 [] j = some { v := .slice (some ⟨j, 0, some 0⟩) 0 1, j := j, a := [⟨false, 3, []⟩] } := build_nil Try.underlying22 tinf3 j
theorem lit24_3 (x y z : Int) (j : Nat) : stepBuildSlice Try.prog 24 3 [(0, .int .u8 x), (1, .int .u8 y), (2, .int .u8 z)] j = some { v := .slice (some ⟨j, 0, some 3⟩) 3 1, j := j, a := [⟨false, 5, [.int .u8 x, .int .u8 y, .int .u8 z]⟩] } := by
  simp [stepBuildSlice, Try.underlying24, tinf5, fillL, Value.cells, isTup, putAll, List.replicate]
theorem lit24_4 (x y z u : Int) (j : Nat) : stepBuildSlice Try.prog 24 4 [(0, .int .u8 x), (1, .int .u8 y), (2, .int .u8 z), (3, .int .u8 u)] j = some { v := .slice (some ⟨j, 0, some 4⟩) 4 1, j := j, a := [⟨false, 5, [.int .u8 x, .int .u8 y, .int .u8 z, .int .u8 u]⟩] } := by
  simp [stepBuildSlice, Try.underlying24, tinf5, fillL, Value.cells, isTup, putAll, List.replicate]
theorem lit22_3 (x y z : Int) (j : Nat) : stepBuildSlice Try.prog 22 3 [(0, .int .i64 x), (1, .int .i64 y), (2, .int .i64 z)] j = some { v := .slice (some ⟨j, 0, some 3⟩) 3 1, j := j, a := [⟨false, 3, [.int .i64 x, .int .i64 y, .int .i64 z]⟩] } := by
  simp [stepBuildSlice, Try.underlying22, tinf3, fillL, Value.cells, isTup, putAll, List.replicate]

theorem mkInts (n j : Nat) (h : n ≤ 2 ^ 40) : stepMake Try.prog 22 (.int .i64 n) (.int .i64 n) j = some { v := .slice (some ⟨j, 0, some n⟩) n 1, j := j, a := [⟨false, 3, ints (List.replicate n 0)⟩] } := by
  have hz : zcells [Value.int .i64 0] n = ints (List.replicate n 0) := by
    apply List.ext_getElem?
    intro i
    by_cases hi : i < n
    · simp [zcells, hi, Nat.mod_one]
    · rw [List.getElem?_eq_none (by simp [zcells]; omega), List.getElem?_eq_none (by simp; omega)]
  simp only [stepMake, Try.underlying22, tinf3, Nat.mul_one, Int.toNat_natCast, hz]
  rw [if_pos ⟨by omega, trivial, by omega, by omega, by omega⟩]

theorem mkBytes (n j : Nat) (h : n ≤ 2 ^ 40) : stepMake Try.prog 24 (.int .i64 n) (.int .i64 n) j = some { v := .slice (some ⟨j, 0, some n⟩) n 1, j := j, a := [⟨false, 5, bs (List.replicate n 0)⟩] } := by
  have hz : zcells [Value.int .u8 0] n = bs (List.replicate n 0) := by
    apply List.ext_getElem?
    intro i
    by_cases hi : i < n
    · simp [zcells, hi, Nat.mod_one]
    · rw [List.getElem?_eq_none (by simp [zcells]; omega), List.getElem?_eq_none (by simp; omega)]
  simp only [stepMake, Try.underlying24, tinf5, Nat.mul_one, Int.toNat_natCast, hz]
  rw [if_pos ⟨by omega, trivial, by omega, by omega, by omega⟩]

theorem wf_u8 {a : Int} (h : (Lit.int .u8 a).wf = true) : ∃ n : Nat, a = n ∧ n < 256 := by
  have h1 : 0 ≤ a ∧ a < 256 := by
    simp [Lit.wf, IntKind.min, IntKind.max, IntKind.signed, IntKind.bits] at h
    omega
  exact ⟨a.toNat, by omega, by omega⟩

theorem row_bytes {w : World} {a : Option Addr} {len cap : Nat} {zs : List Int} (h : Row .u8 w a len cap zs) : ∃ l : List Nat, l.length = len ∧ (∀ x ∈ l, x < 256) ∧ (zs.take len).map (Value.int .u8) = bs l := by
  have hl := (row_in h 0).2.2.2.2
  have hz : ∀ n ∈ zs.take len, ∃ m : Nat, n = m ∧ m < 256 := by
    intro n hn
    rcases h with ⟨_, _, _, rfl⟩ | ⟨x, _, _, _, _, _, h5⟩
    · simp at hn
    · exact wf_u8 (h5 n (List.mem_of_mem_take hn))
  refine ⟨(zs.take len).map Int.toNat, by simpa using hl, ?_, ?_⟩
  · intro x hx
    obtain ⟨n, hn, rfl⟩ := List.mem_map.1 hx
    obtain ⟨m, rfl, hm⟩ := hz n hn
    simpa using hm
  · unfold bs
    rw [List.map_map]
    refine List.map_congr_left fun n hn => ?_
    obtain ⟨m, rfl, hm⟩ := hz n hn
    simp

/-- A row of bytes that came in: what a walk is handed. -/
theorem row_arg {w : World} {a : Option Addr} {len cap : Nat} {zs : List Int} (h : Row .u8 w a len cap zs) : ∃ l : List Nat, (∀ x ∈ l, x < 256) ∧ EntIn w (argE a len 5 (bs l)) ∧ l.length = len ∧
    (∀ (L : List Ent) (i : Nat), L[i]? = some (argE a len 5 (bs l)) → Src (gOf L) (argV i a len 1) 1 l.length (bs l) ∧ ∀ s : Nat → Prop, s i → VV (rOf L) (gOf L) s (argV i a len 1) (.slice a len cap)) := by
  obtain ⟨hE, h1, h2, hn, hl⟩ := row_in h 5
  obtain ⟨l, hl1, hl2, hl3⟩ := row_bytes h
  rw [hl3] at hE hl
  refine ⟨l, hl2, hE, hl1, fun L i hL => ⟨?_, fun s hs => argV_VV hL hs (by simpa using hl) h1 h2 hn hE⟩⟩
  rw [hl1]
  exact argV_src hL (by simpa using hl) (fun e => (hn e).1)

/-- A row of ints that came in. -/
theorem row_argI {w : World} {a : Option Addr} {len cap : Nat} {zs : List Int} (h : Row .i64 w a len cap zs) : ∃ l : List Int, l.length = len ∧ EntIn w (argE a len 3 (l.map (Value.int .i64))) ∧
    (∀ (L : List Ent) (i : Nat), L[i]? = some (argE a len 3 (l.map (Value.int .i64))) → Src (gOf L) (argV i a len 1) 1 l.length (l.map (Value.int .i64)) ∧ ∀ s : Nat → Prop, s i → VV (rOf L) (gOf L) s (argV i a len 1) (.slice a len cap)) ∧ ∀ x ∈ l, -9223372036854775808 ≤ x ∧ x ≤ 9223372036854775807 := by
  obtain ⟨hE, h1, h2, hn, hl⟩ := row_in h 3
  have hl1 : (zs.take len).length = len := by simpa using hl
  refine ⟨zs.take len, hl1, hE, fun L i hL => ⟨?_, fun s hs => argV_VV hL hs (by simpa using hl) h1 h2 hn hE⟩, fun x hx => ?_⟩
  · rw [hl1]
    exact argV_src hL (by simpa using hl) (fun e => (hn e).1)
  · rcases h with ⟨_, _, _, rfl⟩ | ⟨x, _, _, _, _, _, h5⟩
    · simp at hx
    · have := h5 _ (List.mem_of_mem_take hx)
      simp [Lit.wf, IntKind.min, IntKind.max, IntKind.signed, IntKind.bits] at this
      omega
end Go.Proofs.Ytahinegnblankaa
