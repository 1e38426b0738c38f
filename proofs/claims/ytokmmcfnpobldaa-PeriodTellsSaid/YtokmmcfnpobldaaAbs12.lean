/-
  The abstract machine, part 12: slices that the call owns; statements in a row.
-/
import Derived.Test.YtokmmcfnpobldaaAbs11
namespace Go.Proofs.Ytokmmcfnpobldaa.Abs
open Go Go.RowKit

/-- v is a slice of m elements of esz cells each, nil or over the whole of block i, with the cells l. -/
def OwnI (e : TypeId) (esz : Nat) (g : Heap) (v : Value) (m : Nat) (l : List Value) (i : Option Nat) : Prop :=
  (i = none ∧ v = .slice none 0 0 ∧ m = 0 ∧ l = []) ∨ ∃ k, i = some k ∧ v = .slice (some ⟨k, 0, some l.length⟩) m esz ∧ g k = some ⟨false, e, l⟩ ∧ m * esz = l.length

theorem OwnI.nil (e : TypeId) (esz : Nat) (g : Heap) : OwnI e esz g (.slice none 0 0) 0 [] none := .inl ⟨rfl, rfl, rfl, rfl⟩

theorem OwnI.keep {e : TypeId} {esz : Nat} {g g' : Heap} {v : Value} {m : Nat} {l : List Value} {i : Option Nat} (h : OwnI e esz g v m l i) (hg : ∀ k, i = some k → g' k = g k) : OwnI e esz g' v m l i := by
  rcases h with h | ⟨k, h1, h2, h3, h4⟩
  · exact .inl h
  · exact .inr ⟨k, h1, h2, by rw [hg k h1]; exact h3, h4⟩

theorem OwnI.len {e : TypeId} {esz : Nat} {g : Heap} {v : Value} {m : Nat} {l : List Value} {i : Option Nat} (h : OwnI e esz g v m l i) : m * esz = l.length := by
  rcases h with ⟨_, _, h1, h2⟩ | ⟨k, _, _, _, h4⟩
  · simp [h1, h2]
  · exact h4

theorem OwnI.src {e : TypeId} {esz : Nat} {g : Heap} {v : Value} {m : Nat} {l : List Value} {i : Option Nat} (h : OwnI e esz g v m l i) : srcCells v g esz = some (m, l) := by
  rcases h with ⟨_, h0, h1, h2⟩ | ⟨k, _, h2, h3, h4⟩
  · subst h0 h1 h2; rfl
  · subst h2
    by_cases hm : m = 0
    · subst hm
      have : l = [] := List.eq_nil_of_length_eq_zero (by simpa using h4.symm)
      subst this
      simp [srcCells]
    · have hl : l.take (m * esz) = l := by rw [h4]; exact List.take_length
      simp [srcCells, hm, rd, h3, hl]

section
variable {P : Program} {g : Heap} {n : Nat}

theorem own_append {T e : TypeId} {zs : List Value} {esz bytes m0 m : Nat} {v y : Value} {l news : List Value} {i : Option Nat} (h : OwnI e esz g v m0 l i) (hs : srcCells y g esz = some (m, news)) (hn : news.length = m * esz)
    (ht : P.underlying T = some (.slice e)) (hti : tinf P e = some (zs, esz, bytes)) (hpos : 0 < esz) (hb1 : m0 + m ≤ 1099511627776) (hb2 : bytes ≤ 100) :
    ∃ f i', stepAppend P T T v y g n = some f ∧ OwnI e esz (f.ap g) f.v (m0 + m) (l ++ news) i' ∧ ((i' = i ∧ f.a = []) ∨ (i = none ∧ i' = some n ∧ f.a.length = 1)) ∧ (∀ k, k < n → some k ≠ i → f.ap g k = g k) := by
  have hbytes : ∀ q, q ≤ 1099511627776 → q * bytes ≤ 140737488355328 := fun q hq => by
    have : q * bytes ≤ 1099511627776 * 100 := Nat.mul_le_mul hq hb2
    omega
  rcases h with ⟨rfl, rfl, rfl, rfl⟩ | ⟨k, rfl, rfl, h3, h4⟩
  · by_cases hm : m = 0
    · subst hm
      have : news = [] := List.eq_nil_of_length_eq_zero (by simpa using hn)
      subst this
      refine ⟨{ v := .slice none 0 0 }, none, ?_, OwnI.nil e esz _, .inl ⟨rfl, rfl⟩, fun k _ _ => rfl⟩
      simp [stepAppend, ht, hti, hs]
    · refine ⟨{ v := .slice (some ⟨n, 0, some news.length⟩) m esz, r := srcBlk y, j := n, a := [⟨false, e, news⟩] }, some n, ?_, ?_, .inr ⟨rfl, rfl, rfl⟩, fun k hk _ => ?_⟩
      · have h1 := hbytes m (by omega)
        simp only [stepAppend, if_true, ht, hti, hs, hm, if_false]
        rw [if_pos ⟨hpos, by omega, h1⟩]
      · refine .inr ⟨n, rfl, by simp, by simp [ap_new], by simp [hn]⟩
      · rw [ap_new, upd_ne _ _ (by omega)]
  · refine ⟨{ v := .slice (some ⟨k, 0, some (l ++ news).length⟩) (m0 + m) esz, r := k :: srcBlk y, w := [(k, ⟨false, e, l ++ news⟩)] }, some k, ?_, ?_, .inl ⟨rfl, rfl⟩, fun q _ hq => ?_⟩
    · have h1 := hbytes (m0 + m) hb1
      simp only [stepAppend, if_true, ht, hti, hs, rd, h3]
      rw [if_pos ⟨trivial, trivial, trivial, trivial, h4, hpos, by omega, h1⟩]
    · refine .inr ⟨k, rfl, rfl, by simp [ap_wr], by simp [Nat.add_mul, h4, hn]⟩
    · rw [ap_wr, upd_ne _ _ (fun e => hq (by rw [e]))]

/-- 'append(v, c)': the literal's block, then the append. -/
theorem own_push {T e : TypeId} {zs : List Value} {bytes m0 : Nat} {v c : Value} {l : List Value} {i : Option Nat} (h : OwnI e 1 g v m0 l i) (hi : ∀ k, i = some k → k < n)
    (ht : P.underlying T = some (.slice e)) (hti : tinf P e = some (zs, 1, bytes)) (hb1 : m0 + 1 ≤ 1099511627776) (hb2 : bytes ≤ 100) :
    ∃ f i', stepAppend P T T v (.slice (some ⟨n, 0, some 1⟩) 1 1) (upd g n (some ⟨false, e, [c]⟩)) (n + 1) = some f ∧ OwnI e 1 (f.ap (upd g n (some ⟨false, e, [c]⟩))) f.v (m0 + 1) (l ++ [c]) i' ∧
      (∀ k, i' = some k → (i = some k ∨ k = n + 1) ∧ k < n + 1 + f.a.length) ∧ (∀ k, k < n → some k ≠ i → f.ap (upd g n (some ⟨false, e, [c]⟩)) k = g k) := by
  have h' : OwnI e 1 (upd g n (some ⟨false, e, [c]⟩)) v m0 l i := h.keep fun k hk => upd_ne _ _ (by have := hi k hk; omega)
  have hs : srcCells (.slice (some ⟨n, 0, some 1⟩) 1 1) (upd g n (some ⟨false, e, [c]⟩)) 1 = some (1, [c]) := by simp [srcCells, rd]
  obtain ⟨f, i', h1, h2, h3, h4⟩ := own_append (P := P) (n := n + 1) h' hs rfl ht hti (by omega) hb1 hb2
  refine ⟨f, i', h1, h2, fun k hk => ?_, fun k hk hne => by rw [h4 k (by omega) hne, upd_ne _ _ (by omega)]⟩
  rcases h3 with ⟨e1, e2⟩ | ⟨_, e2, e3⟩
  · rw [e1] at hk
    exact ⟨.inl hk, by have := hi k hk; simp [e2]; omega⟩
  · rw [e2] at hk
    cases hk
    exact ⟨.inr rfl, by omega⟩
end

/-- A slice that is read: m elements of esz cells, the cells cs. -/
def Src (g : Heap) (v : Value) (esz m : Nat) (cs : List Value) : Prop :=
  (v = .slice none 0 0 ∧ m = 0 ∧ cs = []) ∨ (∃ a, v = .slice (some a) 0 esz ∧ m = 0 ∧ cs = []) ∨
    ∃ a b, v = .slice (some a) m esz ∧ 0 < m ∧ rd g a = some b ∧ cs = (b.cells.drop a.off).take (m * esz) ∧ a.off + m * esz ≤ b.cells.length

theorem Src.cells {g : Heap} {v : Value} {esz m : Nat} {cs : List Value} (h : Src g v esz m cs) : srcCells v g esz = some (m, cs) := by
  rcases h with ⟨rfl, rfl, rfl⟩ | ⟨a, rfl, rfl, rfl⟩ | ⟨a, b, rfl, h0, hb, hc, _⟩
  · rfl
  · simp [srcCells]
  · simp [srcCells, hb, hc, show m ≠ 0 by omega]

theorem Src.length {g : Heap} {v : Value} {esz m : Nat} {cs : List Value} (h : Src g v esz m cs) : cs.length = m * esz := by
  rcases h with ⟨_, rfl, rfl⟩ | ⟨a, _, rfl, rfl⟩ | ⟨a, b, _, h0, hb, hc, hle⟩
  · simp
  · simp
  · rw [hc]; simp; omega

theorem Src.congr {g g' : Heap} {v : Value} {esz m : Nat} {cs : List Value} (h : Src g v esz m cs) (hg : ∀ i ∈ srcBlk v, g' i = g i) : Src g' v esz m cs := by
  rcases h with h | h | ⟨a, b, rfl, h0, hb, hc, hle⟩
  · exact .inl h
  · exact .inr (.inl h)
  · refine .inr (.inr ⟨a, b, rfl, h0, ?_, hc, hle⟩)
    rw [rd_congr (hg a.block (by simp [srcBlk]; omega))]
    exact hb

theorem Src.dom {g : Heap} {v : Value} {esz m : Nat} {cs : List Value} (h : Src g v esz m cs) : ∀ i ∈ srcBlk v, (g i).isSome = true := by
  rcases h with ⟨rfl, _, _⟩ | ⟨a, rfl, _, _⟩ | ⟨a, b, rfl, h0, hb, _, _⟩
  · simp [srcBlk]
  · simp [srcBlk]
  · intro i hi
    simp only [srcBlk, show m ≠ 0 by omega, if_false, List.mem_singleton] at hi
    subst hi
    rw [(rd_spec hb).2]
    rfl

theorem Src.len {P : Program} {g : Heap} {v : Value} {esz m : Nat} {cs : List Value} {T e : TypeId} (h : Src g v esz m cs) (ht : P.underlying T = some (.slice e)) : stepLen P T v = some { v := .int .i64 m } := by
  rcases h with ⟨rfl, rfl, _⟩ | ⟨a, rfl, rfl, _⟩ | ⟨a, b, rfl, _⟩ <;> simp [stepLen, ht]

theorem Src.shape {g : Heap} {v : Value} {esz m : Nat} {cs : List Value} (h : Src g v esz m cs) : ∃ a e, v = .slice a m e := by
  rcases h with ⟨rfl, rfl, _⟩ | ⟨a, rfl, rfl, _⟩ | ⟨a, b, rfl, _⟩
  · exact ⟨none, 0, rfl⟩
  · exact ⟨some a, esz, rfl⟩
  · exact ⟨some a, esz, rfl⟩

/-- Element i of one cell: its address, and what is read there. -/
theorem Src.at1 {P : Program} {g : Heap} {v : Value} {m : Nat} {cs : List Value} {T e : TypeId} (h : Src g v 1 m cs) {i : Nat} {c : Value} (hc : cs[i]? = some c) (ht : P.underlying T = some (.slice e)) (hs : tsize P e = some 1) (ha : aggT P e = some false) :
    ∃ p, (∀ k, stepIndex P T v (.int k (i : Int)) = some { v := .pointer (some p) }) ∧ stepLoad P e (.pointer (some p)) g = some { v := c, r := [p.block] } ∧ p.block ∈ srcBlk v := by
  have hlt := (List.getElem?_eq_some_iff.1 hc).1
  rcases h with ⟨_, rfl, rfl⟩ | ⟨a, _, rfl, rfl⟩ | ⟨a, b, rfl, h0, hb, hcs, hle⟩
  · simp at hlt
  · simp at hlt
  · obtain ⟨h1, h2⟩ := rd_spec hb
    have him : i < m := by rw [hcs] at hlt; simp at hlt; omega
    refine ⟨{ a with off := a.off + i }, fun k => ?_, ?_, by simp [srcBlk]; omega⟩
    · simp [stepIndex, ht, h1, hs, him]
    · have hb' : rd g { a with off := a.off + i } = some b := hb
      have hcell : b.cells[a.off + i]? = some c := by
        rw [hcs, List.getElem?_take, if_pos (by omega), List.getElem?_drop] at hc
        exact hc
      simp [stepLoad, hb', ha, hcell]

theorem Src.slice {P : Program} {g : Heap} {v : Value} {esz m : Nat} {cs : List Value} {T e : TypeId} (h : Src g v esz m cs) (ht : P.underlying T = some (.slice e)) (hs : tsize P e = some esz) (lo hi : Option Value) (l k : Nat)
    (hl : boundOf lo 0 = some (l : Int)) (hh : boundOf hi (m : Int) = some (k : Int)) (h1 : l ≤ k) (h2 : k ≤ m) :
    ∃ v', stepSlice P T v lo hi = some { v := v' } ∧ Src g v' esz (k - l) ((cs.drop (l * esz)).take ((k - l) * esz)) ∧ (∀ i ∈ srcBlk v', i ∈ srcBlk v) ∧ (∀ s, SVT s v → SVT s v') := by
  rcases h with ⟨rfl, rfl, rfl⟩ | ⟨a, rfl, rfl, rfl⟩ | ⟨a, b, rfl, h0, hb, hcs, hle⟩
  · have : l = 0 := by omega
    have : k = 0 := by omega
    subst l k
    refine ⟨.slice none 0 0, ?_, .inl ⟨rfl, rfl, by simp⟩, by simp [srcBlk], fun s h => h⟩
    simp only [stepSlice, ht]
    rw [hh, hl]
    simp [hs]
  · have : l = 0 := by omega
    have : k = 0 := by omega
    subst l k
    refine ⟨.slice (some ⟨0, 0, none⟩) 0 esz, ?_, .inr (.inl ⟨_, rfl, rfl, by simp⟩), by simp [srcBlk], fun s h => .inl rfl⟩
    simp only [stepSlice, ht]
    rw [hh, hl]
    simp [hs]
  · by_cases e0 : l = k
    · subst e0
      refine ⟨.slice (some ⟨0, 0, none⟩) 0 esz, ?_, .inr (.inl ⟨_, rfl, by omega, by simp⟩), by simp [srcBlk], fun s h => .inl rfl⟩
      simp only [stepSlice, ht]
      rw [hh, hl]
      simp only [hs, if_true]
      rw [if_pos (by omega)]
    · refine ⟨.slice (some { a with off := a.off + l * esz }) (k - l) esz, ?_, .inr (.inr ⟨{ a with off := a.off + l * esz }, b, rfl, by omega, hb, ?_, ?_⟩), ?_, fun s h => h⟩
      · simp only [stepSlice, ht]
        rw [hh, hl]
        simp only [hs, if_true]
        rw [if_pos (by omega), if_neg (by omega)]
        simp only [Int.toNat_natCast]
        congr 3
        omega
      · rw [hcs, List.drop_take, List.drop_drop, List.take_take]
        congr 1
        have : (k - l) * esz + l * esz ≤ m * esz := by rw [← Nat.add_mul]; exact Nat.mul_le_mul_right _ (by omega)
        omega
      · have : (k - l) * esz + l * esz ≤ m * esz := by rw [← Nat.add_mul]; exact Nat.mul_le_mul_right _ (by omega)
        simp only
        omega
      · intro i hi
        simp only [srcBlk, show k - l ≠ 0 by omega, if_false, List.mem_singleton] at hi
        simp [srcBlk, hi]
        omega

theorem Src.str {P : Program} {g : Heap} {v : Value} {m : Nat} {ns : List Int} {T D e : TypeId} (h : Src g v 1 m (ns.map (Value.int .u8))) (ht : P.underlying T = some (.slice e)) (he : P.underlying e = some (.int .u8)) (hd : P.underlying D = some .string) :
    ∃ r, stepConv P T D v g = some { v := .string (bstr ns), r := r } ∧ ∀ i ∈ r, i ∈ srcBlk v := by
  rcases h with ⟨rfl, rfl, hc⟩ | ⟨a, rfl, rfl, hc⟩ | ⟨a, b, rfl, h0, hb, hcs, hle⟩
  · have : ns = [] := by simpa using hc
    subst this
    exact ⟨[], by simp [stepConv, ht, he, hd, bstr], by simp⟩
  · have : ns = [] := by simpa using hc
    subst this
    exact ⟨[], by simp [stepConv, ht, he, hd, bstr], by simp⟩
  · refine ⟨[a.block], ?_, by simp [srcBlk]; omega⟩
    rw [Nat.mul_one] at hcs
    simp [stepConv, ht, he, hd, hb, ← hcs, show m ≠ 0 by omega]

theorem OwnI.toSrc {e : TypeId} {esz : Nat} {g : Heap} {v : Value} {m : Nat} {l : List Value} {i : Option Nat} (h : OwnI e esz g v m l i) : Src g v esz m l := by
  rcases h with ⟨_, h0, h1, h2⟩ | ⟨k, _, h2, h3, h4⟩
  · exact .inl ⟨h0, h1, h2⟩
  · by_cases hm : m = 0
    · subst hm
      have : l = [] := List.eq_nil_of_length_eq_zero (by simpa using h4.symm)
      exact .inr (.inl ⟨_, h2, rfl, this⟩)
    · refine .inr (.inr ⟨_, ⟨false, e, l⟩, h2, by omega, by simp [rd, h3], ?_, by simp [h4]⟩)
      rw [h4]
      simp

theorem build_one {P : Program} {T e : TypeId} {z : Value} {by' : Nat} (ht : P.underlying T = some (.slice e)) (hti : tinf P e = some ([z], 1, by')) (k : IntKind) (x : Int) (j : Nat) :
    stepBuildSlice P T 1 [(0, .int k x)] j = some { v := .slice (some ⟨j, 0, some 1⟩) 1 1, j := j, a := [⟨false, e, [.int k x]⟩] } := by
  simp [stepBuildSlice, ht, hti, fillL, Value.cells, isTup, putAll, List.replicate]

theorem build_nil {P : Program} {T e : TypeId} {z : Value} {by' : Nat} (ht : P.underlying T = some (.slice e)) (hti : tinf P e = some ([z], 1, by')) (j : Nat) :
    stepBuildSlice P T 0 [] j = some { v := .slice (some ⟨j, 0, some 0⟩) 0 1, j := j, a := [⟨false, e, []⟩] } := by
  simp [stepBuildSlice, ht, hti, fillL]

section
variable {P : Program} {t : Nat → Value} {g : Heap} {n : Nat} {Q : AQ}

theorem w_assoc {a b c : Code} (h : awp P (.seq a (.seq b c)) Q t g n) : awp P (.seq (.seq a b) c) Q t g n := by
  have h' : awp P a (athen (awp P b (athen (awp P c Q) Q)) Q) t g n := h
  show awp P a (athen (awp P b (athen (awp P c Q) Q)) (athen (awp P c Q) Q)) t g n
  refine awp_mono ?_ h'
  intro e t g n he
  cases e <;> exact he

theorem s_run {id : Nat} {ops : Array Oper} {b : Code} {t' : Nat → Value} {g' : Heap} {n' : Nat} (h : runL P ops ops.toList ⟨t, g, n⟩ = some ⟨t', g', n'⟩) (hk : awp P b Q t' g' n') : awp P (.seq (.region id ops false) b) Q t g n := ops_run h hk

theorem s_take {id : Nat} {ops : Array Oper} {b : Code} {t' : Nat → Value} {g' : Heap} {n' : Nat} (k : Nat) (h : runL P ops (ops.toList.take k) ⟨t, g, n⟩ = some ⟨t', g', n'⟩) (hk : awpOps P ops (awp P b Q) (ops.toList.drop k) t' g' n') : awp P (.seq (.region id ops false) b) Q t g n := ops_take k h hk

theorem s_draw {id : Nat} {ops : Array Oper} {b : Code} {t' : Nat → Value} {g' : Heap} {n' : Nat} (bf : Array Nat) (hd : drawOK ops bf = true) (h : runR P ops ops.toList ⟨t, g, n⟩ = some ⟨t', g', n'⟩) (hk : awp P b Q t' g' n') : awp P (.seq (.region id ops true) b) Q t g n :=
  draw_run (id := id) bf hd h hk

theorem s_skip {b : Code} (h : awp P b Q t g n) : awp P (.seq .skip b) Q t g n := h
theorem s_ret {b : Code} (h : Q .ret t g n) : awp P (.seq .ret b) Q t g n := h
theorem s_exit {id : Nat} {b : Code} (h : Q (.exit id) t g n) : awp P (.seq (.exit id) b) Q t g n := h

theorem s_cond {c : Operand} {x y b : Code} {q : Bool} (hc : evl t c = .bool q) (h1 : q = true → awp P (.seq x b) Q t g n) (h2 : q = false → awp P (.seq y b) Q t g n) : awp P (.seq (.cond c x y) b) Q t g n :=
  ⟨q, hc, h1, h2⟩
theorem s_true {c : Operand} {x y b : Code} (hc : evl t c = .bool true) (h : awp P (.seq x b) Q t g n) : awp P (.seq (.cond c x y) b) Q t g n := w_true hc h
theorem s_false {c : Operand} {x y b : Code} (hc : evl t c = .bool false) (h : awp P (.seq y b) Q t g n) : awp P (.seq (.cond c x y) b) Q t g n := w_false hc h

/-- A block whose loop has one way out: behind it J holds. -/
theorem s_block {id : Nat} {c b : Code} (J : (Nat → Value) → Heap → Nat → Prop) (h : awp P c (fun e t g n => match e with | .normal => J t g n | .exit id' => if id' = id then J t g n else Q (.exit id') t g n | e => Q e t g n) t g n)
    (hk : ∀ t g n, J t g n → awp P b Q t g n) : awp P (.seq (.block id c) b) Q t g n := by
  refine awp_mono (c := c) ?_ h
  intro e t g n he
  cases e with
  | normal => exact hk _ _ _ he
  | exit id' =>
    simp only [ainBlock] at he ⊢
    split at he
    · rename_i e; rw [if_pos e]; exact hk _ _ _ he
    · rename_i e; rw [if_neg e]; exact he
  | _ => exact he
end

end Go.Proofs.Ytokmmcfnpobldaa.Abs
