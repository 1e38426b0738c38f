import Derived.Test.YtahinegnblankaaP24
import Derived.Laws.BitsAllLaws
namespace Go.Proofs.Ytahinegnblankaa
open Go Abs
set_option linter.unusedSimpArgs false
set_option linter.unusedVariables false

theorem snoc_ind {P : List Nat → Prop} (h0 : P []) (h1 : ∀ l x, P l → P (l ++ [x])) (l : List Nat) : P l := by
  rw [← List.reverse_reverse l]
  generalize l.reverse = r
  induction r with
  | nil => exact h0
  | cons x r ih => rw [List.reverse_cons]; exact h1 _ _ ih

/-- The number of bytes, the greatest place first. -/
def be (l : List Nat) : Nat := l.foldl (fun v x => v * 256 + x) 0
/-- The last k bytes of a number. -/
def tob : Nat → Nat → List Nat
  | 0, _ => []
  | k + 1, v => tob k (v / 256) ++ [v % 256]

theorem be_nil : be [] = 0 := rfl
theorem be_snoc (l : List Nat) (x : Nat) : be (l ++ [x]) = be l * 256 + x := by simp [be]
theorem tob_len : ∀ (k v : Nat), (tob k v).length = k
  | 0, _ => rfl
  | k + 1, v => by simp [tob, tob_len k]
theorem tob_lt : ∀ {k v : Nat}, ∀ x ∈ tob k v, x < 256
  | 0, _ => by simp [tob]
  | k + 1, v => by
    intro x hx
    simp only [tob, List.mem_append, List.mem_singleton] at hx
    rcases hx with hx | rfl
    · exact tob_lt x hx
    · omega
theorem be_lt {l : List Nat} : (∀ x ∈ l, x < 256) → be l < 256 ^ l.length := by
  refine snoc_ind (P := fun l => (∀ x ∈ l, x < 256) → be l < 256 ^ l.length) (fun _ => by simp [be]) (fun l x ih h => ?_) l
  have h1 := ih fun y hy => h y (by simp [hy])
  have h2 := h x (by simp)
  rw [be_snoc, List.length_append, List.length_singleton, Nat.pow_succ]
  omega
theorem tob_be {l : List Nat} : (∀ x ∈ l, x < 256) → tob l.length (be l) = l := by
  refine snoc_ind (P := fun l => (∀ x ∈ l, x < 256) → tob l.length (be l) = l) (fun _ => rfl) (fun l x ih h => ?_) l
  have h1 := ih fun y hy => h y (by simp [hy])
  have h2 := h x (by simp)
  rw [be_snoc, List.length_append, List.length_singleton, tob, show (be l * 256 + x) / 256 = be l by omega, h1, show (be l * 256 + x) % 256 = x by omega]
theorem be_tob : ∀ (k v : Nat), be (tob k v) = v % 256 ^ k
  | 0, v => by simp [tob, be, Nat.mod_one]
  | k + 1, v => by
    rw [tob, be_snoc, be_tob k, Nat.pow_succ]
    have h1 := Nat.mod_mul (a := 256) (b := 256 ^ k) (x := v)
    rw [Nat.mul_comm (256 ^ k) 256, h1]
    omega
theorem be_tob_lt {k v : Nat} (h : v < 256 ^ k) : be (tob k v) = v := by rw [be_tob, Nat.mod_eq_of_lt h]
theorem tob_app : ∀ (m k v : Nat), tob (k + m) v = tob k (v / 256 ^ m) ++ tob m v
  | 0, k, v => by simp [tob]
  | m + 1, k, v => by
    rw [← Nat.add_assoc, tob, tob_app m k, tob, List.append_assoc, Nat.div_div_eq_div_mul, Nat.pow_succ, Nat.mul_comm 256]
theorem tob_congr : ∀ (m B n : Nat), tob m (B * 256 ^ m + n) = tob m n
  | 0, _, _ => rfl
  | m + 1, B, n => by
    have h1 : (B * 256 ^ (m + 1) + n) / 256 = B * 256 ^ m + n / 256 := by
      rw [Nat.pow_succ, ← Nat.mul_assoc, Nat.add_comm, Nat.add_mul_div_right _ _ (by omega), Nat.add_comm]
    have h2 : (B * 256 ^ (m + 1) + n) % 256 = n % 256 := by
      rw [Nat.pow_succ, ← Nat.mul_assoc, Nat.add_comm, Nat.add_mul_mod_self_right]
    rw [tob, h1, tob_congr m, h2, tob]
theorem be_app (a : List Nat) : ∀ (b : List Nat), be (a ++ b) = be a * 256 ^ b.length + be b := by
  refine snoc_ind (by simp [be]) (fun l x ih => ?_)
  rw [← List.append_assoc, be_snoc, be_snoc, ih, List.length_append, List.length_singleton, Nat.pow_succ, Nat.add_mul, Nat.mul_assoc]
  omega
theorem be_zeros (l : List Nat) : ∀ k, be (l ++ List.replicate k 0) = be l * 256 ^ k := by
  intro k
  have h0 : ∀ k, be (List.replicate k 0) = 0 := by
    intro k
    induction k with
    | zero => rfl
    | succ k ih => rw [List.replicate_succ', be_snoc, ih]
  rw [be_app, h0, List.length_replicate, Nat.add_zero]

/-- The bytes of a number with four more. -/
theorem tob4 {b : List Nat} {n k : Nat} (hn : n < 2 ^ 32) (v : Nat) : tob (k + 4) (v * 2 ^ 32 + n) = tob k v ++ tob 4 n := by
  rw [tob_app]
  have h1 : (v * 2 ^ 32 + n) / 256 ^ 4 = v := by
    rw [show (256 : Nat) ^ 4 = 2 ^ 32 by decide]; omega
  have h2 : tob 4 (v * 2 ^ 32 + n) = tob 4 n := by
    have := tob_congr 4 v n
    rwa [show (256 : Nat) ^ 4 = 2 ^ 32 by decide] at this
  rw [h1, h2]

/-- A number added to bytes; what is too much falls away. -/
def addN (N : List Nat) (a : Nat) : List Nat := tob N.length (be N + a)
theorem addN_len (N : List Nat) (a : Nat) : (addN N a).length = N.length := tob_len _ _
theorem addN_zero {N : List Nat} (h : ∀ x ∈ N, x < 256) : addN N 0 = N := tob_be h
theorem addN_nil (a : Nat) : addN [] a = [] := rfl
theorem addN_lt {N : List Nat} {a : Nat} : ∀ x ∈ addN N a, x < 256 := tob_lt
theorem addN_snoc (l : List Nat) (x a : Nat) : addN (l ++ [x]) a = addN l ((x + a) / 256) ++ [(x + a) % 256] := by
  unfold addN
  rw [be_snoc, List.length_append, List.length_singleton, tob]
  rw [show (be l * 256 + x + a) / 256 = be l + (x + a) / 256 by omega, show (be l * 256 + x + a) % 256 = (x + a) % 256 by omega]

/-- The program's bytes and its 32 bits more. -/
def all4 (b : List Nat) (n : Nat) : List Nat := b ++ tob 4 n
theorem all4_len (b : List Nat) (n : Nat) : (all4 b n).length = b.length + 4 := by simp [all4, tob_len]
theorem be_all4 {b : List Nat} {n : Nat} (hn : n < 2 ^ 32) : be (all4 b n) = be b * 2 ^ 32 + n := by
  rw [all4, be_app, tob_len, be_tob_lt (by rw [show (256 : Nat) ^ 4 = 2 ^ 32 by decide]; exact hn), show (256 : Nat) ^ 4 = 2 ^ 32 by decide]
theorem all4_add {b : List Nat} {n a : Nat} (hb : ∀ x ∈ b, x < 256) (hn : n < 2 ^ 32) (h : n + a < 2 ^ 32) : all4 b (n + a) = addN (all4 b n) a := by
  rw [addN, be_all4 hn, all4_len, Nat.add_assoc, tob4 (b := b) h, tob_be hb]; rfl
theorem all4_carry {b : List Nat} {n a : Nat} (hn : n < 2 ^ 32) (ha : a < 2 ^ 32) (h : 2 ^ 32 ≤ n + a) : all4 (addN b 1) (n + a - 2 ^ 32) = addN (all4 b n) a := by
  show _ = tob (all4 b n).length (be (all4 b n) + a)
  rw [be_all4 hn, all4_len, show be b * 2 ^ 32 + n + a = (be b + 1) * 2 ^ 32 + (n + a - 2 ^ 32) by omega, tob4 (b := b) (by omega)]; rfl
theorem all4_shift {b : List Nat} {n : Nat} (hn : n < 2 ^ 32) : all4 (b ++ [n / 2 ^ 24]) (n % 2 ^ 24 * 256) = all4 b n ++ [0] := by
  have e1 : tob 4 n = [n / 2 ^ 24, n / 2 ^ 16 % 256, n / 256 % 256, n % 256] := by
    simp only [tob, List.nil_append, List.cons_append, Nat.div_div_eq_div_mul]
    rw [show n / (256 * 256 * 256) % 256 = n / 2 ^ 24 by omega, show n / (256 * 256) = n / 2 ^ 16 by omega]
  have e2 : tob 4 (n % 2 ^ 24 * 256) = [n / 2 ^ 16 % 256, n / 256 % 256, n % 256, 0] := by
    simp only [tob, List.nil_append, List.cons_append, Nat.div_div_eq_div_mul]
    rw [show n % 2 ^ 24 * 256 / (256 * 256 * 256) % 256 = n / 2 ^ 16 % 256 by omega, show n % 2 ^ 24 * 256 / (256 * 256) % 256 = n / 256 % 256 by omega, show n % 2 ^ 24 * 256 / 256 % 256 = n % 256 by omega, show n % 2 ^ 24 * 256 % 256 = 0 by omega]
  unfold all4
  rw [e1, e2]
  simp

/-- How often the range is widened. -/
def sh (r : Nat) : Nat := if r < 65536 then 2 else if r < 16777216 then 1 else 0
theorem sh_le (r : Nat) : sh r ≤ 2 := by unfold sh; split <;> (try split) <;> omega
theorem sh_lt {r k : Nat} (hr : 256 ≤ r) : r * 256 ^ k < 16777216 ↔ k < sh r := by
  have hs := sh_le r
  rcases k with _ | _ | k
  · unfold sh; simp; split <;> (try split) <;> omega
  · unfold sh; simp; split <;> (try split) <;> omega
  · have : 256 ^ 2 ≤ 256 ^ (k + 1 + 1) := Nat.pow_le_pow_right (by omega) (by omega)
    have h2 : 256 * 256 ^ 2 ≤ r * 256 ^ (k + 1 + 1) := Nat.mul_le_mul hr this
    constructor
    · intro h; omega
    · intro h; omega
theorem sh_norm {r : Nat} (hr : 256 ≤ r) (h2 : r < 2 ^ 32) : 2 ^ 24 ≤ r * 256 ^ sh r ∧ r * 256 ^ sh r < 2 ^ 32 := by
  unfold sh
  split
  · omega
  · split <;> omega
theorem sh_mul {r k : Nat} (hr : 256 ≤ r) (h2 : r < 2 ^ 32) (hk : k ≤ sh r) : r * 256 ^ k < 2 ^ 32 := by
  have : 256 ^ k ≤ 256 ^ sh r := Nat.pow_le_pow_right (by omega) hk
  have := Nat.mul_le_mul_left r this
  have := (sh_norm hr h2).2
  omega

/-- A span that is one. -/
def spn (x y z : Int) : Bool := decide (z ≤ 65536 ∧ 0 ≤ x ∧ 1 ≤ y ∧ x ≤ z ∧ y ≤ z - x)

/-- What is behind a span put. -/
def putN (N : List Nat) (r lo sz tot : Nat) : List Nat := addN N (r / tot * lo) ++ List.replicate (sh (r / tot * sz)) 0
def putR (r sz tot : Nat) : Nat := r / tot * sz * 256 ^ sh (r / tot * sz)

/-- What the range and a span are such that a put goes well. -/
structure PutOk (r lo sz tot : Nat) : Prop where
  r1 : 2 ^ 24 ≤ r
  r2 : r < 2 ^ 32
  t1 : tot ≤ 65536
  s1 : 1 ≤ sz
  sum : lo + sz ≤ tot

section
variable {r lo sz tot : Nat}
theorem PutOk.part (h : PutOk r lo sz tot) : 256 ≤ r / tot ∧ r / tot ≤ r := by
  have := h.sum
  have := h.s1
  refine ⟨?_, Nat.div_le_self _ _⟩
  rw [Nat.le_div_iff_mul_le (by omega)]
  have := Nat.mul_le_mul_left 256 h.t1
  have := h.r1
  omega
theorem PutOk.le (h : PutOk r lo sz tot) : r / tot * lo + r / tot * sz ≤ r := by
  rw [← Nat.mul_add]
  have := Nat.mul_le_mul_left (r / tot) h.sum
  have := Nat.div_mul_le_self r tot
  omega
theorem PutOk.size (h : PutOk r lo sz tot) : 256 ≤ r / tot * sz := by
  have := Nat.mul_le_mul_left (r / tot) h.s1
  have := h.part.1
  omega
theorem PutOk.norm (h : PutOk r lo sz tot) : 2 ^ 24 ≤ putR r sz tot ∧ putR r sz tot < 2 ^ 32 := by
  have := h.le
  have := h.r2
  exact sh_norm h.size (by omega)
end
theorem spn_ok {x y z : Int} (h : spn x y z = true) {r : Nat} (h1 : 2 ^ 24 ≤ r) (h2 : r < 2 ^ 32) : ∃ lo sz tot : Nat, x = lo ∧ y = sz ∧ z = tot ∧ PutOk r lo sz tot := by
  have := of_decide_eq_true h
  exact ⟨x.toNat, y.toNat, z.toNat, by omega, by omega, by omega, h1, h2, by omega, by omega, by omega⟩

theorem putN_len (N : List Nat) (r lo sz tot : Nat) : (putN N r lo sz tot).length = N.length + sh (r / tot * sz) := by simp [putN, addN_len]
theorem putN_lt {N : List Nat} {r lo sz tot : Nat} : ∀ x ∈ putN N r lo sz tot, x < 256 := by
  intro x hx
  simp only [putN, List.mem_append] at hx
  rcases hx with hx | hx
  · exact addN_lt x hx
  · have := List.eq_of_mem_replicate hx; omega

theorem shr64 (v s : Nat) (hs : s ≤ 64) : (v : Int).fdiv (2 ^ (min (s : Int).toNat IntKind.u64.bits)) = ((v / 2 ^ s : Nat) : Int) := by
  have h1 : min (s : Int).toNat IntKind.u64.bits = s := by simp [IntKind.bits]; omega
  rw [h1, Int.fdiv_eq_ediv_of_nonneg _ (by exact Int.pow_nonneg (by omega))]
  simp
theorem shr64_32 (v : Nat) : (v : Int).fdiv (2 ^ (min 32 IntKind.u64.bits)) = ((v / 2 ^ 32 : Nat) : Int) := shr64 v 32 (by omega)
theorem shr64_24 (v : Nat) : (v : Int).fdiv (2 ^ (min 24 IntKind.u64.bits)) = ((v / 2 ^ 24 : Nat) : Int) := shr64 v 24 (by omega)
theorem shr64_8 (v : Nat) : (v : Int).fdiv (2 ^ (min 8 IntKind.u64.bits)) = ((v / 256 : Nat) : Int) := shr64 v 8 (by omega)
theorem wrapU {v : Nat} (h : v < 2 ^ 64) : IntKind.u64.wrap (v : Int) = (v : Int) := wrapU64_of (by omega) (by omega)
theorem shl64 (v s : Nat) (hs : s ≤ 64) (h : v * 2 ^ s < 2 ^ 64) : IntKind.u64.wrap ((v : Int) * 2 ^ (min (s : Int).toNat IntKind.u64.bits)) = ((v * 2 ^ s : Nat) : Int) := by
  have h1 : min (s : Int).toNat IntKind.u64.bits = s := by simp [IntKind.bits]; omega
  rw [h1, show (v : Int) * 2 ^ s = ((v * 2 ^ s : Nat) : Int) by simp, wrapU h]
theorem shl64_8 (v : Nat) (h : v * 256 < 2 ^ 64) : IntKind.u64.wrap ((v : Int) * 2 ^ (min 8 IntKind.u64.bits)) = ((v * 256 : Nat) : Int) := shl64 v 8 (by omega) (by omega)
theorem and32 (v : Nat) (h : v < 2 ^ 64) : bits .and .u64 (v : Int) 4294967295 = ((v % 2 ^ 32 : Nat) : Int) := by
  have := u64_and_nat v 4294967295 (by omega) (by omega)
  rw [show (v &&& 4294967295) = v % 2 ^ 32 from Nat.and_two_pow_sub_one_eq_mod v 32] at this
  exact this
theorem or8 (v x : Nat) (h : v * 256 < 2 ^ 63) (hx : x < 256) : bits .or .u64 ((v * 256 : Nat) : Int) (x : Int) = ((v * 256 + x : Nat) : Int) := by
  have := u64_or_nat (v * 256) x (by omega) (by omega)
  rw [this]
  have h2 := Nat.two_pow_add_eq_or_of_lt (i := 8) (b := x) (by omega) v
  rw [show 2 ^ 8 * v + x = v * 256 + x by omega, show 2 ^ 8 * v = v * 256 by omega] at h2
  rw [h2]
end Go.Proofs.Ytahinegnblankaa
