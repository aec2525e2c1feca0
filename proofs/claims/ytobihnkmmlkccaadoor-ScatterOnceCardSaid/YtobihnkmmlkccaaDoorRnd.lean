/- The words, numbers and permutations of layer 5 (random) in plain Lean. -/
import Derived.Test.YtobihnkmmlkccaaDoorJoin
namespace Go.Rnd
open Go.Sha Go.Proofs.YtobihnkmmlkccaaDoor
def num (l : List UInt8) : Nat := l.foldl (fun n x => n * 256 + x.toNat) 0
theorem num_snoc (l : List UInt8) (x : UInt8) : num (l ++ [x]) = num l * 256 + x.toNat := by simp [num, List.foldl_append]
theorem num_lt_rev (l : List UInt8) : num l.reverse < 256 ^ l.length := by
  induction l with
  | nil => simp [num]
  | cons x l ih =>
    rw [List.reverse_cons, num_snoc, List.length_cons, Nat.pow_succ]
    have := x.toNat_lt
    omega
theorem num_lt (l : List UInt8) : num l < 256 ^ l.length := by
  have := num_lt_rev l.reverse
  rwa [List.reverse_reverse, List.length_reverse] at this
/-- The word number c of a seed. -/
def word (s : List UInt8) (c : Nat) : Nat := num ((sum (join [s, be c 8])).take 8)
theorem word_lt (s : List UInt8) (c : Nat) : word s c < 18446744073709551616 := by
  have := num_lt ((sum (join [s, be c 8])).take 8)
  rw [List.length_take, sum_length] at this
  exact this
/-- At most k words are drawn from c on; the last one, and the next number. -/
def tries (s : List UInt8) (rest : Nat) : Nat → Nat → Nat × Nat
  | 0, c => (0, c)
  | k + 1, c => if word s c + rest < 18446744073709551616 ∨ k = 0 then (word s c, c + 1) else tries s rest k (c + 1)
def below (s : List UInt8) (n c : Nat) : Nat × Nat :=
  let p := tries s (18446744073709551616 % n) 16 c
  (p.1 % n, p.2)
theorem tries_le (s : List UInt8) (rest : Nat) : ∀ k c, (tries s rest k c).2 ≤ c + k ∧ c ≤ (tries s rest k c).2 := by
  intro k
  induction k with
  | zero => intro c; simp [tries]
  | succ k ih =>
    intro c
    simp only [tries]
    split
    · simp
    · have := ih (c + 1); omega
theorem below_le (s : List UInt8) (n c : Nat) : (below s n c).2 ≤ c + 16 ∧ c ≤ (below s n c).2 := tries_le s _ 16 c
theorem below_lt (s : List UInt8) (n c : Nat) (h : 0 < n) : (below s n c).1 < n := Nat.mod_lt _ h
def swap (l : List Nat) (i k : Nat) : List Nat := (l.set i (l.getD k 0)).set k (l.getD i 0)
theorem swap_length (l : List Nat) (i k : Nat) : (swap l i k).length = l.length := by simp [swap]
theorem swap_perm (l : List Nat) (i k : Nat) (hi : i < l.length) (hk : k < l.length) : (swap l i k).Perm l := by
  have h := Array.swap_perm (xs := l.toArray) (i := i) (j := k) (by simpa using hi) (by simpa using hk)
  have h2 := h.toList
  have e : (l.toArray.swap i k (by simpa using hi) (by simpa using hk)).toList = swap l i k := by
    simp [Array.swap, swap, hi, hk]
  rw [e] at h2
  exact h2
/-- The exchanges of the places i, i - 1 .. 1. -/
def shuffle (s : List UInt8) : Nat → Nat → List Nat → List Nat × Nat
  | 0, c, l => (l, c)
  | i + 1, c, l => shuffle s i (below s (i + 2) c).2 (swap l (i + 1) (below s (i + 2) c).1)
def perm (s : List UInt8) (n c : Nat) : List Nat × Nat := shuffle s (n - 1) c (List.range n)
theorem shuffle_le (s : List UInt8) : ∀ i c l, (shuffle s i c l).2 ≤ c + 16 * i ∧ c ≤ (shuffle s i c l).2 := by
  intro i
  induction i with
  | zero => intro c l; simp [shuffle]
  | succ i ih =>
    intro c l
    simp only [shuffle]
    have h1 := ih (below s (i + 2) c).2 (swap l (i + 1) (below s (i + 2) c).1)
    have h2 := below_le s (i + 2) c
    omega
theorem shuffle_perm (s : List UInt8) : ∀ i c l, i < l.length ∨ i = 0 → (shuffle s i c l).1.Perm l := by
  intro i
  induction i with
  | zero => intro c l _; exact List.Perm.refl _
  | succ i ih =>
    intro c l h
    simp only [shuffle]
    have hi : i + 1 < l.length := by omega
    have hb := below_lt s (i + 2) c (by omega)
    exact (ih _ _ (by rw [swap_length]; omega)).trans (swap_perm l _ _ hi (by omega))
theorem perm_perm (s : List UInt8) (n c : Nat) : (perm s n c).1.Perm (List.range n) := shuffle_perm s _ _ _ (by simp; omega)
theorem perm_length (s : List UInt8) (n c : Nat) : (perm s n c).1.length = n := by
  rw [(perm_perm s n c).length_eq, List.length_range]
theorem perm_nodup (s : List UInt8) (n c : Nat) : (perm s n c).1.Nodup := (perm_perm s n c).nodup_iff.2 List.nodup_range
theorem perm_lt (s : List UInt8) (n c x : Nat) (h : x ∈ (perm s n c).1) : x < n := by
  simpa using (perm_perm s n c).mem_iff.1 h
theorem perm_le (s : List UInt8) (n c : Nat) : (perm s n c).2 ≤ c + 16 * n ∧ c ≤ (perm s n c).2 := by
  have := shuffle_le s (n - 1) c (List.range n)
  unfold perm; omega
end Go.Rnd
