/- plain lemmas on SHA-256's words -/
import Derived.Test.YtggcbjchnefhfaaDoorSha
namespace Go.Sha
def part (l : List UInt8) : UInt32 := l.foldl (fun x c => x <<< 8 ||| c.toUInt32) 0
def wc (b : List UInt8) (i j : Nat) : UInt32 := part (((b.take i).drop (4*j)).take 4)
theorem part_snoc (l : List UInt8) (c : UInt8) : part (l ++ [c]) = part l <<< 8 ||| c.toUInt32 := by simp [part, List.foldl_append]
theorem wc_hit (b : List UInt8) (k : Nat) (h : k < b.length) : wc b (k+1) (k/4) = wc b k (k/4) <<< 8 ||| b[k].toUInt32 := by
  unfold wc
  rw [← part_snoc]
  congr 1
  rw [List.take_succ_eq_append_getElem h, List.drop_append_of_le_length (by simp; omega), List.take_of_length_le (by simp; omega), List.take_of_length_le (l := List.drop _ _) (by simp; omega)]
theorem wc_miss (b : List UInt8) (k j : Nat) (h : j ≠ k/4) : wc b (k+1) j = wc b k j := by
  unfold wc
  congr 1
  apply List.ext_getElem?
  intro i
  simp only [List.getElem?_take, List.getElem?_drop]
  split
  · split
    · rw [if_pos (by omega)]
    · rw [if_neg (by omega)]
  · rfl
theorem wc_zero (b : List UInt8) (j : Nat) : wc b 0 j = 0 := by simp [wc, part]
theorem wc_past (b : List UInt8) (j : Nat) (h : 16 ≤ j) : wc b 64 j = 0 := by
  unfold wc; rw [List.drop_eq_nil_of_le (by simp; omega)]; rfl
theorem word_part (a b c d : UInt8) : word a b c d = part [a, b, c, d] := by
  simp [word, part]
theorem first16_length (n : Nat) : ∀ b : List UInt8, 4 * n ≤ b.length → (first16 n b).length = n := by
  induction n with
  | zero => intro b _; rfl
  | succ n ih =>
    intro b h
    match b, h with
    | a :: b :: c :: d :: r, h => simp [first16, ih r (by simp at h; omega)]
theorem first16_get (n : Nat) : ∀ (b : List UInt8) (j : Nat), 4 * n ≤ b.length → j < n → (first16 n b).getD j 0 = part ((b.drop (4 * j)).take 4) := by
  induction n with
  | zero => intro b j _ h; omega
  | succ n ih =>
    intro b j h hj
    match b, h with
    | a :: b :: c :: d :: r, h =>
      cases j with
      | zero => simp [first16, word_part]
      | succ j =>
        have := ih r j (by simp at h; omega) (by omega)
        simp only [first16, List.getD_cons_succ, this]
        rw [show 4 * (j + 1) = 4 * j + 4 by omega]
        rfl
theorem iter_length (w : List UInt32) (n : Nat) : (iter more n w).length = w.length + n := by
  induction n with
  | zero => rfl
  | succ n ih => simp [iter, more, ih]; omega
theorem more_get (w : List UInt32) (j : Nat) (h : j < w.length) : (more w).getD j 0 = w.getD j 0 := by
  simp [more, List.getElem?_append_left h]
theorem iter_get (w : List UInt32) (n m j : Nat) (h : j < w.length + n) : (iter more (n + m) w).getD j 0 = (iter more n w).getD j 0 := by
  induction m with
  | zero => rfl
  | succ m ih => rw [show n + (m + 1) = (n + m) + 1 by omega, iter, more_get _ _ (by rw [iter_length]; omega), ih]
theorem sched_length (b : List UInt8) (h : 64 ≤ b.length) : (sched b).length = 64 := by
  rw [sched, iter_length, first16_length 16 b (by omega)]
theorem sched_get (b : List UInt8) (h : 64 ≤ b.length) (n m j : Nat) (hm : n + m = 48) (hj : j < 16 + n) : (sched b).getD j 0 = (iter more n (first16 16 b)).getD j 0 := by
  unfold sched
  rw [← hm]
  exact iter_get _ n m j (by rw [first16_length 16 b (by omega)]; exact hj)
theorem sched_low (b : List UInt8) (h : 64 ≤ b.length) (j : Nat) (hj : j < 16) : (sched b).getD j 0 = wc b 64 j := by
  rw [sched_get b h 0 48 j rfl (by omega), iter, first16_get 16 b j (by omega) hj, wc]
  congr 1
  apply List.ext_getElem?
  intro i
  simp only [List.getElem?_take, List.getElem?_drop]
  split
  · rw [if_pos (by omega)]
  · rfl
theorem sched_rec (b : List UInt8) (h : 64 ≤ b.length) (n : Nat) (h2 : n < 48) :
    (sched b).getD (16 + n) 0 = (sched b).getD n 0 + s0 ((sched b).getD (n + 1) 0) + (sched b).getD (n + 9) 0 + s1 ((sched b).getD (n + 14) 0) := by
  have hl := first16_length 16 b (by omega)
  have e := fun j hj => sched_get b h n (48 - n) j (by omega) hj
  rw [e n (by omega), e (n + 1) (by omega), e (n + 9) (by omega), e (n + 14) (by omega), sched_get b h (n + 1) (48 - (n + 1)) (16 + n) (by omega) (by omega), iter]
  have hL : (iter more n (first16 16 b)).length = 16 + n := by rw [iter_length, hl]
  generalize iter more n (first16 16 b) = l at hL
  unfold more
  simp only [hL]
  rw [show 16 + n - 16 = n by omega, show 16 + n - 15 = n + 1 by omega, show 16 + n - 7 = n + 9 by omega, show 16 + n - 2 = n + 14 by omega]
  rw [List.getD_eq_getElem?_getD, List.getElem?_append_right (by omega)]
  simp [hL]
attribute [local irreducible] sched
end Go.Sha
