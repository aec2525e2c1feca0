/- The board's hashes, roots and proofs in plain Lean. -/
import Derived.Test.YtknbkhmpnanegaaDoorJoin
namespace Go.Brd
open Go.Sha Go.Proofs.YtknbkhmpnanegaaDoor
structure Ent where
  number : Int
  kind : Int
  body : List UInt8
  prev : List UInt8
def hashE (e : Ent) : List UInt8 := sum (join [be (e.number % 4294967296).toNat 4, [UInt8.ofNat (e.kind % 256).toNat], e.body, e.prev])
def leafD (e : Ent) : List UInt8 := sum (0 :: hashE e)
def innerD (a b : List UInt8) : List UInt8 := sum (1 :: (a ++ b))
theorem hashE_length (e : Ent) : (hashE e).length = 32 := sum_length _
theorem leafD_length (e : Ent) : (leafD e).length = 32 := sum_length _
theorem innerD_length (a b : List UInt8) : (innerD a b).length = 32 := sum_length _
/-- The greatest power of two below n (n from 2 on). -/
def half (n : Nat) : Nat := 2 ^ Nat.log2 (n - 1)
theorem half_pos (n : Nat) : 0 < half n := Nat.pow_pos (by decide)
theorem half_lt (n : Nat) (h : 2 ≤ n) : half n < n := by
  have := Nat.log2_self_le (n := n - 1) (by omega)
  unfold half; omega
theorem half_ge (n : Nat) (h : 2 ≤ n) : n ≤ 2 * half n := by
  have := Nat.lt_log2_self (n := n - 1)
  unfold half
  rw [Nat.pow_succ] at this; omega
theorem half_eq (n m : Nat) (h : 2 ≤ n) (h1 : half n < m) (h2 : m ≤ n) : half m = half n := by
  have h3 := half_ge n h
  unfold half at *
  congr 1
  have hm : m - 1 ≠ 0 := by
    have := Nat.pow_pos (n := Nat.log2 (n - 1)) (show 0 < 2 by decide); omega
  rw [Nat.log2_eq_iff hm]
  rw [Nat.pow_succ]
  omega
def rootD (l : List Ent) : List UInt8 :=
  match l with
  | [] => sum []
  | [x] => leafD x
  | x :: y :: r => innerD (rootD ((x :: y :: r).take (half (r.length + 2)))) (rootD ((x :: y :: r).drop (half (r.length + 2))))
termination_by l.length
decreasing_by
  · have := half_lt (r.length + 2) (by omega); simp; omega
  · have := half_pos (r.length + 2); simp; omega
theorem rootD_more (l : List Ent) (h : 2 ≤ l.length) : rootD l = innerD (rootD (l.take (half l.length))) (rootD (l.drop (half l.length))) := by
  match l, h with
  | x :: y :: r, _ => rw [rootD]; rfl
theorem rootD_length (l : List Ent) : (rootD l).length = 32 := by
  match l with
  | [] => rw [rootD]; exact sum_length _
  | [x] => rw [rootD]; exact leafD_length _
  | x :: y :: r => rw [rootD]; exact innerD_length _ _
def proveD (l : List Ent) (i : Nat) : List (List UInt8) :=
  match l with
  | [] => []
  | [_] => []
  | x :: y :: r =>
    if i < half (r.length + 2) then proveD ((x :: y :: r).take (half (r.length + 2))) i ++ [rootD ((x :: y :: r).drop (half (r.length + 2)))]
    else proveD ((x :: y :: r).drop (half (r.length + 2))) (i - half (r.length + 2)) ++ [rootD ((x :: y :: r).take (half (r.length + 2)))]
termination_by l.length
decreasing_by
  · have := half_lt (r.length + 2) (by omega); simp; omega
  · have := half_pos (r.length + 2); simp; omega
theorem proveD_more (l : List Ent) (i : Nat) (h : 2 ≤ l.length) : proveD l i = if i < half l.length then proveD (l.take (half l.length)) i ++ [rootD (l.drop (half l.length))] else proveD (l.drop (half l.length)) (i - half l.length) ++ [rootD (l.take (half l.length))] := by
  match l, h with
  | x :: y :: r, _ => rw [proveD]; rfl
/-- The tree hash that follows from a proof, the last digest first; and whether the length fits. -/
def climbR (h : List UInt8) (n i : Nat) : List (List UInt8) → List UInt8 × Bool
  | [] => (h, n == 1)
  | p :: rest =>
    if n = 1 then (h, false)
    else if i < half n then (innerD (climbR h (half n) i rest).1 p, (climbR h (half n) i rest).2)
    else (innerD p (climbR h (n - half n) (i - half n) rest).1, (climbR h (n - half n) (i - half n) rest).2)
theorem climbR_length (h : List UInt8) (hl : h.length = 32) : ∀ (n i : Nat) (q : List (List UInt8)), (climbR h n i q).1.length = 32 := by
  intro n i q
  cases q with
  | nil => exact hl
  | cons p rest =>
    simp only [climbR]
    split
    · exact hl
    · split <;> exact innerD_length _ _
def includedD (root : List UInt8) (n i : Nat) (x : Ent) (proof : List (List UInt8)) : Bool :=
  (climbR (leafD x) n i proof.reverse).2 && (climbR (leafD x) n i proof.reverse).1 == root
theorem climb_prove (x : Ent) : ∀ (l : List Ent) (i : Nat), l[i]? = some x → climbR (leafD x) l.length i (proveD l i).reverse = (rootD l, true) := by
  intro l
  induction hn : l.length using Nat.strongRecOn generalizing l with
  | ind n ih =>
    intro i hi
    subst hn
    have hil : i < l.length := (List.getElem?_eq_some_iff.1 hi).1
    by_cases h1 : l.length = 1
    · match l, h1 with
      | [y], _ =>
        obtain rfl : i = 0 := by simp at hil; exact hil
        have : y = x := by simpa using hi
        subst this
        rw [proveD, rootD]; rfl
    · have h2 : 2 ≤ l.length := by omega
      have hh := half_lt l.length h2
      have hp := half_pos l.length
      rw [proveD_more l i h2, rootD_more l h2]
      by_cases hik : i < half l.length
      · rw [if_pos hik, List.reverse_append, List.reverse_singleton, List.singleton_append]
        have hlt : (l.take (half l.length)).length = half l.length := by rw [List.length_take]; omega
        have := ih (half l.length) hh (l.take (half l.length)) hlt i (by rw [List.getElem?_take, if_pos hik]; exact hi)
        simp only [climbR, if_neg (show ¬ l.length = 1 by omega), if_pos hik]
        rw [this]
      · rw [if_neg hik, List.reverse_append, List.reverse_singleton, List.singleton_append]
        have hlt : (l.drop (half l.length)).length = l.length - half l.length := by rw [List.length_drop]
        have := ih (l.length - half l.length) (by omega) (l.drop (half l.length)) hlt (i - half l.length) (by rw [List.getElem?_drop, show half l.length + (i - half l.length) = i by omega]; exact hi)
        simp only [climbR, if_neg (show ¬ l.length = 1 by omega), if_neg hik]
        rw [this]
theorem take_set_lt {α : Type} (l : List α) (i k : Nat) (x : α) (h : k ≤ i) : (l.set i x).take k = l.take k := by
  rw [List.take_set, List.set_eq_of_length_le (by rw [List.length_take]; omega)]
theorem drop_set_ge {α : Type} (l : List α) (i k : Nat) (x : α) (h : k ≤ i) : (l.set i x).drop k = (l.drop k).set (i - k) x := by
  rw [List.drop_set, if_neg (by omega)]
theorem drop_set_lt {α : Type} (l : List α) (i k : Nat) (x : α) (h : i < k) : (l.set i x).drop k = l.drop k := by
  rw [List.drop_set, if_pos h]
theorem prove_set (x : Ent) : ∀ (l : List Ent) (i : Nat), i < l.length → proveD (l.set i x) i = proveD l i := by
  intro l
  induction hn : l.length using Nat.strongRecOn generalizing l with
  | ind n ih =>
    intro i hil
    subst hn
    by_cases h1 : l.length = 1
    · match l, h1 with
      | [y], _ =>
        obtain rfl : i = 0 := by simp at hil; exact hil
        show proveD [x] 0 = proveD [y] 0
        rw [proveD, proveD]
    · have h2 : 2 ≤ l.length := by omega
      have hh := half_lt l.length h2
      have hp := half_pos l.length
      rw [proveD_more l i h2, proveD_more (l.set i x) i (by rw [List.length_set]; exact h2), List.length_set]
      by_cases hik : i < half l.length
      · rw [if_pos hik, if_pos hik, drop_set_lt l i _ x hik, List.take_set]
        rw [ih (half l.length) hh (l.take (half l.length)) (by rw [List.length_take]; omega) i hik]
      · rw [if_neg hik, if_neg hik, take_set_lt l i _ x (by omega), drop_set_ge l i _ x (by omega)]
        rw [ih (l.length - half l.length) (by omega) (l.drop (half l.length)) (by rw [List.length_drop]) (i - half l.length) (by omega)]
theorem climb_other (l : List Ent) (i : Nat) (h : i < l.length) (x : Ent) : climbR (leafD x) l.length i (proveD l i).reverse = (rootD (l.set i x), true) := by
  have := climb_prove x (l.set i x) i (by simp [h])
  rw [List.length_set, prove_set x l i h] at this
  exact this
def zeroD : List UInt8 := List.replicate 32 0
def extendD (l : List Ent) (m : Nat) (known : Bool) : List (List UInt8) :=
  if m = l.length ∨ l.length < 2 then (if known then [] else [rootD l])
  else if m ≤ half l.length then extendD (l.take (half l.length)) m known ++ [rootD (l.drop (half l.length))]
  else extendD (l.drop (half l.length)) (m - half l.length) false ++ [rootD (l.take (half l.length))]
termination_by l.length
decreasing_by
  · have := half_lt l.length (by omega); simp; omega
  · have := half_pos l.length; simp; omega
def rebuildR (old : List UInt8) (m n : Nat) (known : Bool) : List (List UInt8) → List UInt8 × List UInt8 × Bool
  | [] => if m = n ∧ known = true then (old, old, true) else (zeroD, zeroD, false)
  | p :: rest =>
    if m = n ∧ known = true then (old, old, false)
    else if m = n then (p, p, rest.isEmpty)
    else if m ≤ half n then ((rebuildR old m (half n) known rest).1, innerD (rebuildR old m (half n) known rest).2.1 p, (rebuildR old m (half n) known rest).2.2)
    else (innerD p (rebuildR old (m - half n) (n - half n) false rest).1, innerD p (rebuildR old (m - half n) (n - half n) false rest).2.1, (rebuildR old (m - half n) (n - half n) false rest).2.2)
def extendedD (old root : List UInt8) (m n : Nat) (proof : List (List UInt8)) : Bool :=
  (rebuildR old m n true proof.reverse).2.2 && (rebuildR old m n true proof.reverse).1 == old && (rebuildR old m n true proof.reverse).2.1 == root
theorem rebuild_extend (old : List UInt8) : ∀ (l : List Ent) (m : Nat) (known : Bool), 1 ≤ m → m ≤ l.length → (known = true → old = rootD (l.take m)) →
    rebuildR old m l.length known (extendD l m known).reverse = (rootD (l.take m), rootD l, true) := by
  intro l
  induction hn : l.length using Nat.strongRecOn generalizing l with
  | ind n ih =>
    intro m known h1 h2 ho
    subst hn
    by_cases hml : m = l.length
    · rw [extendD, if_pos (.inl hml)]
      have ht : l.take m = l := by rw [hml, List.take_length]
      cases known with
      | true => rw [if_pos rfl]; rw [List.reverse_nil, rebuildR, if_pos ⟨hml, rfl⟩, ho rfl, ht]
      | false =>
        rw [if_neg (by decide)]
        show rebuildR _ _ _ _ [rootD l] = _
        simp only [rebuildR]
        rw [if_neg (by simp), if_pos hml, ht]; rfl
    · have h3 : 2 ≤ l.length := by omega
      have hh := half_lt l.length h3
      have hp := half_pos l.length
      rw [extendD, if_neg (by omega)]
      by_cases hmk : m ≤ half l.length
      · rw [if_pos hmk, List.reverse_append, List.reverse_singleton, List.singleton_append]
        have hlt : (l.take (half l.length)).length = half l.length := by rw [List.length_take]; omega
        have hr := ih (half l.length) hh (l.take (half l.length)) hlt m known h1 hmk (fun hk => by rw [ho hk, List.take_take]; congr 2; omega)
        simp only [rebuildR, if_neg (show ¬ (m = l.length ∧ known = true) by omega), if_neg hml, if_pos hmk]
        rw [hr, rootD_more l h3, List.take_take, Nat.min_eq_left hmk]
      · rw [if_neg hmk, List.reverse_append, List.reverse_singleton, List.singleton_append]
        have hlt : (l.drop (half l.length)).length = l.length - half l.length := by rw [List.length_drop]
        have hr := ih (l.length - half l.length) (by omega) (l.drop (half l.length)) hlt (m - half l.length) false (by omega) (by omega) (fun hk => by cases hk)
        simp only [rebuildR, if_neg (show ¬ (m = l.length ∧ known = true) by omega), if_neg hml, if_neg hmk]
        rw [hr, rootD_more l h3]
        have hkm : half l.length < m := by omega
        have he := half_eq l.length m h3 hkm h2
        have hm2 : 2 ≤ (l.take m).length := by rw [List.length_take]; omega
        have hml2 : (l.take m).length = m := by rw [List.length_take]; omega
        rw [rootD_more (l.take m) hm2, hml2, he, List.take_take, Nat.min_eq_left (Nat.le_of_lt hkm), List.drop_take]
end Go.Brd
