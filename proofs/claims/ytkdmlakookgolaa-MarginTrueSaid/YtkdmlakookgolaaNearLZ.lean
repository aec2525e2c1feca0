/- The nearest pile (plain): what electionlaw31.nearest computes. -/
import Derived.Test.YtkdmlakookgolaaBalTZ
namespace Go.Mg
open Go.Pil
def updN (b d : Int) : Int := if 0 ≤ d ∧ (b < 0 ∨ d < b) then d else b
noncomputable def nearV (n V : Nat) (a : List Grp) (all : List (List Int)) : Nat → List (List Int) → Nat → Int
  | 0, s, _ => if posB (n : Int) (pileOf (ones s)) = [(V : Int)] then -1 else dist a (pileOf (ones s))
  | k + 1, s, fr => (List.range (all.length - fr)).foldl (fun b j => updN b (nearV n V a all k (s ++ [all.getD (fr + j) []]) (fr + j))) (-1)
noncomputable def nearK (n V : Nat) (a : List Grp) (all : List (List Int)) (k : Nat) (s : List (List Int)) (fr j : Nat) : Int := (List.range j).foldl (fun b j => updN b (nearV n V a all k (s ++ [all.getD (fr + j) []]) (fr + j))) (-1)
theorem nearK_succ (n V : Nat) (a : List Grp) (all : List (List Int)) (k : Nat) (s : List (List Int)) (fr j : Nat) : nearK n V a all k s fr (j + 1) = updN (nearK n V a all k s fr j) (nearV n V a all k (s ++ [all.getD (fr + j) []]) (fr + j)) := by
  (unfold nearK); (rw [List.range_succ, List.foldl_append]; rfl)
theorem ones_snoc (s : List (List Int)) (p : List Int) : addG (pileOf (ones s)) p 1 = pileOf (ones (s ++ [p])) := by
  (unfold pileOf ones); (rw [List.map_append, List.foldl_append]; rfl)
theorem nearV_rng {n V : Nat} {a : List Grp} {all : List (List Int)} : ∀ (k : Nat) (s : List (List Int)) (fr : Nat), -1 ≤ nearV n V a all k s fr
  | 0, s, fr => by
    unfold nearV
    split
    · exact Int.le_refl _
    · unfold dist
      split
      · rename_i h
        (have h1 := com_le a (pileOf (ones s)) (pile_pos h.1) (pile_pos h.2.1)); (have h2 : total a = tot a := by unfold total; rw [if_pos h.1]); (rw [h2]; omega)
      · exact Int.le_refl _
  | k + 1, s, fr => by
    unfold nearV
    have : ∀ (L : List Nat) (b : Int), -1 ≤ b → -1 ≤ L.foldl (fun b j => updN b (nearV n V a all k (s ++ [all.getD (fr + j) []]) (fr + j))) b := by
      intro L
      induction L with
      | nil => intro b hb; exact hb
      | cons x L ih =>
        (intro b hb); (rw [List.foldl_cons]); (refine ih _ ?_); (unfold updN)
        split
        · rename_i h; omega
        · exact hb
    exact this _ _ (Int.le_refl _)
end Go.Mg
