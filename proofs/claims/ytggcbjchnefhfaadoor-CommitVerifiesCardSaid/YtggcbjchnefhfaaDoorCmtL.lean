/- Commitments in plain Lean. -/
import Derived.Test.YtggcbjchnefhfaaDoorJoin
namespace Go.Cmt
open Go.Sha Go.Proofs.YtggcbjchnefhfaaDoor
def num8 (z : Int) : List UInt8 := be (z % 18446744073709551616).toNat 8
def numsB (l : List Int) : List UInt8 := l.flatMap num8
theorem num8_length (z : Int) : (num8 z).length = 8 := be_length _ _
theorem numsB_length (l : List Int) : (numsB l).length = 8 * l.length := by
  induction l with
  | nil => rfl
  | cons z l ih => simp [numsB, num8_length] at ih ⊢; omega
theorem numsB_snoc (l : List Int) (k : Nat) (h : k < l.length) : numsB (l.take (k + 1)) = numsB (l.take k) ++ num8 (l.getD k 0) := by
  unfold numsB
  rw [List.take_succ_eq_append_getElem h, List.flatMap_append, List.getD_eq_getElem?_getD, List.getElem?_eq_getElem h]
  simp
def saltP (secret : List UInt8) (l : List Int) : List (List UInt8) := [[115, 97, 108, 116], secret, numsB l]
def commitP (salt : List UInt8) (l prefs : List Int) : List (List UInt8) := [[99, 111, 109, 109, 105, 116], salt, numsB l, numsB prefs]
def saltD (secret : List UInt8) (l : List Int) : List UInt8 := sum (join (saltP secret l))
def commitD (salt : List UInt8) (l prefs : List Int) : List UInt8 := sum (join (commitP salt l prefs))
end Go.Cmt
