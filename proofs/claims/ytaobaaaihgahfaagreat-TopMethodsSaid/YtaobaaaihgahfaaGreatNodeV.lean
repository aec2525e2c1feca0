/- Nodes of certificates in memory; electionref31.least, Least (printed by gen_node.py). -/
import Derived.Test.YtaobaaaihgahfaaGreatPossV
namespace Go.Mg
open Go.Pil
structure Nd where
  par : Int
  tail : List Int
  bd : Int
  leaf : Bool
deriving DecidableEq
instance : Inhabited Nd := ⟨⟨0, [], 0, false⟩⟩
/-- The first j nodes' leaf with the least bound (the first of several); -1: none. -/
def leastN (l : List Nd) : Nat → Int
  | 0 => -1
  | j + 1 => if (l.getD j default).leaf = true ∧ (leastN l j < 0 ∨ (l.getD j default).bd < (l.getD (leastN l j).toNat default).bd) then (j : Int) else leastN l j
end Go.Mg
namespace Go.Proofs.YtaobaaaihgahfaaGreat
open Go.RowKit Go.Mk Go.Pil Go.Mg
end Go.Proofs.YtaobaaaihgahfaaGreat
