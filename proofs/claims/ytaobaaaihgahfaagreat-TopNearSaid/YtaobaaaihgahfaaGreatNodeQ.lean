/- Nodes of certificates in memory; electionref31.least, Least (printed by gen_node.py). -/
import Derived.Test.YtaobaaaihgahfaaGreatPossQ
namespace Go.Mg
open Go.Pil
structure Nd where
  par : Int
  tail : List Int
  bd : Int
  leaf : Bool
deriving DecidableEq
instance : Inhabited Nd := ⟨⟨0, [], 0, false⟩⟩
end Go.Mg
namespace Go.Proofs.YtaobaaaihgahfaaGreat
open Go.RowKit Go.Mk Go.Pil Go.Mg
end Go.Proofs.YtaobaaaihgahfaaGreat
