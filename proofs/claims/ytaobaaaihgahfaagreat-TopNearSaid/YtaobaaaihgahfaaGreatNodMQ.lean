/- margin's tree in memory. -/
import Derived.Test.YtaobaaaihgahfaaGreatSrchQ
import Derived.Test.YtaobaaaihgahfaaGreatAddQ
namespace Go.Proofs.YtaobaaaihgahfaaGreat
open Go.RowKit Go.Mk Go.Pil Go.Mg
def hz (h : List Nat) : List Int := h.map fun k : Nat => (k : Int)
section
variable {w1 w w2 : World} {gt gv : Nat} {vn ve : Value} {q : List (Nd × Value)} {h : List Nat}
end
end Go.Proofs.YtaobaaaihgahfaaGreat
