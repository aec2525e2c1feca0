/- irv.Possible (printed by gen_poss.py). -/
import Derived.Test.YtaobaaaihgahfaaGreatReachQ
namespace Go.Mg
open Go.Pil
theorem single : ∀ n ≤ 7, ∀ u < 2 ^ n, ∀ c < n, u.testBit c = true → (sl n u).length = 1 → u = 2 ^ c := by decide +kernel
end Go.Mg
namespace Go.Proofs.YtaobaaaihgahfaaGreat
open Go.RowKit Go.Mk Go.Pil Go.Mg
end Go.Proofs.YtaobaaaihgahfaaGreat
