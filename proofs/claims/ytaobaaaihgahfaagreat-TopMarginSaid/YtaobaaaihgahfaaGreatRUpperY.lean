/- electionref31.Upper (printed by gen_rupper.py). -/
import Derived.Test.YtaobaaaihgahfaaGreatReachY
namespace Go.Mg
open Go.Pil
def mnStep (b d : Int) : Int := if b < 0 ∨ d < b then d else b
/-- The least of some numbers; -1 of none. -/
def mn (l : List Int) : Int := l.foldl mnStep (-1)
theorem mn_snoc (l : List Int) (x : Int) : mn (l ++ [x]) = mnStep (mn l) x := by simp [mn, List.foldl_append]
open Classical in
/-- What it takes to pull level with each of the first k candidates with whom w can remain alone. -/
noncomputable def upL (n : Nat) (gs : List Grp) (w k : Nat) : List Int := ((List.range k).filter fun r => decide (r ≠ w ∧ Rc 2 n gs (2 ^ r + 2 ^ w))).map fun r : Nat => half (vt n gs [(r : Int), (w : Int)] (w : Int) - vt n gs [(r : Int), (w : Int)] (r : Int))
open Classical in
noncomputable def upV (n : Nat) (gs : List Grp) (w : Nat) : Int := if ∃ r, r < n ∧ r ≠ w ∧ Rc 2 n gs (2 ^ r) then 0 else mn (upL n gs w n)
noncomputable def upperB (n : Int) (gs : List Grp) (w : Int) : Int := if 2 ≤ n ∧ (n ≤ 7 ∧ isPile n gs = true) ∧ 0 ≤ w ∧ w < n then upV n.toNat gs w.toNat else -1
open Classical in
open Classical in
theorem two_pow_lt : ∀ n ≤ 7, ∀ r < n, ∀ w < n, r ≠ w → 2 ^ r + 2 ^ w < 2 ^ n := by decide +kernel
theorem one_pow_lt : ∀ n ≤ 7, ∀ r < n, 2 ^ r < 2 ^ n := by decide +kernel
end Go.Mg
namespace Go.Proofs.YtaobaaaihgahfaaGreat
open Go.RowKit Go.Mk Go.Pil Go.Mg
end Go.Proofs.YtaobaaaihgahfaaGreat
