/- The search for a certificate in plain Lean. -/
import Derived.Test.YtaobaaaihgahfaaGreatNodeV
namespace Go.Mg
open Go.Pil
/-- The leaf that is looked at next. -/
def selK (l : List Nd) : Nat := (leastN l l.length).toNat
def selN (l : List Nd) : Nd := l.getD (selK l) default
/-- The children of a node. -/
def kidsE (n : Nat) (gs : List Grp) (k : Nat) (x : Nd) (e : Int) : Nd := ⟨(k : Int), e :: x.tail, max x.bd (bd n gs (e :: x.tail)), true⟩
def kids (n : Nat) (gs : List Grp) (k : Nat) (x : Nd) (m : Nat) : List Nd := ((allC m).filter fun e => decide (e ∉ x.tail)).map (kidsE n gs k x)
def stopS (n : Nat) (up lim : Int) (l : List Nd) : Bool := decide (up ≤ (selN l).bd) || decide ((selN l).tail.length = n) || decide (lim < (l.length : Int) + n - (selN l).tail.length)
def clr (x : Nd) : Nd := ⟨x.par, x.tail, x.bd, false⟩
def stepS (n : Nat) (gs : List Grp) (l : List Nd) : List Nd := l.set (selK l) (clr (selN l)) ++ kids n gs (selK l) (selN l) n
def rootE (n : Nat) (gs : List Grp) (e : Int) : Nd := ⟨-1, [e], bd n gs [e], true⟩
def startS (n : Nat) (gs : List Grp) (w : Int) (m : Nat) : List Nd := ((allC m).filter fun e => decide (e ≠ w)).map (rootE n gs)
def runS (n : Nat) (gs : List Grp) (w : Int) : Nat → List Nd
  | 0 => startS n gs w n
  | i + 1 => stepS n gs (runS n gs w i)
/-- What a search ends with. -/
def IsS (n : Nat) (gs : List Grp) (w up lim : Int) (l : List Nd) : Prop := ∃ i, l = runS n gs w i ∧ stopS n up lim l = true ∧ ∀ j, j < i → stopS n up lim (runS n gs w j) = false
end Go.Mg
