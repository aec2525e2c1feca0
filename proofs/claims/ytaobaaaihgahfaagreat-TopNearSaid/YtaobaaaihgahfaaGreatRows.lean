/-
  No cell of these rows narrows 'for every input' (looked for: loops, veiled, ifaces, maps, wideKeys, modest, calm, conditions, laid).
  DERIVED. THE GIVEN ROWS OF THIS SEAT. 3 by the template 'for every input the law returns true; each argument reads behind the call as it read before'; 0 by the template 'total and deterministic' (their statements: YtaobaaaihgahfaaGreatTotals.lean).
  GIVEN WITH THE SEED: the statements are not yours to turn. If you find one false, say at which input.
  Laid BY PROGRAM, IN A SANDBOX (cutbox-rows.mjs): the forced cells as the released guide's own fill.sh prints them over the translation 22ca1594cf564de5… (all of the seat's roots in one cut). By AI agents, Wed Nov 11 2026. No macro, syntax, notation, axiom, sorry.
-/
import Derived.Test.YtaobaaaihgahfaaGreatChecked
import GoSem.Claim
import GoSem.ClaimJoined
import GoSem.ClaimMapViews
import Derived.JoinedTies
import Derived.KernelRfl
namespace Go.Proofs.YtaobaaaihgahfaaGreat
/- THE CELL 'sum', in the pinned program and in every row, IS THE sha256 OF THE DUMP (.gsa) THAT YtaobaaaihgahfaaGreatProg.lean LOADS. Nothing in Lean hashes anything: it is a label: what it is worth is what the hold of that sum in a sandbox is worth. -/
noncomputable def Tryz.pinned : Pinned := { name := "ytaobaaaihgahfaagreat", sum := "22ca1594cf564de54270ecf0b30e5e4b5b8840a5ed9e0708aa3bbc28cd2cb3f7", checked := Tryz.checked }
namespace Rows
def none {H : Type} : Left H := { results := [], args := [] }

/-- 'electiontop.TopMargin': WHATEVER THE INPUT: true; the input reads as it did. -/
def topMarginSpec : ChangeSpec := { name := "topMargin", fn := fun _ => fun
  | [d1, d2] => { results := [.lit (.bool true)], args := [d1, d2] }
  | _ => none }
def topMarginRow : OpenClaim := { program := "ytaobaaaihgahfaagreat", sum := "22ca1594cf564de54270ecf0b30e5e4b5b8840a5ed9e0708aa3bbc28cd2cb3f7", func := "election/electiontop.TopMargin", spec := "topMargin", unfollowed := true, recurses := true, apart := false }
def TopMarginSaid : Prop := topMarginRow.holds Tryz.pinned (OpenSpec.ofChange topMarginSpec)

/-- ITS FALSE NEIGHBOUR: 'it returns false'. Refute it at one input. -/
def topMarginWrong : ChangeSpec := { name := "topMargin", fn := fun _ => fun
  | [d1, d2] => { results := [.lit (.bool false)], args := [d1, d2] }
  | _ => none }
def TopMarginWrongFalsely : Prop := topMarginRow.holds Tryz.pinned (OpenSpec.ofChange topMarginWrong)

/-- 'electiontop.TopMethods': WHATEVER THE INPUT: true; the input reads as it did. -/
def topMethodsSpec : ChangeSpec := { name := "topMethods", fn := fun _ => fun
  | [d1, d2, d3] => { results := [.lit (.bool true)], args := [d1, d2, d3] }
  | _ => none }
def topMethodsRow : OpenClaim := { program := "ytaobaaaihgahfaagreat", sum := "22ca1594cf564de54270ecf0b30e5e4b5b8840a5ed9e0708aa3bbc28cd2cb3f7", func := "election/electiontop.TopMethods", spec := "topMethods", unfollowed := true, recurses := true, apart := false }
def TopMethodsSaid : Prop := topMethodsRow.holds Tryz.pinned (OpenSpec.ofChange topMethodsSpec)

/-- ITS FALSE NEIGHBOUR: 'it returns false'. Refute it at one input. -/
def topMethodsWrong : ChangeSpec := { name := "topMethods", fn := fun _ => fun
  | [d1, d2, d3] => { results := [.lit (.bool false)], args := [d1, d2, d3] }
  | _ => none }
def TopMethodsWrongFalsely : Prop := topMethodsRow.holds Tryz.pinned (OpenSpec.ofChange topMethodsWrong)

/-- 'electiontop.TopNear': WHATEVER THE INPUT: true; the input reads as it did. -/
def topNearSpec : ChangeSpec := { name := "topNear", fn := fun _ => fun
  | [d] => { results := [.lit (.bool true)], args := [d] }
  | _ => none }
def topNearRow : OpenClaim := { program := "ytaobaaaihgahfaagreat", sum := "22ca1594cf564de54270ecf0b30e5e4b5b8840a5ed9e0708aa3bbc28cd2cb3f7", func := "election/electiontop.TopNear", spec := "topNear", unfollowed := true, recurses := true, apart := false }
def TopNearSaid : Prop := topNearRow.holds Tryz.pinned (OpenSpec.ofChange topNearSpec)

/-- ITS FALSE NEIGHBOUR: 'it returns false'. Refute it at one input. -/
def topNearWrong : ChangeSpec := { name := "topNear", fn := fun _ => fun
  | [d] => { results := [.lit (.bool false)], args := [d] }
  | _ => none }
def TopNearWrongFalsely : Prop := topNearRow.holds Tryz.pinned (OpenSpec.ofChange topNearWrong)

/- THE SECOND FORM. 'bulk': how many values and letters a reading holds, each counted each time it is reached (what is shared counts as often as it is met; a slice's spare places count too). A statement '..UptoSaid' is the law's where the arguments, and the package variables that the reading takes, are together of bulk at most 1048576: NARROWER than '..Said'. Prove '..Said' where nothing that the law and all that it calls make is longer than what came in: it says more and counts as full. Else prove '..UptoSaid'. A law counts once. -/
mutual
def uptoBulk {H : Type} : DataW H → Nat
  | .lit (.string bytes) => bytes.length + 1
  | .lit _ => 1
  | .nil => 1
  | .ptr d => uptoBulk d + 1
  | .slice elems spare => uptoBulkAll elems + uptoBulkAll spare + 1
  | .agg parts => uptoBulkAll parts + 1
  | .iface _ d => uptoBulk d + 1
  | .map entries => uptoBulkEntries entries + 1
  | .held _ => 1
def uptoBulkAll {H : Type} : List (DataW H) → Nat
  | [] => 0
  | d :: r => uptoBulk d + uptoBulkAll r
def uptoBulkEntries {H : Type} : List (Lit × DataW H) → Nat
  | [] => 0
  | x :: r => uptoBulkEntry x + uptoBulkEntries r
def uptoBulkEntry {H : Type} : Lit × DataW H → Nat
  | (.string bytes, d) => bytes.length + uptoBulk d + 1
  | (_, d) => uptoBulk d + 1
 end
def uptoSmall : (H : Type) → List (DataW H) → Bool := fun _ ds => decide (uptoBulkAll ds ≤ 1048576)
def OpenSpec.upto (s : _root_.Go.ChangeSpec) : _root_.Go.OpenSpec := { _root_.Go.OpenSpec.ofChange s with cond := some uptoSmall }

/-- 'electiontop.TopMargin', WHERE WHAT IT READS IS OF BULK AT MOST 1048576: true; the input reads as it did. -/
def topMarginUptoRow : OpenClaim := { program := "ytaobaaaihgahfaagreat", sum := "22ca1594cf564de54270ecf0b30e5e4b5b8840a5ed9e0708aa3bbc28cd2cb3f7", func := "election/electiontop.TopMargin", spec := "topMargin", unfollowed := true, recurses := true, apart := false, narrowed := true }
def TopMarginUptoSaid : Prop := topMarginUptoRow.holds Tryz.pinned (OpenSpec.upto topMarginSpec)

/-- 'electiontop.TopMethods', WHERE WHAT IT READS IS OF BULK AT MOST 1048576: true; the input reads as it did. -/
def topMethodsUptoRow : OpenClaim := { program := "ytaobaaaihgahfaagreat", sum := "22ca1594cf564de54270ecf0b30e5e4b5b8840a5ed9e0708aa3bbc28cd2cb3f7", func := "election/electiontop.TopMethods", spec := "topMethods", unfollowed := true, recurses := true, apart := false, narrowed := true }
def TopMethodsUptoSaid : Prop := topMethodsUptoRow.holds Tryz.pinned (OpenSpec.upto topMethodsSpec)

/-- 'electiontop.TopNear', WHERE WHAT IT READS IS OF BULK AT MOST 1048576: true; the input reads as it did. -/
def topNearUptoRow : OpenClaim := { program := "ytaobaaaihgahfaagreat", sum := "22ca1594cf564de54270ecf0b30e5e4b5b8840a5ed9e0708aa3bbc28cd2cb3f7", func := "election/electiontop.TopNear", spec := "topNear", unfollowed := true, recurses := true, apart := false, narrowed := true }
def TopNearUptoSaid : Prop := topNearUptoRow.holds Tryz.pinned (OpenSpec.upto topNearSpec)

end Rows
end Go.Proofs.YtaobaaaihgahfaaGreat
