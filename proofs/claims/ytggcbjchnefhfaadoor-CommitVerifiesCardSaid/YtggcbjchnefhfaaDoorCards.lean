/-
  DERIVED. GIVEN WITH THE SEED: THE CARDS: each row of YtggcbjchnefhfaaDoorRows.lean that lists a variable, with what it lists TIED to the program's text (the seventh form; the later family's looks); each row that meets fmt, with fmt's text TOLD by the authors' own Lean function (tested against real Go, not proved from fmt's source: count such statements apart). THE CARD IS WHAT COUNTS. Prove the row's statement (the work); the ties are given (YtggcbjchnefhfaaDoorTie.lean); close each card by the builder's one call (the guide's Derived/Test/ToyasCard.lean, 'card_holds'). Laid BY PROGRAM, IN A SANDBOX (cutbox-door.mjs). By AI agents, Wed Nov 11 2026. No macro, syntax, notation, axiom, sorry.
-/
import Derived.Test.YtggcbjchnefhfaaDoorRows
import GoSem.ClaimSeven
namespace Go.Proofs.YtggcbjchnefhfaaDoor
namespace Rows

/-- THE TIED CARD OF 'electionlaw38.CommitOrder'. -/
def commitOrderCard : Claim7 := { stood := { row := commitOrderRow, standIns := [], harness := (true, "b4d8942086378db69040d3abedcb14019b45ef31c464563d3c649bfa9154716b"), looks := false }, kinds := [], alts := [], laidByText := true, laidKinds := [.data, .data], laidTests := true, laidLooks := .later }
def CommitOrderCardSaid : Prop := Claim7.holds Tryd.pinned (.plain (OpenSpec.ofChange commitOrderSpec)) commitOrderCard

/-- THE TIED CARD OF 'electionlaw38.CommitList'. -/
def commitListCard : Claim7 := { stood := { row := commitListRow, standIns := [], harness := (true, "b4d8942086378db69040d3abedcb14019b45ef31c464563d3c649bfa9154716b"), looks := false }, kinds := [], alts := [], laidByText := true, laidKinds := [.data, .data], laidTests := true, laidLooks := .later }
def CommitListCardSaid : Prop := Claim7.holds Tryd.pinned (.plain (OpenSpec.ofChange commitListSpec)) commitListCard

/-- THE TIED CARD OF 'electionlaw38.CommitVerifies'. -/
def commitVerifiesCard : Claim7 := { stood := { row := commitVerifiesRow, standIns := [], harness := (true, "b4d8942086378db69040d3abedcb14019b45ef31c464563d3c649bfa9154716b"), looks := false }, kinds := [], alts := [], laidByText := true, laidKinds := [.data, .data], laidTests := true, laidLooks := .later }
def CommitVerifiesCardSaid : Prop := Claim7.holds Tryd.pinned (.plain (OpenSpec.ofChange commitVerifiesSpec)) commitVerifiesCard

/-- THE SECOND FORM's CARD OF 'electionlaw38.CommitOrder'. -/
def commitOrderUptoCard : Claim7 := { stood := { row := commitOrderUptoRow, standIns := [], harness := (true, "b4d8942086378db69040d3abedcb14019b45ef31c464563d3c649bfa9154716b"), looks := false }, kinds := [], alts := [], laidByText := true, laidKinds := [.data, .data], laidTests := true, laidLooks := .later }
def CommitOrderUptoCardSaid : Prop := Claim7.holds Tryd.pinned (.plain (OpenSpec.upto commitOrderSpec)) commitOrderUptoCard

/-- THE SECOND FORM's CARD OF 'electionlaw38.CommitList'. -/
def commitListUptoCard : Claim7 := { stood := { row := commitListUptoRow, standIns := [], harness := (true, "b4d8942086378db69040d3abedcb14019b45ef31c464563d3c649bfa9154716b"), looks := false }, kinds := [], alts := [], laidByText := true, laidKinds := [.data, .data], laidTests := true, laidLooks := .later }
def CommitListUptoCardSaid : Prop := Claim7.holds Tryd.pinned (.plain (OpenSpec.upto commitListSpec)) commitListUptoCard

/-- THE SECOND FORM's CARD OF 'electionlaw38.CommitVerifies'. -/
def commitVerifiesUptoCard : Claim7 := { stood := { row := commitVerifiesUptoRow, standIns := [], harness := (true, "b4d8942086378db69040d3abedcb14019b45ef31c464563d3c649bfa9154716b"), looks := false }, kinds := [], alts := [], laidByText := true, laidKinds := [.data, .data], laidTests := true, laidLooks := .later }
def CommitVerifiesUptoCardSaid : Prop := Claim7.holds Tryd.pinned (.plain (OpenSpec.upto commitVerifiesSpec)) commitVerifiesUptoCard
end Rows
end Go.Proofs.YtggcbjchnefhfaaDoor
