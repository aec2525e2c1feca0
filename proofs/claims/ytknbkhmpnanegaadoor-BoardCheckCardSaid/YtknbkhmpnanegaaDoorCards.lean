/-
  DERIVED. GIVEN WITH THE SEED: THE CARDS: each row of YtknbkhmpnanegaaDoorRows.lean that lists a variable, with what it lists TIED to the program's text (the seventh form; the later family's looks); each row that meets fmt, with fmt's text TOLD by the authors' own Lean function (tested against real Go, not proved from fmt's source: count such statements apart). THE CARD IS WHAT COUNTS. Prove the row's statement (the work); the ties are given (YtknbkhmpnanegaaDoorTie.lean); close each card by the builder's one call (the guide's Derived/Test/ToyasCard.lean, 'card_holds'). Laid BY PROGRAM, IN A SANDBOX (cutbox-door.mjs). By AI agents, Wed Nov 11 2026. No macro, syntax, notation, axiom, sorry.
-/
import Derived.Test.YtknbkhmpnanegaaDoorRows
import GoSem.ClaimSeven
namespace Go.Proofs.YtknbkhmpnanegaaDoor
namespace Rows

/-- THE TIED CARD OF 'electionlaw38.CommitTells'. -/
def commitTellsCard : Claim7 := { stood := { row := commitTellsRow, standIns := [], harness := (true, "112336ad9b769d80275a6a6e78d788145a8a83cf7da2eb3edb7fa8712c45fae3"), looks := false }, kinds := [], alts := [], laidByText := true, laidKinds := [.data, .data], laidTests := true, laidLooks := .later }
def CommitTellsCardSaid : Prop := Claim7.holds Tryd.pinned (.plain (OpenSpec.ofChange commitTellsSpec)) commitTellsCard

/-- THE TIED CARD OF 'electionlaw38.CommitFinds'. -/
def commitFindsCard : Claim7 := { stood := { row := commitFindsRow, standIns := [], harness := (true, "112336ad9b769d80275a6a6e78d788145a8a83cf7da2eb3edb7fa8712c45fae3"), looks := false }, kinds := [], alts := [], laidByText := true, laidKinds := [.data, .data], laidTests := true, laidLooks := .later }
def CommitFindsCardSaid : Prop := Claim7.holds Tryd.pinned (.plain (OpenSpec.ofChange commitFindsSpec)) commitFindsCard

/-- THE TIED CARD OF 'electionlaw23.BoardPost'. -/
def boardPostCard : Claim7 := { stood := { row := boardPostRow, standIns := [], harness := (true, "112336ad9b769d80275a6a6e78d788145a8a83cf7da2eb3edb7fa8712c45fae3"), looks := false }, kinds := [], alts := [], laidByText := true, laidKinds := [.data, .data], laidTests := true, laidLooks := .later }
def BoardPostCardSaid : Prop := Claim7.holds Tryd.pinned (.plain (OpenSpec.ofChange boardPostSpec)) boardPostCard

/-- THE TIED CARD OF 'electionlaw23.BoardHash'. -/
def boardHashCard : Claim7 := { stood := { row := boardHashRow, standIns := [], harness := (true, "112336ad9b769d80275a6a6e78d788145a8a83cf7da2eb3edb7fa8712c45fae3"), looks := false }, kinds := [], alts := [], laidByText := true, laidKinds := [.data, .data], laidTests := true, laidLooks := .later }
def BoardHashCardSaid : Prop := Claim7.holds Tryd.pinned (.plain (OpenSpec.ofChange boardHashSpec)) boardHashCard

/-- THE TIED CARD OF 'electionlaw23.BoardCheck'. -/
def boardCheckCard : Claim7 := { stood := { row := boardCheckRow, standIns := [], harness := (true, "112336ad9b769d80275a6a6e78d788145a8a83cf7da2eb3edb7fa8712c45fae3"), looks := false }, kinds := [], alts := [], laidByText := true, laidKinds := [.data, .data], laidTests := true, laidLooks := .later }
def BoardCheckCardSaid : Prop := Claim7.holds Tryd.pinned (.plain (OpenSpec.ofChange boardCheckSpec)) boardCheckCard

/-- THE TIED CARD OF 'electionlaw23.BoardOther'. -/
def boardOtherCard : Claim7 := { stood := { row := boardOtherRow, standIns := [], harness := (true, "112336ad9b769d80275a6a6e78d788145a8a83cf7da2eb3edb7fa8712c45fae3"), looks := false }, kinds := [], alts := [], laidByText := true, laidKinds := [.data, .data], laidTests := true, laidLooks := .later }
def BoardOtherCardSaid : Prop := Claim7.holds Tryd.pinned (.plain (OpenSpec.ofChange boardOtherSpec)) boardOtherCard

/-- THE TIED CARD OF 'electionlaw23.BoardOwn'. -/
def boardOwnCard : Claim7 := { stood := { row := boardOwnRow, standIns := [], harness := (true, "112336ad9b769d80275a6a6e78d788145a8a83cf7da2eb3edb7fa8712c45fae3"), looks := false }, kinds := [], alts := [], laidByText := true, laidKinds := [.data], laidTests := true, laidLooks := .later }
def BoardOwnCardSaid : Prop := Claim7.holds Tryd.pinned (.plain (OpenSpec.ofChange boardOwnSpec)) boardOwnCard

/-- THE TIED CARD OF 'electionlaw23.BoardRoot'. -/
def boardRootCard : Claim7 := { stood := { row := boardRootRow, standIns := [], harness := (true, "112336ad9b769d80275a6a6e78d788145a8a83cf7da2eb3edb7fa8712c45fae3"), looks := false }, kinds := [], alts := [], laidByText := true, laidKinds := [.data, .data], laidTests := true, laidLooks := .later }
def BoardRootCardSaid : Prop := Claim7.holds Tryd.pinned (.plain (OpenSpec.ofChange boardRootSpec)) boardRootCard

/-- THE TIED CARD OF 'electionlaw23.BoardChecks'. -/
def boardChecksCard : Claim7 := { stood := { row := boardChecksRow, standIns := [], harness := (true, "112336ad9b769d80275a6a6e78d788145a8a83cf7da2eb3edb7fa8712c45fae3"), looks := false }, kinds := [], alts := [], laidByText := true, laidKinds := [.data, .data], laidTests := true, laidLooks := .later }
def BoardChecksCardSaid : Prop := Claim7.holds Tryd.pinned (.plain (OpenSpec.ofChange boardChecksSpec)) boardChecksCard

/-- THE TIED CARD OF 'electionlaw23.BoardProof'. -/
def boardProofCard : Claim7 := { stood := { row := boardProofRow, standIns := [], harness := (true, "112336ad9b769d80275a6a6e78d788145a8a83cf7da2eb3edb7fa8712c45fae3"), looks := false }, kinds := [], alts := [], laidByText := true, laidKinds := [.data, .data], laidTests := true, laidLooks := .later }
def BoardProofCardSaid : Prop := Claim7.holds Tryd.pinned (.plain (OpenSpec.ofChange boardProofSpec)) boardProofCard

/-- THE SECOND FORM's CARD OF 'electionlaw38.CommitTells'. -/
def commitTellsUptoCard : Claim7 := { stood := { row := commitTellsUptoRow, standIns := [], harness := (true, "112336ad9b769d80275a6a6e78d788145a8a83cf7da2eb3edb7fa8712c45fae3"), looks := false }, kinds := [], alts := [], laidByText := true, laidKinds := [.data, .data], laidTests := true, laidLooks := .later }
def CommitTellsUptoCardSaid : Prop := Claim7.holds Tryd.pinned (.plain (OpenSpec.upto commitTellsSpec)) commitTellsUptoCard

/-- THE SECOND FORM's CARD OF 'electionlaw38.CommitFinds'. -/
def commitFindsUptoCard : Claim7 := { stood := { row := commitFindsUptoRow, standIns := [], harness := (true, "112336ad9b769d80275a6a6e78d788145a8a83cf7da2eb3edb7fa8712c45fae3"), looks := false }, kinds := [], alts := [], laidByText := true, laidKinds := [.data, .data], laidTests := true, laidLooks := .later }
def CommitFindsUptoCardSaid : Prop := Claim7.holds Tryd.pinned (.plain (OpenSpec.upto commitFindsSpec)) commitFindsUptoCard

/-- THE SECOND FORM's CARD OF 'electionlaw23.BoardPost'. -/
def boardPostUptoCard : Claim7 := { stood := { row := boardPostUptoRow, standIns := [], harness := (true, "112336ad9b769d80275a6a6e78d788145a8a83cf7da2eb3edb7fa8712c45fae3"), looks := false }, kinds := [], alts := [], laidByText := true, laidKinds := [.data, .data], laidTests := true, laidLooks := .later }
def BoardPostUptoCardSaid : Prop := Claim7.holds Tryd.pinned (.plain (OpenSpec.upto boardPostSpec)) boardPostUptoCard

/-- THE SECOND FORM's CARD OF 'electionlaw23.BoardHash'. -/
def boardHashUptoCard : Claim7 := { stood := { row := boardHashUptoRow, standIns := [], harness := (true, "112336ad9b769d80275a6a6e78d788145a8a83cf7da2eb3edb7fa8712c45fae3"), looks := false }, kinds := [], alts := [], laidByText := true, laidKinds := [.data, .data], laidTests := true, laidLooks := .later }
def BoardHashUptoCardSaid : Prop := Claim7.holds Tryd.pinned (.plain (OpenSpec.upto boardHashSpec)) boardHashUptoCard

/-- THE SECOND FORM's CARD OF 'electionlaw23.BoardCheck'. -/
def boardCheckUptoCard : Claim7 := { stood := { row := boardCheckUptoRow, standIns := [], harness := (true, "112336ad9b769d80275a6a6e78d788145a8a83cf7da2eb3edb7fa8712c45fae3"), looks := false }, kinds := [], alts := [], laidByText := true, laidKinds := [.data, .data], laidTests := true, laidLooks := .later }
def BoardCheckUptoCardSaid : Prop := Claim7.holds Tryd.pinned (.plain (OpenSpec.upto boardCheckSpec)) boardCheckUptoCard

/-- THE SECOND FORM's CARD OF 'electionlaw23.BoardOther'. -/
def boardOtherUptoCard : Claim7 := { stood := { row := boardOtherUptoRow, standIns := [], harness := (true, "112336ad9b769d80275a6a6e78d788145a8a83cf7da2eb3edb7fa8712c45fae3"), looks := false }, kinds := [], alts := [], laidByText := true, laidKinds := [.data, .data], laidTests := true, laidLooks := .later }
def BoardOtherUptoCardSaid : Prop := Claim7.holds Tryd.pinned (.plain (OpenSpec.upto boardOtherSpec)) boardOtherUptoCard

/-- THE SECOND FORM's CARD OF 'electionlaw23.BoardOwn'. -/
def boardOwnUptoCard : Claim7 := { stood := { row := boardOwnUptoRow, standIns := [], harness := (true, "112336ad9b769d80275a6a6e78d788145a8a83cf7da2eb3edb7fa8712c45fae3"), looks := false }, kinds := [], alts := [], laidByText := true, laidKinds := [.data], laidTests := true, laidLooks := .later }
def BoardOwnUptoCardSaid : Prop := Claim7.holds Tryd.pinned (.plain (OpenSpec.upto boardOwnSpec)) boardOwnUptoCard

/-- THE SECOND FORM's CARD OF 'electionlaw23.BoardRoot'. -/
def boardRootUptoCard : Claim7 := { stood := { row := boardRootUptoRow, standIns := [], harness := (true, "112336ad9b769d80275a6a6e78d788145a8a83cf7da2eb3edb7fa8712c45fae3"), looks := false }, kinds := [], alts := [], laidByText := true, laidKinds := [.data, .data], laidTests := true, laidLooks := .later }
def BoardRootUptoCardSaid : Prop := Claim7.holds Tryd.pinned (.plain (OpenSpec.upto boardRootSpec)) boardRootUptoCard

/-- THE SECOND FORM's CARD OF 'electionlaw23.BoardChecks'. -/
def boardChecksUptoCard : Claim7 := { stood := { row := boardChecksUptoRow, standIns := [], harness := (true, "112336ad9b769d80275a6a6e78d788145a8a83cf7da2eb3edb7fa8712c45fae3"), looks := false }, kinds := [], alts := [], laidByText := true, laidKinds := [.data, .data], laidTests := true, laidLooks := .later }
def BoardChecksUptoCardSaid : Prop := Claim7.holds Tryd.pinned (.plain (OpenSpec.upto boardChecksSpec)) boardChecksUptoCard

/-- THE SECOND FORM's CARD OF 'electionlaw23.BoardProof'. -/
def boardProofUptoCard : Claim7 := { stood := { row := boardProofUptoRow, standIns := [], harness := (true, "112336ad9b769d80275a6a6e78d788145a8a83cf7da2eb3edb7fa8712c45fae3"), looks := false }, kinds := [], alts := [], laidByText := true, laidKinds := [.data, .data], laidTests := true, laidLooks := .later }
def BoardProofUptoCardSaid : Prop := Claim7.holds Tryd.pinned (.plain (OpenSpec.upto boardProofSpec)) boardProofUptoCard
end Rows
end Go.Proofs.YtknbkhmpnanegaaDoor
