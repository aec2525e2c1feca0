/-
  DERIVED. GIVEN WITH THE SEED: THE CARDS: each row of YtmacnamgjjglmaaDoorRows.lean that lists a variable, with what it lists TIED to the program's text (the seventh form; the later family's looks); each row that meets fmt, with fmt's text TOLD by the authors' own Lean function (tested against real Go, not proved from fmt's source: count such statements apart). THE CARD IS WHAT COUNTS. Prove the row's statement (the work); the ties are given (YtmacnamgjjglmaaDoorTie.lean); close each card by the builder's one call (the guide's Derived/Test/ToyasCard.lean, 'card_holds'). Laid BY PROGRAM, IN A SANDBOX (cutbox-door.mjs). By AI agents, Wed Nov 11 2026. No macro, syntax, notation, axiom, sorry.
-/
import Derived.Test.YtmacnamgjjglmaaDoorRows
import GoSem.ClaimSeven
namespace Go.Proofs.YtmacnamgjjglmaaDoor
namespace Rows

/-- THE TIED CARD OF 'electionlaw04.DigestSum'. -/
def digestSumCard : Claim7 := { stood := { row := digestSumRow, standIns := [], harness := (true, "bb1f5cbb7c7b841ccf21ddc3eb91cbc70e1c90f812979b9523bef4792b5be137"), looks := false }, kinds := [], alts := [], laidByText := true, laidKinds := [.data, .data], laidTests := true, laidLooks := .later }
def DigestSumCardSaid : Prop := Claim7.holds Tryd.pinned (.plain (OpenSpec.ofChange digestSumSpec)) digestSumCard

/-- THE TIED CARD OF 'electionlaw04.DigestParts'. -/
def digestPartsCard : Claim7 := { stood := { row := digestPartsRow, standIns := [], harness := (true, "bb1f5cbb7c7b841ccf21ddc3eb91cbc70e1c90f812979b9523bef4792b5be137"), looks := false }, kinds := [], alts := [], laidByText := true, laidKinds := [.data], laidTests := true, laidLooks := .later }
def DigestPartsCardSaid : Prop := Claim7.holds Tryd.pinned (.plain (OpenSpec.ofChange digestPartsSpec)) digestPartsCard

/-- THE TIED CARD OF 'electionlaw04.DigestKnown'. -/
def digestKnownCard : Claim7 := { stood := { row := digestKnownRow, standIns := [], harness := (true, "bb1f5cbb7c7b841ccf21ddc3eb91cbc70e1c90f812979b9523bef4792b5be137"), looks := false }, kinds := [], alts := [], laidByText := true, laidKinds := [.data], laidTests := true, laidLooks := .later }
def DigestKnownCardSaid : Prop := Claim7.holds Tryd.pinned (.plain (OpenSpec.ofChange digestKnownSpec)) digestKnownCard

/-- THE TIED CARD OF 'electionlaw04.DigestJoin'. -/
def digestJoinCard : Claim7 := { stood := { row := digestJoinRow, standIns := [], harness := (true, "bb1f5cbb7c7b841ccf21ddc3eb91cbc70e1c90f812979b9523bef4792b5be137"), looks := false }, kinds := [], alts := [], laidByText := true, laidKinds := [.data, .data], laidTests := true, laidLooks := .later }
def DigestJoinCardSaid : Prop := Claim7.holds Tryd.pinned (.plain (OpenSpec.ofChange digestJoinSpec)) digestJoinCard

/-- THE TIED CARD OF 'electionlaw04.DigestText'. -/
def digestTextCard : Claim7 := { stood := { row := digestTextRow, standIns := [], harness := (true, "bb1f5cbb7c7b841ccf21ddc3eb91cbc70e1c90f812979b9523bef4792b5be137"), looks := false }, kinds := [], alts := [], laidByText := true, laidKinds := [.data], laidTests := true, laidLooks := .later }
def DigestTextCardSaid : Prop := Claim7.holds Tryd.pinned (.plain (OpenSpec.ofChange digestTextSpec)) digestTextCard

/-- THE TIED CARD OF 'electionlaw04.DigestParse'. -/
def digestParseCard : Claim7 := { stood := { row := digestParseRow, standIns := [], harness := (true, "bb1f5cbb7c7b841ccf21ddc3eb91cbc70e1c90f812979b9523bef4792b5be137"), looks := false }, kinds := [], alts := [], laidByText := true, laidKinds := [.data], laidTests := true, laidLooks := .later }
def DigestParseCardSaid : Prop := Claim7.holds Tryd.pinned (.plain (OpenSpec.ofChange digestParseSpec)) digestParseCard

/-- THE TIED CARD OF 'electionlaw05.RandomScript'. -/
def randomScriptCard : Claim7 := { stood := { row := randomScriptRow, standIns := [], harness := (true, "bb1f5cbb7c7b841ccf21ddc3eb91cbc70e1c90f812979b9523bef4792b5be137"), looks := false }, kinds := [], alts := [], laidByText := true, laidKinds := [.data, .data], laidTests := true, laidLooks := .later }
def RandomScriptCardSaid : Prop := Claim7.holds Tryd.pinned (.plain (OpenSpec.ofChange randomScriptSpec)) randomScriptCard

/-- THE TIED CARD OF 'electionlaw05.RandomPerm'. -/
def randomPermCard : Claim7 := { stood := { row := randomPermRow, standIns := [], harness := (true, "bb1f5cbb7c7b841ccf21ddc3eb91cbc70e1c90f812979b9523bef4792b5be137"), looks := false }, kinds := [], alts := [], laidByText := true, laidKinds := [.data, .data], laidTests := true, laidLooks := .later }
def RandomPermCardSaid : Prop := Claim7.holds Tryd.pinned (.plain (OpenSpec.ofChange randomPermSpec)) randomPermCard

/-- THE TIED CARD OF 'electionlaw05.RandomBelow'. -/
def randomBelowCard : Claim7 := { stood := { row := randomBelowRow, standIns := [], harness := (true, "bb1f5cbb7c7b841ccf21ddc3eb91cbc70e1c90f812979b9523bef4792b5be137"), looks := false }, kinds := [], alts := [], laidByText := true, laidKinds := [.data, .data], laidTests := true, laidLooks := .later }
def RandomBelowCardSaid : Prop := Claim7.holds Tryd.pinned (.plain (OpenSpec.ofChange randomBelowSpec)) randomBelowCard

/-- THE TIED CARD OF 'electionlaw05.RandomOrder'. -/
def randomOrderCard : Claim7 := { stood := { row := randomOrderRow, standIns := [], harness := (true, "bb1f5cbb7c7b841ccf21ddc3eb91cbc70e1c90f812979b9523bef4792b5be137"), looks := false }, kinds := [], alts := [], laidByText := true, laidKinds := [.data, .data], laidTests := true, laidLooks := .later }
def RandomOrderCardSaid : Prop := Claim7.holds Tryd.pinned (.plain (OpenSpec.ofChange randomOrderSpec)) randomOrderCard

/-- THE TIED CARD OF 'electionlaw05.RandomApart'. -/
def randomApartCard : Claim7 := { stood := { row := randomApartRow, standIns := [], harness := (true, "bb1f5cbb7c7b841ccf21ddc3eb91cbc70e1c90f812979b9523bef4792b5be137"), looks := false }, kinds := [], alts := [], laidByText := true, laidKinds := [.data, .data], laidTests := true, laidLooks := .later }
def RandomApartCardSaid : Prop := Claim7.holds Tryd.pinned (.plain (OpenSpec.ofChange randomApartSpec)) randomApartCard

/-- THE TIED CARD OF 'electionlaw05.RandomNone'. -/
def randomNoneCard : Claim7 := { stood := { row := randomNoneRow, standIns := [], harness := (true, "bb1f5cbb7c7b841ccf21ddc3eb91cbc70e1c90f812979b9523bef4792b5be137"), looks := false }, kinds := [], alts := [], laidByText := true, laidKinds := [.data, .data], laidTests := true, laidLooks := .later }
def RandomNoneCardSaid : Prop := Claim7.holds Tryd.pinned (.plain (OpenSpec.ofChange randomNoneSpec)) randomNoneCard

/-- THE SECOND FORM's CARD OF 'electionlaw04.DigestSum'. -/
def digestSumUptoCard : Claim7 := { stood := { row := digestSumUptoRow, standIns := [], harness := (true, "bb1f5cbb7c7b841ccf21ddc3eb91cbc70e1c90f812979b9523bef4792b5be137"), looks := false }, kinds := [], alts := [], laidByText := true, laidKinds := [.data, .data], laidTests := true, laidLooks := .later }
def DigestSumUptoCardSaid : Prop := Claim7.holds Tryd.pinned (.plain (OpenSpec.upto digestSumSpec)) digestSumUptoCard

/-- THE SECOND FORM's CARD OF 'electionlaw04.DigestParts'. -/
def digestPartsUptoCard : Claim7 := { stood := { row := digestPartsUptoRow, standIns := [], harness := (true, "bb1f5cbb7c7b841ccf21ddc3eb91cbc70e1c90f812979b9523bef4792b5be137"), looks := false }, kinds := [], alts := [], laidByText := true, laidKinds := [.data], laidTests := true, laidLooks := .later }
def DigestPartsUptoCardSaid : Prop := Claim7.holds Tryd.pinned (.plain (OpenSpec.upto digestPartsSpec)) digestPartsUptoCard

/-- THE SECOND FORM's CARD OF 'electionlaw04.DigestKnown'. -/
def digestKnownUptoCard : Claim7 := { stood := { row := digestKnownUptoRow, standIns := [], harness := (true, "bb1f5cbb7c7b841ccf21ddc3eb91cbc70e1c90f812979b9523bef4792b5be137"), looks := false }, kinds := [], alts := [], laidByText := true, laidKinds := [.data], laidTests := true, laidLooks := .later }
def DigestKnownUptoCardSaid : Prop := Claim7.holds Tryd.pinned (.plain (OpenSpec.upto digestKnownSpec)) digestKnownUptoCard

/-- THE SECOND FORM's CARD OF 'electionlaw04.DigestJoin'. -/
def digestJoinUptoCard : Claim7 := { stood := { row := digestJoinUptoRow, standIns := [], harness := (true, "bb1f5cbb7c7b841ccf21ddc3eb91cbc70e1c90f812979b9523bef4792b5be137"), looks := false }, kinds := [], alts := [], laidByText := true, laidKinds := [.data, .data], laidTests := true, laidLooks := .later }
def DigestJoinUptoCardSaid : Prop := Claim7.holds Tryd.pinned (.plain (OpenSpec.upto digestJoinSpec)) digestJoinUptoCard

/-- THE SECOND FORM's CARD OF 'electionlaw04.DigestText'. -/
def digestTextUptoCard : Claim7 := { stood := { row := digestTextUptoRow, standIns := [], harness := (true, "bb1f5cbb7c7b841ccf21ddc3eb91cbc70e1c90f812979b9523bef4792b5be137"), looks := false }, kinds := [], alts := [], laidByText := true, laidKinds := [.data], laidTests := true, laidLooks := .later }
def DigestTextUptoCardSaid : Prop := Claim7.holds Tryd.pinned (.plain (OpenSpec.upto digestTextSpec)) digestTextUptoCard

/-- THE SECOND FORM's CARD OF 'electionlaw04.DigestParse'. -/
def digestParseUptoCard : Claim7 := { stood := { row := digestParseUptoRow, standIns := [], harness := (true, "bb1f5cbb7c7b841ccf21ddc3eb91cbc70e1c90f812979b9523bef4792b5be137"), looks := false }, kinds := [], alts := [], laidByText := true, laidKinds := [.data], laidTests := true, laidLooks := .later }
def DigestParseUptoCardSaid : Prop := Claim7.holds Tryd.pinned (.plain (OpenSpec.upto digestParseSpec)) digestParseUptoCard

/-- THE SECOND FORM's CARD OF 'electionlaw05.RandomScript'. -/
def randomScriptUptoCard : Claim7 := { stood := { row := randomScriptUptoRow, standIns := [], harness := (true, "bb1f5cbb7c7b841ccf21ddc3eb91cbc70e1c90f812979b9523bef4792b5be137"), looks := false }, kinds := [], alts := [], laidByText := true, laidKinds := [.data, .data], laidTests := true, laidLooks := .later }
def RandomScriptUptoCardSaid : Prop := Claim7.holds Tryd.pinned (.plain (OpenSpec.upto randomScriptSpec)) randomScriptUptoCard

/-- THE SECOND FORM's CARD OF 'electionlaw05.RandomPerm'. -/
def randomPermUptoCard : Claim7 := { stood := { row := randomPermUptoRow, standIns := [], harness := (true, "bb1f5cbb7c7b841ccf21ddc3eb91cbc70e1c90f812979b9523bef4792b5be137"), looks := false }, kinds := [], alts := [], laidByText := true, laidKinds := [.data, .data], laidTests := true, laidLooks := .later }
def RandomPermUptoCardSaid : Prop := Claim7.holds Tryd.pinned (.plain (OpenSpec.upto randomPermSpec)) randomPermUptoCard

/-- THE SECOND FORM's CARD OF 'electionlaw05.RandomBelow'. -/
def randomBelowUptoCard : Claim7 := { stood := { row := randomBelowUptoRow, standIns := [], harness := (true, "bb1f5cbb7c7b841ccf21ddc3eb91cbc70e1c90f812979b9523bef4792b5be137"), looks := false }, kinds := [], alts := [], laidByText := true, laidKinds := [.data, .data], laidTests := true, laidLooks := .later }
def RandomBelowUptoCardSaid : Prop := Claim7.holds Tryd.pinned (.plain (OpenSpec.upto randomBelowSpec)) randomBelowUptoCard

/-- THE SECOND FORM's CARD OF 'electionlaw05.RandomOrder'. -/
def randomOrderUptoCard : Claim7 := { stood := { row := randomOrderUptoRow, standIns := [], harness := (true, "bb1f5cbb7c7b841ccf21ddc3eb91cbc70e1c90f812979b9523bef4792b5be137"), looks := false }, kinds := [], alts := [], laidByText := true, laidKinds := [.data, .data], laidTests := true, laidLooks := .later }
def RandomOrderUptoCardSaid : Prop := Claim7.holds Tryd.pinned (.plain (OpenSpec.upto randomOrderSpec)) randomOrderUptoCard

/-- THE SECOND FORM's CARD OF 'electionlaw05.RandomApart'. -/
def randomApartUptoCard : Claim7 := { stood := { row := randomApartUptoRow, standIns := [], harness := (true, "bb1f5cbb7c7b841ccf21ddc3eb91cbc70e1c90f812979b9523bef4792b5be137"), looks := false }, kinds := [], alts := [], laidByText := true, laidKinds := [.data, .data], laidTests := true, laidLooks := .later }
def RandomApartUptoCardSaid : Prop := Claim7.holds Tryd.pinned (.plain (OpenSpec.upto randomApartSpec)) randomApartUptoCard

/-- THE SECOND FORM's CARD OF 'electionlaw05.RandomNone'. -/
def randomNoneUptoCard : Claim7 := { stood := { row := randomNoneUptoRow, standIns := [], harness := (true, "bb1f5cbb7c7b841ccf21ddc3eb91cbc70e1c90f812979b9523bef4792b5be137"), looks := false }, kinds := [], alts := [], laidByText := true, laidKinds := [.data, .data], laidTests := true, laidLooks := .later }
def RandomNoneUptoCardSaid : Prop := Claim7.holds Tryd.pinned (.plain (OpenSpec.upto randomNoneSpec)) randomNoneUptoCard
end Rows
end Go.Proofs.YtmacnamgjjglmaaDoor
