/-
  DERIVED. GIVEN WITH THE SEED: THE CARDS: each row of YtobihnkmmlkccaaDoorRows.lean that lists a variable, with what it lists TIED to the program's text (the seventh form; the later family's looks); each row that meets fmt, with fmt's text TOLD by the authors' own Lean function (tested against real Go, not proved from fmt's source: count such statements apart). THE CARD IS WHAT COUNTS. Prove the row's statement (the work); the ties are given (YtobihnkmmlkccaaDoorTie.lean); close each card by the builder's one call (the guide's Derived/Test/ToyasCard.lean, 'card_holds'). Laid BY PROGRAM, IN A SANDBOX (cutbox-door.mjs). By AI agents, Wed Nov 11 2026. No macro, syntax, notation, axiom, sorry.
-/
import Derived.Test.YtobihnkmmlkccaaDoorRows
import GoSem.ClaimSeven
namespace Go.Proofs.YtobihnkmmlkccaaDoor
namespace Rows

/-- THE TIED CARD OF 'electionlaw17.ScatterPlaces'. -/
def scatterPlacesCard : Claim7 := { stood := { row := scatterPlacesRow, standIns := [], harness := (true, "af357cbaf22eabec6fbe613664ad042ccb71063fea153809a93e4d9311340c35"), looks := false }, kinds := [], alts := [], laidByText := true, laidKinds := [.data, .data, .data, .data, .data], laidTests := true, laidLooks := .later }
def ScatterPlacesCardSaid : Prop := Claim7.holds Tryd.pinned (.plain (OpenSpec.ofChange scatterPlacesSpec)) scatterPlacesCard

/-- THE TIED CARD OF 'electionlaw17.ScatterOnce'. -/
def scatterOnceCard : Claim7 := { stood := { row := scatterOnceRow, standIns := [], harness := (true, "af357cbaf22eabec6fbe613664ad042ccb71063fea153809a93e4d9311340c35"), looks := false }, kinds := [], alts := [], laidByText := true, laidKinds := [.data, .data, .data, .data], laidTests := true, laidLooks := .later }
def ScatterOnceCardSaid : Prop := Claim7.holds Tryd.pinned (.plain (OpenSpec.ofChange scatterOnceSpec)) scatterOnceCard

/-- THE TIED CARD OF 'electionlaw17.ScatterPlace'. -/
def scatterPlaceCard : Claim7 := { stood := { row := scatterPlaceRow, standIns := [], harness := (true, "af357cbaf22eabec6fbe613664ad042ccb71063fea153809a93e4d9311340c35"), looks := false }, kinds := [], alts := [], laidByText := true, laidKinds := [.data, .data, .data, .data, .data], laidTests := true, laidLooks := .later }
def ScatterPlaceCardSaid : Prop := Claim7.holds Tryd.pinned (.plain (OpenSpec.ofChange scatterPlaceSpec)) scatterPlaceCard

/-- THE SECOND FORM's CARD OF 'electionlaw17.ScatterPlaces'. -/
def scatterPlacesUptoCard : Claim7 := { stood := { row := scatterPlacesUptoRow, standIns := [], harness := (true, "af357cbaf22eabec6fbe613664ad042ccb71063fea153809a93e4d9311340c35"), looks := false }, kinds := [], alts := [], laidByText := true, laidKinds := [.data, .data, .data, .data, .data], laidTests := true, laidLooks := .later }
def ScatterPlacesUptoCardSaid : Prop := Claim7.holds Tryd.pinned (.plain (OpenSpec.upto scatterPlacesSpec)) scatterPlacesUptoCard

/-- THE SECOND FORM's CARD OF 'electionlaw17.ScatterOnce'. -/
def scatterOnceUptoCard : Claim7 := { stood := { row := scatterOnceUptoRow, standIns := [], harness := (true, "af357cbaf22eabec6fbe613664ad042ccb71063fea153809a93e4d9311340c35"), looks := false }, kinds := [], alts := [], laidByText := true, laidKinds := [.data, .data, .data, .data], laidTests := true, laidLooks := .later }
def ScatterOnceUptoCardSaid : Prop := Claim7.holds Tryd.pinned (.plain (OpenSpec.upto scatterOnceSpec)) scatterOnceUptoCard

/-- THE SECOND FORM's CARD OF 'electionlaw17.ScatterPlace'. -/
def scatterPlaceUptoCard : Claim7 := { stood := { row := scatterPlaceUptoRow, standIns := [], harness := (true, "af357cbaf22eabec6fbe613664ad042ccb71063fea153809a93e4d9311340c35"), looks := false }, kinds := [], alts := [], laidByText := true, laidKinds := [.data, .data, .data, .data, .data], laidTests := true, laidLooks := .later }
def ScatterPlaceUptoCardSaid : Prop := Claim7.holds Tryd.pinned (.plain (OpenSpec.upto scatterPlaceSpec)) scatterPlaceUptoCard
end Rows
end Go.Proofs.YtobihnkmmlkccaaDoor
