/-
  No cell of these rows narrows 'for every input' (looked for: loops, veiled, ifaces, maps, wideKeys, modest, calm, conditions, laid).
  DERIVED. THE GIVEN ROWS OF THIS SEAT. 9 by the template 'for every input the law returns true; each argument reads behind the call as it read before'; 0 by the template 'total and deterministic' (their statements: YtmigdhbolbhbeaaTotals.lean).
  GIVEN WITH THE SEED: the statements are not yours to turn. If you find one false, say at which input.
  Laid BY PROGRAM, IN A SANDBOX (cutbox-rows.mjs): the forced cells as the released guide's own fill.sh prints them over the translation 33683b33543f25da… (all of the seat's roots in one cut). By AI agents, Wed Nov 11 2026. No macro, syntax, notation, axiom, sorry.
-/
import Derived.Test.YtmigdhbolbhbeaaChecked
import GoSem.Claim
import GoSem.ClaimJoined
import GoSem.ClaimMapViews
import Derived.JoinedTies
import Derived.KernelRfl
namespace Go.Proofs.Ytmigdhbolbhbeaa
/- THE CELL 'sum', in the pinned program and in every row, IS THE sha256 OF THE DUMP (.gsa) THAT YtmigdhbolbhbeaaProg.lean LOADS. Nothing in Lean hashes anything: it is a label: what it is worth is what the hold of that sum in a sandbox is worth. -/
noncomputable def Try.pinned : Pinned := { name := "ytmigdhbolbhbeaa", sum := "33683b33543f25da59687845d22941bca9220997086fde8802bdeed6dac18aa3", checked := Try.checked }
namespace Rows
def none {H : Type} : Left H := { results := [], args := [] }

/-- 'electionlaw24.PileMakes': WHATEVER THE INPUT: true; the input reads as it did. -/
def pileMakesSpec : ChangeSpec := { name := "pileMakes", fn := fun _ => fun
  | [d1, d2, d3] => { results := [.lit (.bool true)], args := [d1, d2, d3] }
  | _ => none }
def pileMakesRow : OpenClaim := { program := "ytmigdhbolbhbeaa", sum := "33683b33543f25da59687845d22941bca9220997086fde8802bdeed6dac18aa3", func := "election/electionlaw24.PileMakes", spec := "pileMakes", unfollowed := true, recurses := true, apart := false }
def PileMakesSaid : Prop := pileMakesRow.holds Try.pinned (OpenSpec.ofChange pileMakesSpec)

/-- ITS FALSE NEIGHBOUR: 'it returns false'. Refute it at one input. -/
def pileMakesWrong : ChangeSpec := { name := "pileMakes", fn := fun _ => fun
  | [d1, d2, d3] => { results := [.lit (.bool false)], args := [d1, d2, d3] }
  | _ => none }
def PileMakesWrongFalsely : Prop := pileMakesRow.holds Try.pinned (OpenSpec.ofChange pileMakesWrong)

/-- 'electionlaw24.PileSums': WHATEVER THE INPUT: true; the input reads as it did. -/
def pileSumsSpec : ChangeSpec := { name := "pileSums", fn := fun _ => fun
  | [d1, d2, d3, d4, d5] => { results := [.lit (.bool true)], args := [d1, d2, d3, d4, d5] }
  | _ => none }
def pileSumsRow : OpenClaim := { program := "ytmigdhbolbhbeaa", sum := "33683b33543f25da59687845d22941bca9220997086fde8802bdeed6dac18aa3", func := "election/electionlaw24.PileSums", spec := "pileSums", unfollowed := true, recurses := true, apart := false }
def PileSumsSaid : Prop := pileSumsRow.holds Try.pinned (OpenSpec.ofChange pileSumsSpec)

/-- ITS FALSE NEIGHBOUR: 'it returns false'. Refute it at one input. -/
def pileSumsWrong : ChangeSpec := { name := "pileSums", fn := fun _ => fun
  | [d1, d2, d3, d4, d5] => { results := [.lit (.bool false)], args := [d1, d2, d3, d4, d5] }
  | _ => none }
def PileSumsWrongFalsely : Prop := pileSumsRow.holds Try.pinned (OpenSpec.ofChange pileSumsWrong)

/-- 'electionlaw24.PileCounts': WHATEVER THE INPUT: true; the input reads as it did. -/
def pileCountsSpec : ChangeSpec := { name := "pileCounts", fn := fun _ => fun
  | [d1, d2, d3, d4, d5, d6, d7] => { results := [.lit (.bool true)], args := [d1, d2, d3, d4, d5, d6, d7] }
  | _ => none }
def pileCountsRow : OpenClaim := { program := "ytmigdhbolbhbeaa", sum := "33683b33543f25da59687845d22941bca9220997086fde8802bdeed6dac18aa3", func := "election/electionlaw24.PileCounts", spec := "pileCounts", unfollowed := true, recurses := true, apart := false }
def PileCountsSaid : Prop := pileCountsRow.holds Try.pinned (OpenSpec.ofChange pileCountsSpec)

/-- ITS FALSE NEIGHBOUR: 'it returns false'. Refute it at one input. -/
def pileCountsWrong : ChangeSpec := { name := "pileCounts", fn := fun _ => fun
  | [d1, d2, d3, d4, d5, d6, d7] => { results := [.lit (.bool false)], args := [d1, d2, d3, d4, d5, d6, d7] }
  | _ => none }
def PileCountsWrongFalsely : Prop := pileCountsRow.holds Try.pinned (OpenSpec.ofChange pileCountsWrong)

/-- 'electionlaw24.PileBack': WHATEVER THE INPUT: true; the input reads as it did. -/
def pileBackSpec : ChangeSpec := { name := "pileBack", fn := fun _ => fun
  | [d1, d2] => { results := [.lit (.bool true)], args := [d1, d2] }
  | _ => none }
def pileBackRow : OpenClaim := { program := "ytmigdhbolbhbeaa", sum := "33683b33543f25da59687845d22941bca9220997086fde8802bdeed6dac18aa3", func := "election/electionlaw24.PileBack", spec := "pileBack", unfollowed := true, recurses := true, apart := false }
def PileBackSaid : Prop := pileBackRow.holds Try.pinned (OpenSpec.ofChange pileBackSpec)

/-- ITS FALSE NEIGHBOUR: 'it returns false'. Refute it at one input. -/
def pileBackWrong : ChangeSpec := { name := "pileBack", fn := fun _ => fun
  | [d1, d2] => { results := [.lit (.bool false)], args := [d1, d2] }
  | _ => none }
def PileBackWrongFalsely : Prop := pileBackRow.holds Try.pinned (OpenSpec.ofChange pileBackWrong)

/-- 'electionlaw24.PileJoins': WHATEVER THE INPUT: true; the input reads as it did. -/
def pileJoinsSpec : ChangeSpec := { name := "pileJoins", fn := fun _ => fun
  | [d1, d2, d3, d4, d5, d6] => { results := [.lit (.bool true)], args := [d1, d2, d3, d4, d5, d6] }
  | _ => none }
def pileJoinsRow : OpenClaim := { program := "ytmigdhbolbhbeaa", sum := "33683b33543f25da59687845d22941bca9220997086fde8802bdeed6dac18aa3", func := "election/electionlaw24.PileJoins", spec := "pileJoins", unfollowed := true, recurses := true, apart := false }
def PileJoinsSaid : Prop := pileJoinsRow.holds Try.pinned (OpenSpec.ofChange pileJoinsSpec)

/-- ITS FALSE NEIGHBOUR: 'it returns false'. Refute it at one input. -/
def pileJoinsWrong : ChangeSpec := { name := "pileJoins", fn := fun _ => fun
  | [d1, d2, d3, d4, d5, d6] => { results := [.lit (.bool false)], args := [d1, d2, d3, d4, d5, d6] }
  | _ => none }
def PileJoinsWrongFalsely : Prop := pileJoinsRow.holds Try.pinned (OpenSpec.ofChange pileJoinsWrong)

/-- 'electionlaw24.PileDistance': WHATEVER THE INPUT: true; the input reads as it did. -/
def pileDistanceSpec : ChangeSpec := { name := "pileDistance", fn := fun _ => fun
  | [d1, d2, d3, d4] => { results := [.lit (.bool true)], args := [d1, d2, d3, d4] }
  | _ => none }
def pileDistanceRow : OpenClaim := { program := "ytmigdhbolbhbeaa", sum := "33683b33543f25da59687845d22941bca9220997086fde8802bdeed6dac18aa3", func := "election/electionlaw24.PileDistance", spec := "pileDistance", unfollowed := true, recurses := true, apart := false }
def PileDistanceSaid : Prop := pileDistanceRow.holds Try.pinned (OpenSpec.ofChange pileDistanceSpec)

/-- ITS FALSE NEIGHBOUR: 'it returns false'. Refute it at one input. -/
def pileDistanceWrong : ChangeSpec := { name := "pileDistance", fn := fun _ => fun
  | [d1, d2, d3, d4] => { results := [.lit (.bool false)], args := [d1, d2, d3, d4] }
  | _ => none }
def PileDistanceWrongFalsely : Prop := pileDistanceRow.holds Try.pinned (OpenSpec.ofChange pileDistanceWrong)

/-- 'electionlaw24.PileReplaced': WHATEVER THE INPUT: true; the input reads as it did. -/
def pileReplacedSpec : ChangeSpec := { name := "pileReplaced", fn := fun _ => fun
  | [d1, d2, d3, d4] => { results := [.lit (.bool true)], args := [d1, d2, d3, d4] }
  | _ => none }
def pileReplacedRow : OpenClaim := { program := "ytmigdhbolbhbeaa", sum := "33683b33543f25da59687845d22941bca9220997086fde8802bdeed6dac18aa3", func := "election/electionlaw24.PileReplaced", spec := "pileReplaced", unfollowed := true, recurses := true, apart := false }
def PileReplacedSaid : Prop := pileReplacedRow.holds Try.pinned (OpenSpec.ofChange pileReplacedSpec)

/-- ITS FALSE NEIGHBOUR: 'it returns false'. Refute it at one input. -/
def pileReplacedWrong : ChangeSpec := { name := "pileReplaced", fn := fun _ => fun
  | [d1, d2, d3, d4] => { results := [.lit (.bool false)], args := [d1, d2, d3, d4] }
  | _ => none }
def PileReplacedWrongFalsely : Prop := pileReplacedRow.holds Try.pinned (OpenSpec.ofChange pileReplacedWrong)

/-- 'electionlaw24.PileFits': WHATEVER THE INPUT: true; the input reads as it did. -/
def pileFitsSpec : ChangeSpec := { name := "pileFits", fn := fun _ => fun
  | [d1, d2, d3, d4, d5, d6, d7, d8, d9] => { results := [.lit (.bool true)], args := [d1, d2, d3, d4, d5, d6, d7, d8, d9] }
  | _ => none }
def pileFitsRow : OpenClaim := { program := "ytmigdhbolbhbeaa", sum := "33683b33543f25da59687845d22941bca9220997086fde8802bdeed6dac18aa3", func := "election/electionlaw24.PileFits", spec := "pileFits", unfollowed := true, recurses := true, apart := false }
def PileFitsSaid : Prop := pileFitsRow.holds Try.pinned (OpenSpec.ofChange pileFitsSpec)

/-- ITS FALSE NEIGHBOUR: 'it returns false'. Refute it at one input. -/
def pileFitsWrong : ChangeSpec := { name := "pileFits", fn := fun _ => fun
  | [d1, d2, d3, d4, d5, d6, d7, d8, d9] => { results := [.lit (.bool false)], args := [d1, d2, d3, d4, d5, d6, d7, d8, d9] }
  | _ => none }
def PileFitsWrongFalsely : Prop := pileFitsRow.holds Try.pinned (OpenSpec.ofChange pileFitsWrong)

/-- 'electionlaw24.PileRestricts': WHATEVER THE INPUT: true; the input reads as it did. -/
def pileRestrictsSpec : ChangeSpec := { name := "pileRestricts", fn := fun _ => fun
  | [d1, d2, d3] => { results := [.lit (.bool true)], args := [d1, d2, d3] }
  | _ => none }
def pileRestrictsRow : OpenClaim := { program := "ytmigdhbolbhbeaa", sum := "33683b33543f25da59687845d22941bca9220997086fde8802bdeed6dac18aa3", func := "election/electionlaw24.PileRestricts", spec := "pileRestricts", unfollowed := true, recurses := true, apart := false }
def PileRestrictsSaid : Prop := pileRestrictsRow.holds Try.pinned (OpenSpec.ofChange pileRestrictsSpec)

/-- ITS FALSE NEIGHBOUR: 'it returns false'. Refute it at one input. -/
def pileRestrictsWrong : ChangeSpec := { name := "pileRestricts", fn := fun _ => fun
  | [d1, d2, d3] => { results := [.lit (.bool false)], args := [d1, d2, d3] }
  | _ => none }
def PileRestrictsWrongFalsely : Prop := pileRestrictsRow.holds Try.pinned (OpenSpec.ofChange pileRestrictsWrong)

/- THE SECOND FORM. 'bulk': how many values and letters a reading holds, each counted each time it is reached (what is shared counts as often as it is met; a slice's spare places count too). A statement '..UptoSaid' is the law's where the arguments, and the package variables that the reading takes, are together of bulk at most 1048576: NARROWER than '..Said'. Prove '..Said' where nothing that the law and all that it calls make is longer than what came in: it says more and counts as full. Else prove '..UptoSaid'. A law counts once. -/
mutual
def uptoBulk {H : Type} : DataW H → Nat
  | .lit (.string bytes) => bytes.length + 1
  | .lit _ => 1
  | .nil => 1
  | .ptr d => uptoBulk d + 1
  | .slice elems spare => uptoBulkAll elems + uptoBulkAll spare + 1
  | .agg parts => uptoBulkAll parts + 1
  | .iface _ d => uptoBulk d + 1
  | .map entries => uptoBulkEntries entries + 1
  | .held _ => 1
def uptoBulkAll {H : Type} : List (DataW H) → Nat
  | [] => 0
  | d :: r => uptoBulk d + uptoBulkAll r
def uptoBulkEntries {H : Type} : List (Lit × DataW H) → Nat
  | [] => 0
  | x :: r => uptoBulkEntry x + uptoBulkEntries r
def uptoBulkEntry {H : Type} : Lit × DataW H → Nat
  | (.string bytes, d) => bytes.length + uptoBulk d + 1
  | (_, d) => uptoBulk d + 1
 end
def uptoSmall : (H : Type) → List (DataW H) → Bool := fun _ ds => decide (uptoBulkAll ds ≤ 1048576)
def OpenSpec.upto (s : _root_.Go.ChangeSpec) : _root_.Go.OpenSpec := { _root_.Go.OpenSpec.ofChange s with cond := some uptoSmall }

/-- 'electionlaw24.PileMakes', WHERE WHAT IT READS IS OF BULK AT MOST 1048576: true; the input reads as it did. -/
def pileMakesUptoRow : OpenClaim := { program := "ytmigdhbolbhbeaa", sum := "33683b33543f25da59687845d22941bca9220997086fde8802bdeed6dac18aa3", func := "election/electionlaw24.PileMakes", spec := "pileMakes", unfollowed := true, recurses := true, apart := false, narrowed := true }
def PileMakesUptoSaid : Prop := pileMakesUptoRow.holds Try.pinned (OpenSpec.upto pileMakesSpec)

/-- 'electionlaw24.PileSums', WHERE WHAT IT READS IS OF BULK AT MOST 1048576: true; the input reads as it did. -/
def pileSumsUptoRow : OpenClaim := { program := "ytmigdhbolbhbeaa", sum := "33683b33543f25da59687845d22941bca9220997086fde8802bdeed6dac18aa3", func := "election/electionlaw24.PileSums", spec := "pileSums", unfollowed := true, recurses := true, apart := false, narrowed := true }
def PileSumsUptoSaid : Prop := pileSumsUptoRow.holds Try.pinned (OpenSpec.upto pileSumsSpec)

/-- 'electionlaw24.PileCounts', WHERE WHAT IT READS IS OF BULK AT MOST 1048576: true; the input reads as it did. -/
def pileCountsUptoRow : OpenClaim := { program := "ytmigdhbolbhbeaa", sum := "33683b33543f25da59687845d22941bca9220997086fde8802bdeed6dac18aa3", func := "election/electionlaw24.PileCounts", spec := "pileCounts", unfollowed := true, recurses := true, apart := false, narrowed := true }
def PileCountsUptoSaid : Prop := pileCountsUptoRow.holds Try.pinned (OpenSpec.upto pileCountsSpec)

/-- 'electionlaw24.PileBack', WHERE WHAT IT READS IS OF BULK AT MOST 1048576: true; the input reads as it did. -/
def pileBackUptoRow : OpenClaim := { program := "ytmigdhbolbhbeaa", sum := "33683b33543f25da59687845d22941bca9220997086fde8802bdeed6dac18aa3", func := "election/electionlaw24.PileBack", spec := "pileBack", unfollowed := true, recurses := true, apart := false, narrowed := true }
def PileBackUptoSaid : Prop := pileBackUptoRow.holds Try.pinned (OpenSpec.upto pileBackSpec)

/-- 'electionlaw24.PileJoins', WHERE WHAT IT READS IS OF BULK AT MOST 1048576: true; the input reads as it did. -/
def pileJoinsUptoRow : OpenClaim := { program := "ytmigdhbolbhbeaa", sum := "33683b33543f25da59687845d22941bca9220997086fde8802bdeed6dac18aa3", func := "election/electionlaw24.PileJoins", spec := "pileJoins", unfollowed := true, recurses := true, apart := false, narrowed := true }
def PileJoinsUptoSaid : Prop := pileJoinsUptoRow.holds Try.pinned (OpenSpec.upto pileJoinsSpec)

/-- 'electionlaw24.PileDistance', WHERE WHAT IT READS IS OF BULK AT MOST 1048576: true; the input reads as it did. -/
def pileDistanceUptoRow : OpenClaim := { program := "ytmigdhbolbhbeaa", sum := "33683b33543f25da59687845d22941bca9220997086fde8802bdeed6dac18aa3", func := "election/electionlaw24.PileDistance", spec := "pileDistance", unfollowed := true, recurses := true, apart := false, narrowed := true }
def PileDistanceUptoSaid : Prop := pileDistanceUptoRow.holds Try.pinned (OpenSpec.upto pileDistanceSpec)

/-- 'electionlaw24.PileReplaced', WHERE WHAT IT READS IS OF BULK AT MOST 1048576: true; the input reads as it did. -/
def pileReplacedUptoRow : OpenClaim := { program := "ytmigdhbolbhbeaa", sum := "33683b33543f25da59687845d22941bca9220997086fde8802bdeed6dac18aa3", func := "election/electionlaw24.PileReplaced", spec := "pileReplaced", unfollowed := true, recurses := true, apart := false, narrowed := true }
def PileReplacedUptoSaid : Prop := pileReplacedUptoRow.holds Try.pinned (OpenSpec.upto pileReplacedSpec)

/-- 'electionlaw24.PileFits', WHERE WHAT IT READS IS OF BULK AT MOST 1048576: true; the input reads as it did. -/
def pileFitsUptoRow : OpenClaim := { program := "ytmigdhbolbhbeaa", sum := "33683b33543f25da59687845d22941bca9220997086fde8802bdeed6dac18aa3", func := "election/electionlaw24.PileFits", spec := "pileFits", unfollowed := true, recurses := true, apart := false, narrowed := true }
def PileFitsUptoSaid : Prop := pileFitsUptoRow.holds Try.pinned (OpenSpec.upto pileFitsSpec)

/-- 'electionlaw24.PileRestricts', WHERE WHAT IT READS IS OF BULK AT MOST 1048576: true; the input reads as it did. -/
def pileRestrictsUptoRow : OpenClaim := { program := "ytmigdhbolbhbeaa", sum := "33683b33543f25da59687845d22941bca9220997086fde8802bdeed6dac18aa3", func := "election/electionlaw24.PileRestricts", spec := "pileRestricts", unfollowed := true, recurses := true, apart := false, narrowed := true }
def PileRestrictsUptoSaid : Prop := pileRestrictsUptoRow.holds Try.pinned (OpenSpec.upto pileRestrictsSpec)

end Rows
end Go.Proofs.Ytmigdhbolbhbeaa
