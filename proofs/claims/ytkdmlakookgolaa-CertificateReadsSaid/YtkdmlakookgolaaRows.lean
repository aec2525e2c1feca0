/-
  No cell of these rows narrows 'for every input' (looked for: loops, veiled, ifaces, maps, wideKeys, modest, calm, conditions, laid).
  DERIVED. THE GIVEN ROWS OF THIS SEAT. 12 by the template 'for every input the law returns true; each argument reads behind the call as it read before'; 0 by the template 'total and deterministic' (their statements: YtkdmlakookgolaaTotals.lean).
  GIVEN WITH THE SEED: the statements are not yours to turn. If you find one false, say at which input.
  Laid BY PROGRAM, IN A SANDBOX (cutbox-rows.mjs): the forced cells as the released guide's own fill.sh prints them over the translation e8d1a87b0e80f44d… (all of the seat's roots in one cut). By AI agents, Wed Nov 11 2026. No macro, syntax, notation, axiom, sorry.
-/
import Derived.Test.YtkdmlakookgolaaChecked
import GoSem.Claim
import GoSem.ClaimJoined
import GoSem.ClaimMapViews
import Derived.JoinedTies
import Derived.KernelRfl
namespace Go.Proofs.Ytkdmlakookgolaa
/- THE CELL 'sum', in the pinned program and in every row, IS THE sha256 OF THE DUMP (.gsa) THAT YtkdmlakookgolaaProg.lean LOADS. Nothing in Lean hashes anything: it is a label: what it is worth is what the hold of that sum in a sandbox is worth. -/
noncomputable def Try.pinned : Pinned := { name := "ytkdmlakookgolaa", sum := "e8d1a87b0e80f44d46f11d5beda18f5c83f3ee8b9250fcc480302f30cccccbb0", checked := Try.checked }
namespace Rows
def none {H : Type} : Left H := { results := [], args := [] }

/-- 'electionlaw32.CertificateTells': WHATEVER THE INPUT: true; the input reads as it did. -/
def certificateTellsSpec : ChangeSpec := { name := "certificateTells", fn := fun _ => fun
  | [d1, d2, d3, d4, d5, d6, d7, d8, d9, d10] => { results := [.lit (.bool true)], args := [d1, d2, d3, d4, d5, d6, d7, d8, d9, d10] }
  | _ => none }
def certificateTellsRow : OpenClaim := { program := "ytkdmlakookgolaa", sum := "e8d1a87b0e80f44d46f11d5beda18f5c83f3ee8b9250fcc480302f30cccccbb0", func := "election/electionlaw32.CertificateTells", spec := "certificateTells", unfollowed := true, recurses := true, apart := false }
def CertificateTellsSaid : Prop := certificateTellsRow.holds Try.pinned (OpenSpec.ofChange certificateTellsSpec)

/-- ITS FALSE NEIGHBOUR: 'it returns false'. Refute it at one input. -/
def certificateTellsWrong : ChangeSpec := { name := "certificateTells", fn := fun _ => fun
  | [d1, d2, d3, d4, d5, d6, d7, d8, d9, d10] => { results := [.lit (.bool false)], args := [d1, d2, d3, d4, d5, d6, d7, d8, d9, d10] }
  | _ => none }
def CertificateTellsWrongFalsely : Prop := certificateTellsRow.holds Try.pinned (OpenSpec.ofChange certificateTellsWrong)

/-- 'electionlaw32.CertificateProves': WHATEVER THE INPUT: true; the input reads as it did. -/
def certificateProvesSpec : ChangeSpec := { name := "certificateProves", fn := fun _ => fun
  | [d1, d2, d3, d4, d5, d6, d7, d8] => { results := [.lit (.bool true)], args := [d1, d2, d3, d4, d5, d6, d7, d8] }
  | _ => none }
def certificateProvesRow : OpenClaim := { program := "ytkdmlakookgolaa", sum := "e8d1a87b0e80f44d46f11d5beda18f5c83f3ee8b9250fcc480302f30cccccbb0", func := "election/electionlaw32.CertificateProves", spec := "certificateProves", unfollowed := true, recurses := true, apart := false }
def CertificateProvesSaid : Prop := certificateProvesRow.holds Try.pinned (OpenSpec.ofChange certificateProvesSpec)

/-- ITS FALSE NEIGHBOUR: 'it returns false'. Refute it at one input. -/
def certificateProvesWrong : ChangeSpec := { name := "certificateProves", fn := fun _ => fun
  | [d1, d2, d3, d4, d5, d6, d7, d8] => { results := [.lit (.bool false)], args := [d1, d2, d3, d4, d5, d6, d7, d8] }
  | _ => none }
def CertificateProvesWrongFalsely : Prop := certificateProvesRow.holds Try.pinned (OpenSpec.ofChange certificateProvesWrong)

/-- 'electionlaw32.CertificateReads': WHATEVER THE INPUT: true; the input reads as it did. -/
def certificateReadsSpec : ChangeSpec := { name := "certificateReads", fn := fun _ => fun
  | [d1, d2, d3, d4, d5, d6, d7, d8, d9] => { results := [.lit (.bool true)], args := [d1, d2, d3, d4, d5, d6, d7, d8, d9] }
  | _ => none }
def certificateReadsRow : OpenClaim := { program := "ytkdmlakookgolaa", sum := "e8d1a87b0e80f44d46f11d5beda18f5c83f3ee8b9250fcc480302f30cccccbb0", func := "election/electionlaw32.CertificateReads", spec := "certificateReads", unfollowed := true, recurses := true, apart := false }
def CertificateReadsSaid : Prop := certificateReadsRow.holds Try.pinned (OpenSpec.ofChange certificateReadsSpec)

/-- ITS FALSE NEIGHBOUR: 'it returns false'. Refute it at one input. -/
def certificateReadsWrong : ChangeSpec := { name := "certificateReads", fn := fun _ => fun
  | [d1, d2, d3, d4, d5, d6, d7, d8, d9] => { results := [.lit (.bool false)], args := [d1, d2, d3, d4, d5, d6, d7, d8, d9] }
  | _ => none }
def CertificateReadsWrongFalsely : Prop := certificateReadsRow.holds Try.pinned (OpenSpec.ofChange certificateReadsWrong)

/-- 'electionlaw31.MarginTells': WHATEVER THE INPUT: true; the input reads as it did. -/
def marginTellsSpec : ChangeSpec := { name := "marginTells", fn := fun _ => fun
  | [d1, d2, d3, d4, d5, d6] => { results := [.lit (.bool true)], args := [d1, d2, d3, d4, d5, d6] }
  | _ => none }
def marginTellsRow : OpenClaim := { program := "ytkdmlakookgolaa", sum := "e8d1a87b0e80f44d46f11d5beda18f5c83f3ee8b9250fcc480302f30cccccbb0", func := "election/electionlaw31.MarginTells", spec := "marginTells", unfollowed := true, recurses := true, apart := false }
def MarginTellsSaid : Prop := marginTellsRow.holds Try.pinned (OpenSpec.ofChange marginTellsSpec)

/-- ITS FALSE NEIGHBOUR: 'it returns false'. Refute it at one input. -/
def marginTellsWrong : ChangeSpec := { name := "marginTells", fn := fun _ => fun
  | [d1, d2, d3, d4, d5, d6] => { results := [.lit (.bool false)], args := [d1, d2, d3, d4, d5, d6] }
  | _ => none }
def MarginTellsWrongFalsely : Prop := marginTellsRow.holds Try.pinned (OpenSpec.ofChange marginTellsWrong)

/-- 'electionlaw31.MarginSearches': WHATEVER THE INPUT: true; the input reads as it did. -/
def marginSearchesSpec : ChangeSpec := { name := "marginSearches", fn := fun _ => fun
  | [d1, d2, d3, d4, d5, d6] => { results := [.lit (.bool true)], args := [d1, d2, d3, d4, d5, d6] }
  | _ => none }
def marginSearchesRow : OpenClaim := { program := "ytkdmlakookgolaa", sum := "e8d1a87b0e80f44d46f11d5beda18f5c83f3ee8b9250fcc480302f30cccccbb0", func := "election/electionlaw31.MarginSearches", spec := "marginSearches", unfollowed := true, recurses := true, apart := false }
def MarginSearchesSaid : Prop := marginSearchesRow.holds Try.pinned (OpenSpec.ofChange marginSearchesSpec)

/-- ITS FALSE NEIGHBOUR: 'it returns false'. Refute it at one input. -/
def marginSearchesWrong : ChangeSpec := { name := "marginSearches", fn := fun _ => fun
  | [d1, d2, d3, d4, d5, d6] => { results := [.lit (.bool false)], args := [d1, d2, d3, d4, d5, d6] }
  | _ => none }
def MarginSearchesWrongFalsely : Prop := marginSearchesRow.holds Try.pinned (OpenSpec.ofChange marginSearchesWrong)

/-- 'electionlaw31.MarginTrue': WHATEVER THE INPUT: true; the input reads as it did. -/
def marginTrueSpec : ChangeSpec := { name := "marginTrue", fn := fun _ => fun
  | [d1, d2, d3, d4] => { results := [.lit (.bool true)], args := [d1, d2, d3, d4] }
  | _ => none }
def marginTrueRow : OpenClaim := { program := "ytkdmlakookgolaa", sum := "e8d1a87b0e80f44d46f11d5beda18f5c83f3ee8b9250fcc480302f30cccccbb0", func := "election/electionlaw31.MarginTrue", spec := "marginTrue", unfollowed := true, recurses := true, apart := false }
def MarginTrueSaid : Prop := marginTrueRow.holds Try.pinned (OpenSpec.ofChange marginTrueSpec)

/-- ITS FALSE NEIGHBOUR: 'it returns false'. Refute it at one input. -/
def marginTrueWrong : ChangeSpec := { name := "marginTrue", fn := fun _ => fun
  | [d1, d2, d3, d4] => { results := [.lit (.bool false)], args := [d1, d2, d3, d4] }
  | _ => none }
def MarginTrueWrongFalsely : Prop := marginTrueRow.holds Try.pinned (OpenSpec.ofChange marginTrueWrong)

/-- 'electionlaw31.MarginRenames': WHATEVER THE INPUT: true; the input reads as it did. -/
def marginRenamesSpec : ChangeSpec := { name := "marginRenames", fn := fun _ => fun
  | [d1, d2, d3, d4, d5] => { results := [.lit (.bool true)], args := [d1, d2, d3, d4, d5] }
  | _ => none }
def marginRenamesRow : OpenClaim := { program := "ytkdmlakookgolaa", sum := "e8d1a87b0e80f44d46f11d5beda18f5c83f3ee8b9250fcc480302f30cccccbb0", func := "election/electionlaw31.MarginRenames", spec := "marginRenames", unfollowed := true, recurses := true, apart := false }
def MarginRenamesSaid : Prop := marginRenamesRow.holds Try.pinned (OpenSpec.ofChange marginRenamesSpec)

/-- ITS FALSE NEIGHBOUR: 'it returns false'. Refute it at one input. -/
def marginRenamesWrong : ChangeSpec := { name := "marginRenames", fn := fun _ => fun
  | [d1, d2, d3, d4, d5] => { results := [.lit (.bool false)], args := [d1, d2, d3, d4, d5] }
  | _ => none }
def MarginRenamesWrongFalsely : Prop := marginRenamesRow.holds Try.pinned (OpenSpec.ofChange marginRenamesWrong)

/-- 'electionlaw32.CertificateBack': WHATEVER THE INPUT: true; the input reads as it did. -/
def certificateBackSpec : ChangeSpec := { name := "certificateBack", fn := fun _ => fun
  | [d1, d2, d3, d4, d5, d6, d7, d8, d9] => { results := [.lit (.bool true)], args := [d1, d2, d3, d4, d5, d6, d7, d8, d9] }
  | _ => none }
def certificateBackRow : OpenClaim := { program := "ytkdmlakookgolaa", sum := "e8d1a87b0e80f44d46f11d5beda18f5c83f3ee8b9250fcc480302f30cccccbb0", func := "election/electionlaw32.CertificateBack", spec := "certificateBack", unfollowed := true, recurses := true, apart := false }
def CertificateBackSaid : Prop := certificateBackRow.holds Try.pinned (OpenSpec.ofChange certificateBackSpec)

/-- ITS FALSE NEIGHBOUR: 'it returns false'. Refute it at one input. -/
def certificateBackWrong : ChangeSpec := { name := "certificateBack", fn := fun _ => fun
  | [d1, d2, d3, d4, d5, d6, d7, d8, d9] => { results := [.lit (.bool false)], args := [d1, d2, d3, d4, d5, d6, d7, d8, d9] }
  | _ => none }
def CertificateBackWrongFalsely : Prop := certificateBackRow.holds Try.pinned (OpenSpec.ofChange certificateBackWrong)

/-- 'electionlaw31.MarginBounds': WHATEVER THE INPUT: true; the input reads as it did. -/
def marginBoundsSpec : ChangeSpec := { name := "marginBounds", fn := fun _ => fun
  | [d1, d2, d3] => { results := [.lit (.bool true)], args := [d1, d2, d3] }
  | _ => none }
def marginBoundsRow : OpenClaim := { program := "ytkdmlakookgolaa", sum := "e8d1a87b0e80f44d46f11d5beda18f5c83f3ee8b9250fcc480302f30cccccbb0", func := "election/electionlaw31.MarginBounds", spec := "marginBounds", unfollowed := true, recurses := true, apart := false }
def MarginBoundsSaid : Prop := marginBoundsRow.holds Try.pinned (OpenSpec.ofChange marginBoundsSpec)

/-- ITS FALSE NEIGHBOUR: 'it returns false'. Refute it at one input. -/
def marginBoundsWrong : ChangeSpec := { name := "marginBounds", fn := fun _ => fun
  | [d1, d2, d3] => { results := [.lit (.bool false)], args := [d1, d2, d3] }
  | _ => none }
def MarginBoundsWrongFalsely : Prop := marginBoundsRow.holds Try.pinned (OpenSpec.ofChange marginBoundsWrong)

/-- 'electionlaw31.MarginLower': WHATEVER THE INPUT: true; the input reads as it did. -/
def marginLowerSpec : ChangeSpec := { name := "marginLower", fn := fun _ => fun
  | [d1, d2, d3, d4, d5] => { results := [.lit (.bool true)], args := [d1, d2, d3, d4, d5] }
  | _ => none }
def marginLowerRow : OpenClaim := { program := "ytkdmlakookgolaa", sum := "e8d1a87b0e80f44d46f11d5beda18f5c83f3ee8b9250fcc480302f30cccccbb0", func := "election/electionlaw31.MarginLower", spec := "marginLower", unfollowed := true, recurses := true, apart := false }
def MarginLowerSaid : Prop := marginLowerRow.holds Try.pinned (OpenSpec.ofChange marginLowerSpec)

/-- ITS FALSE NEIGHBOUR: 'it returns false'. Refute it at one input. -/
def marginLowerWrong : ChangeSpec := { name := "marginLower", fn := fun _ => fun
  | [d1, d2, d3, d4, d5] => { results := [.lit (.bool false)], args := [d1, d2, d3, d4, d5] }
  | _ => none }
def MarginLowerWrongFalsely : Prop := marginLowerRow.holds Try.pinned (OpenSpec.ofChange marginLowerWrong)

/-- 'electionlaw31.MarginUpper': WHATEVER THE INPUT: true; the input reads as it did. -/
def marginUpperSpec : ChangeSpec := { name := "marginUpper", fn := fun _ => fun
  | [d1, d2, d3] => { results := [.lit (.bool true)], args := [d1, d2, d3] }
  | _ => none }
def marginUpperRow : OpenClaim := { program := "ytkdmlakookgolaa", sum := "e8d1a87b0e80f44d46f11d5beda18f5c83f3ee8b9250fcc480302f30cccccbb0", func := "election/electionlaw31.MarginUpper", spec := "marginUpper", unfollowed := true, recurses := true, apart := false }
def MarginUpperSaid : Prop := marginUpperRow.holds Try.pinned (OpenSpec.ofChange marginUpperSpec)

/-- ITS FALSE NEIGHBOUR: 'it returns false'. Refute it at one input. -/
def marginUpperWrong : ChangeSpec := { name := "marginUpper", fn := fun _ => fun
  | [d1, d2, d3] => { results := [.lit (.bool false)], args := [d1, d2, d3] }
  | _ => none }
def MarginUpperWrongFalsely : Prop := marginUpperRow.holds Try.pinned (OpenSpec.ofChange marginUpperWrong)

/-- 'electionlaw32.CertificateAccepts': WHATEVER THE INPUT: true; the input reads as it did. -/
def certificateAcceptsSpec : ChangeSpec := { name := "certificateAccepts", fn := fun _ => fun
  | [d1, d2, d3, d4] => { results := [.lit (.bool true)], args := [d1, d2, d3, d4] }
  | _ => none }
def certificateAcceptsRow : OpenClaim := { program := "ytkdmlakookgolaa", sum := "e8d1a87b0e80f44d46f11d5beda18f5c83f3ee8b9250fcc480302f30cccccbb0", func := "election/electionlaw32.CertificateAccepts", spec := "certificateAccepts", unfollowed := true, recurses := true, apart := false }
def CertificateAcceptsSaid : Prop := certificateAcceptsRow.holds Try.pinned (OpenSpec.ofChange certificateAcceptsSpec)

/-- ITS FALSE NEIGHBOUR: 'it returns false'. Refute it at one input. -/
def certificateAcceptsWrong : ChangeSpec := { name := "certificateAccepts", fn := fun _ => fun
  | [d1, d2, d3, d4] => { results := [.lit (.bool false)], args := [d1, d2, d3, d4] }
  | _ => none }
def CertificateAcceptsWrongFalsely : Prop := certificateAcceptsRow.holds Try.pinned (OpenSpec.ofChange certificateAcceptsWrong)

/- THE SECOND FORM. 'bulk': how many values and letters a reading holds, each counted each time it is reached (what is shared counts as often as it is met; a slice's spare places count too). A statement '..UptoSaid' is the law's where the arguments, and the package variables that the reading takes, are together of bulk at most 1048576: NARROWER than '..Said'. Prove '..Said' where nothing that the law and all that it calls make is longer than what came in: it says more and counts as full. Else prove '..UptoSaid'. A law counts once. -/
mutual
def uptoBulk {H : Type} : DataW H → Nat
  | .lit (.string bytes) => bytes.length + 1
  | .lit _ => 1
  | .nil => 1
  | .ptr d => uptoBulk d + 1
  | .slice elems spare => uptoBulkAll elems + uptoBulkAll spare + 1
  | .agg parts => uptoBulkAll parts + 1
  | .iface _ d => uptoBulk d + 1
  | .map entries => uptoBulkEntries entries + 1
  | .held _ => 1
def uptoBulkAll {H : Type} : List (DataW H) → Nat
  | [] => 0
  | d :: r => uptoBulk d + uptoBulkAll r
def uptoBulkEntries {H : Type} : List (Lit × DataW H) → Nat
  | [] => 0
  | x :: r => uptoBulkEntry x + uptoBulkEntries r
def uptoBulkEntry {H : Type} : Lit × DataW H → Nat
  | (.string bytes, d) => bytes.length + uptoBulk d + 1
  | (_, d) => uptoBulk d + 1
 end
def uptoSmall : (H : Type) → List (DataW H) → Bool := fun _ ds => decide (uptoBulkAll ds ≤ 1048576)
def OpenSpec.upto (s : _root_.Go.ChangeSpec) : _root_.Go.OpenSpec := { _root_.Go.OpenSpec.ofChange s with cond := some uptoSmall }

/-- 'electionlaw32.CertificateTells', WHERE WHAT IT READS IS OF BULK AT MOST 1048576: true; the input reads as it did. -/
def certificateTellsUptoRow : OpenClaim := { program := "ytkdmlakookgolaa", sum := "e8d1a87b0e80f44d46f11d5beda18f5c83f3ee8b9250fcc480302f30cccccbb0", func := "election/electionlaw32.CertificateTells", spec := "certificateTells", unfollowed := true, recurses := true, apart := false, narrowed := true }
def CertificateTellsUptoSaid : Prop := certificateTellsUptoRow.holds Try.pinned (OpenSpec.upto certificateTellsSpec)

/-- 'electionlaw32.CertificateProves', WHERE WHAT IT READS IS OF BULK AT MOST 1048576: true; the input reads as it did. -/
def certificateProvesUptoRow : OpenClaim := { program := "ytkdmlakookgolaa", sum := "e8d1a87b0e80f44d46f11d5beda18f5c83f3ee8b9250fcc480302f30cccccbb0", func := "election/electionlaw32.CertificateProves", spec := "certificateProves", unfollowed := true, recurses := true, apart := false, narrowed := true }
def CertificateProvesUptoSaid : Prop := certificateProvesUptoRow.holds Try.pinned (OpenSpec.upto certificateProvesSpec)

/-- 'electionlaw32.CertificateReads', WHERE WHAT IT READS IS OF BULK AT MOST 1048576: true; the input reads as it did. -/
def certificateReadsUptoRow : OpenClaim := { program := "ytkdmlakookgolaa", sum := "e8d1a87b0e80f44d46f11d5beda18f5c83f3ee8b9250fcc480302f30cccccbb0", func := "election/electionlaw32.CertificateReads", spec := "certificateReads", unfollowed := true, recurses := true, apart := false, narrowed := true }
def CertificateReadsUptoSaid : Prop := certificateReadsUptoRow.holds Try.pinned (OpenSpec.upto certificateReadsSpec)

/-- 'electionlaw31.MarginTells', WHERE WHAT IT READS IS OF BULK AT MOST 1048576: true; the input reads as it did. -/
def marginTellsUptoRow : OpenClaim := { program := "ytkdmlakookgolaa", sum := "e8d1a87b0e80f44d46f11d5beda18f5c83f3ee8b9250fcc480302f30cccccbb0", func := "election/electionlaw31.MarginTells", spec := "marginTells", unfollowed := true, recurses := true, apart := false, narrowed := true }
def MarginTellsUptoSaid : Prop := marginTellsUptoRow.holds Try.pinned (OpenSpec.upto marginTellsSpec)

/-- 'electionlaw31.MarginSearches', WHERE WHAT IT READS IS OF BULK AT MOST 1048576: true; the input reads as it did. -/
def marginSearchesUptoRow : OpenClaim := { program := "ytkdmlakookgolaa", sum := "e8d1a87b0e80f44d46f11d5beda18f5c83f3ee8b9250fcc480302f30cccccbb0", func := "election/electionlaw31.MarginSearches", spec := "marginSearches", unfollowed := true, recurses := true, apart := false, narrowed := true }
def MarginSearchesUptoSaid : Prop := marginSearchesUptoRow.holds Try.pinned (OpenSpec.upto marginSearchesSpec)

/-- 'electionlaw31.MarginTrue', WHERE WHAT IT READS IS OF BULK AT MOST 1048576: true; the input reads as it did. -/
def marginTrueUptoRow : OpenClaim := { program := "ytkdmlakookgolaa", sum := "e8d1a87b0e80f44d46f11d5beda18f5c83f3ee8b9250fcc480302f30cccccbb0", func := "election/electionlaw31.MarginTrue", spec := "marginTrue", unfollowed := true, recurses := true, apart := false, narrowed := true }
def MarginTrueUptoSaid : Prop := marginTrueUptoRow.holds Try.pinned (OpenSpec.upto marginTrueSpec)

/-- 'electionlaw31.MarginRenames', WHERE WHAT IT READS IS OF BULK AT MOST 1048576: true; the input reads as it did. -/
def marginRenamesUptoRow : OpenClaim := { program := "ytkdmlakookgolaa", sum := "e8d1a87b0e80f44d46f11d5beda18f5c83f3ee8b9250fcc480302f30cccccbb0", func := "election/electionlaw31.MarginRenames", spec := "marginRenames", unfollowed := true, recurses := true, apart := false, narrowed := true }
def MarginRenamesUptoSaid : Prop := marginRenamesUptoRow.holds Try.pinned (OpenSpec.upto marginRenamesSpec)

/-- 'electionlaw32.CertificateBack', WHERE WHAT IT READS IS OF BULK AT MOST 1048576: true; the input reads as it did. -/
def certificateBackUptoRow : OpenClaim := { program := "ytkdmlakookgolaa", sum := "e8d1a87b0e80f44d46f11d5beda18f5c83f3ee8b9250fcc480302f30cccccbb0", func := "election/electionlaw32.CertificateBack", spec := "certificateBack", unfollowed := true, recurses := true, apart := false, narrowed := true }
def CertificateBackUptoSaid : Prop := certificateBackUptoRow.holds Try.pinned (OpenSpec.upto certificateBackSpec)

/-- 'electionlaw31.MarginBounds', WHERE WHAT IT READS IS OF BULK AT MOST 1048576: true; the input reads as it did. -/
def marginBoundsUptoRow : OpenClaim := { program := "ytkdmlakookgolaa", sum := "e8d1a87b0e80f44d46f11d5beda18f5c83f3ee8b9250fcc480302f30cccccbb0", func := "election/electionlaw31.MarginBounds", spec := "marginBounds", unfollowed := true, recurses := true, apart := false, narrowed := true }
def MarginBoundsUptoSaid : Prop := marginBoundsUptoRow.holds Try.pinned (OpenSpec.upto marginBoundsSpec)

/-- 'electionlaw31.MarginLower', WHERE WHAT IT READS IS OF BULK AT MOST 1048576: true; the input reads as it did. -/
def marginLowerUptoRow : OpenClaim := { program := "ytkdmlakookgolaa", sum := "e8d1a87b0e80f44d46f11d5beda18f5c83f3ee8b9250fcc480302f30cccccbb0", func := "election/electionlaw31.MarginLower", spec := "marginLower", unfollowed := true, recurses := true, apart := false, narrowed := true }
def MarginLowerUptoSaid : Prop := marginLowerUptoRow.holds Try.pinned (OpenSpec.upto marginLowerSpec)

/-- 'electionlaw31.MarginUpper', WHERE WHAT IT READS IS OF BULK AT MOST 1048576: true; the input reads as it did. -/
def marginUpperUptoRow : OpenClaim := { program := "ytkdmlakookgolaa", sum := "e8d1a87b0e80f44d46f11d5beda18f5c83f3ee8b9250fcc480302f30cccccbb0", func := "election/electionlaw31.MarginUpper", spec := "marginUpper", unfollowed := true, recurses := true, apart := false, narrowed := true }
def MarginUpperUptoSaid : Prop := marginUpperUptoRow.holds Try.pinned (OpenSpec.upto marginUpperSpec)

/-- 'electionlaw32.CertificateAccepts', WHERE WHAT IT READS IS OF BULK AT MOST 1048576: true; the input reads as it did. -/
def certificateAcceptsUptoRow : OpenClaim := { program := "ytkdmlakookgolaa", sum := "e8d1a87b0e80f44d46f11d5beda18f5c83f3ee8b9250fcc480302f30cccccbb0", func := "election/electionlaw32.CertificateAccepts", spec := "certificateAccepts", unfollowed := true, recurses := true, apart := false, narrowed := true }
def CertificateAcceptsUptoSaid : Prop := certificateAcceptsUptoRow.holds Try.pinned (OpenSpec.upto certificateAcceptsSpec)

end Rows
end Go.Proofs.Ytkdmlakookgolaa
