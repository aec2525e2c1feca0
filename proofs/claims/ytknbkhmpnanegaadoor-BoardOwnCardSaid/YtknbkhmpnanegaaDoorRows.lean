/-
  NARROWER THAN 'FOR EVERY INPUT', by the rows' own cells (each row's printed sentence says how): CommitTells: laid · CommitFinds: laid · BoardPost: laid · BoardHash: laid · BoardCheck: laid · BoardOther: laid · BoardOwn: laid · BoardRoot: laid · BoardChecks: laid · BoardProof: laid.
  DERIVED. THE GIVEN ROWS OF THIS SEAT. 10 by the template 'for every input the law returns true; each argument reads behind the call as it read before'; 0 by the template 'total and deterministic' (their statements: YtknbkhmpnanegaaDoorTotals.lean).
  GIVEN WITH THE SEED: the statements are not yours to turn. If you find one false, say at which input.
  Laid BY PROGRAM, IN A SANDBOX (cutbox-rows.mjs): the forced cells as the released guide's own fill.sh prints them over the translation 0b5023357e1078f3… (all of the seat's roots in one cut). By AI agents, Wed Nov 11 2026. No macro, syntax, notation, axiom, sorry.
-/
import Derived.Test.YtknbkhmpnanegaaDoorChecked
import GoSem.Claim
import GoSem.ClaimJoined
import GoSem.ClaimMapViews
import Derived.JoinedTies
import Derived.KernelRfl
namespace Go.Proofs.YtknbkhmpnanegaaDoor
/- THE CELL 'sum', in the pinned program and in every row, IS THE sha256 OF THE DUMP (.gsa) THAT YtknbkhmpnanegaaDoorProg.lean LOADS. Nothing in Lean hashes anything: it is a label: what it is worth is what the hold of that sum in a sandbox is worth. -/
noncomputable def Tryd.pinned : Pinned := { name := "ytknbkhmpnanegaadoor", sum := "0b5023357e1078f342a9185ab6d5706a9e1df12a4e72582f2039d91a0c257369", checked := Tryd.checked }
namespace Rows
def none {H : Type} : Left H := { results := [], args := [] }

/- WHAT THE LISTED PACKAGE-LEVEL VARIABLES READ AS WHEN THE CALL BEGINS. Each datum BY PROGRAM (the guide's laid-datum.mjs) off the statement by which the dump's own 'gosem.cut.vars' lays the variable. In a bare row this is a premise. The card (YtknbkhmpnanegaaDoorCards.lean) ties it to the program's text. -/
def laid_election_electionref04_k {H : Type} : DataW H := .agg [.lit (.int .u32 1116352408), .lit (.int .u32 1899447441), .lit (.int .u32 3049323471), .lit (.int .u32 3921009573), .lit (.int .u32 961987163), .lit (.int .u32 1508970993), .lit (.int .u32 2453635748), .lit (.int .u32 2870763221), .lit (.int .u32 3624381080), .lit (.int .u32 310598401), .lit (.int .u32 607225278), .lit (.int .u32 1426881987), .lit (.int .u32 1925078388), .lit (.int .u32 2162078206), .lit (.int .u32 2614888103), .lit (.int .u32 3248222580), .lit (.int .u32 3835390401), .lit (.int .u32 4022224774), .lit (.int .u32 264347078), .lit (.int .u32 604807628), .lit (.int .u32 770255983), .lit (.int .u32 1249150122), .lit (.int .u32 1555081692), .lit (.int .u32 1996064986), .lit (.int .u32 2554220882), .lit (.int .u32 2821834349), .lit (.int .u32 2952996808), .lit (.int .u32 3210313671), .lit (.int .u32 3336571891), .lit (.int .u32 3584528711), .lit (.int .u32 113926993), .lit (.int .u32 338241895), .lit (.int .u32 666307205), .lit (.int .u32 773529912), .lit (.int .u32 1294757372), .lit (.int .u32 1396182291), .lit (.int .u32 1695183700), .lit (.int .u32 1986661051), .lit (.int .u32 2177026350), .lit (.int .u32 2456956037), .lit (.int .u32 2730485921), .lit (.int .u32 2820302411), .lit (.int .u32 3259730800), .lit (.int .u32 3345764771), .lit (.int .u32 3516065817), .lit (.int .u32 3600352804), .lit (.int .u32 4094571909), .lit (.int .u32 275423344), .lit (.int .u32 430227734), .lit (.int .u32 506948616), .lit (.int .u32 659060556), .lit (.int .u32 883997877), .lit (.int .u32 958139571), .lit (.int .u32 1322822218), .lit (.int .u32 1537002063), .lit (.int .u32 1747873779), .lit (.int .u32 1955562222), .lit (.int .u32 2024104815), .lit (.int .u32 2227730452), .lit (.int .u32 2361852424), .lit (.int .u32 2428436474), .lit (.int .u32 2756734187), .lit (.int .u32 3204031479), .lit (.int .u32 3329325298)]
def laid_election_digest_constants {H : Type} : DataW H := .agg [.lit (.int .u32 1116352408), .lit (.int .u32 1899447441), .lit (.int .u32 3049323471), .lit (.int .u32 3921009573), .lit (.int .u32 961987163), .lit (.int .u32 1508970993), .lit (.int .u32 2453635748), .lit (.int .u32 2870763221), .lit (.int .u32 3624381080), .lit (.int .u32 310598401), .lit (.int .u32 607225278), .lit (.int .u32 1426881987), .lit (.int .u32 1925078388), .lit (.int .u32 2162078206), .lit (.int .u32 2614888103), .lit (.int .u32 3248222580), .lit (.int .u32 3835390401), .lit (.int .u32 4022224774), .lit (.int .u32 264347078), .lit (.int .u32 604807628), .lit (.int .u32 770255983), .lit (.int .u32 1249150122), .lit (.int .u32 1555081692), .lit (.int .u32 1996064986), .lit (.int .u32 2554220882), .lit (.int .u32 2821834349), .lit (.int .u32 2952996808), .lit (.int .u32 3210313671), .lit (.int .u32 3336571891), .lit (.int .u32 3584528711), .lit (.int .u32 113926993), .lit (.int .u32 338241895), .lit (.int .u32 666307205), .lit (.int .u32 773529912), .lit (.int .u32 1294757372), .lit (.int .u32 1396182291), .lit (.int .u32 1695183700), .lit (.int .u32 1986661051), .lit (.int .u32 2177026350), .lit (.int .u32 2456956037), .lit (.int .u32 2730485921), .lit (.int .u32 2820302411), .lit (.int .u32 3259730800), .lit (.int .u32 3345764771), .lit (.int .u32 3516065817), .lit (.int .u32 3600352804), .lit (.int .u32 4094571909), .lit (.int .u32 275423344), .lit (.int .u32 430227734), .lit (.int .u32 506948616), .lit (.int .u32 659060556), .lit (.int .u32 883997877), .lit (.int .u32 958139571), .lit (.int .u32 1322822218), .lit (.int .u32 1537002063), .lit (.int .u32 1747873779), .lit (.int .u32 1955562222), .lit (.int .u32 2024104815), .lit (.int .u32 2227730452), .lit (.int .u32 2361852424), .lit (.int .u32 2428436474), .lit (.int .u32 2756734187), .lit (.int .u32 3204031479), .lit (.int .u32 3329325298)]

/-- 'electionlaw38.CommitTells': WHATEVER THE INPUT: true; the input reads as it did. -/
def commitTellsSpec : ChangeSpec := { name := "commitTells", fn := fun _ => fun
  | [d1, d2, d3, d4, d5] => { results := [.lit (.bool true)], args := [d1, d2, d3, d4, d5] }
  | _ => none }
def commitTellsRow : OpenClaim := { program := "ytknbkhmpnanegaadoor", sum := "0b5023357e1078f342a9185ab6d5706a9e1df12a4e72582f2039d91a0c257369", func := "election/electionlaw38.CommitTells", spec := "commitTells", named := ["election/digest.constants", "election/electionref04.k"], apart := false, laid := [("election/electionref04.k", laid_election_electionref04_k), ("election/digest.constants", laid_election_digest_constants)] }
def CommitTellsSaid : Prop := commitTellsRow.holds Tryd.pinned (OpenSpec.ofChange commitTellsSpec)

/-- ITS FALSE NEIGHBOUR: 'it returns false'. Refute it at one input. -/
def commitTellsWrong : ChangeSpec := { name := "commitTells", fn := fun _ => fun
  | [d1, d2, d3, d4, d5] => { results := [.lit (.bool false)], args := [d1, d2, d3, d4, d5] }
  | _ => none }
def CommitTellsWrongFalsely : Prop := commitTellsRow.holds Tryd.pinned (OpenSpec.ofChange commitTellsWrong)

/-- 'electionlaw38.CommitFinds': WHATEVER THE INPUT: true; the input reads as it did. -/
def commitFindsSpec : ChangeSpec := { name := "commitFinds", fn := fun _ => fun
  | [d1, d2, d3, d4, d5, d6, d7, d8] => { results := [.lit (.bool true)], args := [d1, d2, d3, d4, d5, d6, d7, d8] }
  | _ => none }
def commitFindsRow : OpenClaim := { program := "ytknbkhmpnanegaadoor", sum := "0b5023357e1078f342a9185ab6d5706a9e1df12a4e72582f2039d91a0c257369", func := "election/electionlaw38.CommitFinds", spec := "commitFinds", named := ["election/electionref04.k", "election/digest.constants"], apart := false, laid := [("election/electionref04.k", laid_election_electionref04_k), ("election/digest.constants", laid_election_digest_constants)] }
def CommitFindsSaid : Prop := commitFindsRow.holds Tryd.pinned (OpenSpec.ofChange commitFindsSpec)

/-- ITS FALSE NEIGHBOUR: 'it returns false'. Refute it at one input. -/
def commitFindsWrong : ChangeSpec := { name := "commitFinds", fn := fun _ => fun
  | [d1, d2, d3, d4, d5, d6, d7, d8] => { results := [.lit (.bool false)], args := [d1, d2, d3, d4, d5, d6, d7, d8] }
  | _ => none }
def CommitFindsWrongFalsely : Prop := commitFindsRow.holds Tryd.pinned (OpenSpec.ofChange commitFindsWrong)

/-- 'electionlaw23.BoardPost': WHATEVER THE INPUT: true; the input reads as it did. -/
def boardPostSpec : ChangeSpec := { name := "boardPost", fn := fun _ => fun
  | [d] => { results := [.lit (.bool true)], args := [d] }
  | _ => none }
def boardPostRow : OpenClaim := { program := "ytknbkhmpnanegaadoor", sum := "0b5023357e1078f342a9185ab6d5706a9e1df12a4e72582f2039d91a0c257369", func := "election/electionlaw23.BoardPost", spec := "boardPost", recurses := true, named := ["election/digest.constants", "election/electionref04.k"], apart := false, laid := [("election/electionref04.k", laid_election_electionref04_k), ("election/digest.constants", laid_election_digest_constants)] }
def BoardPostSaid : Prop := boardPostRow.holds Tryd.pinned (OpenSpec.ofChange boardPostSpec)

/-- ITS FALSE NEIGHBOUR: 'it returns false'. Refute it at one input. -/
def boardPostWrong : ChangeSpec := { name := "boardPost", fn := fun _ => fun
  | [d] => { results := [.lit (.bool false)], args := [d] }
  | _ => none }
def BoardPostWrongFalsely : Prop := boardPostRow.holds Tryd.pinned (OpenSpec.ofChange boardPostWrong)

/-- 'electionlaw23.BoardHash': WHATEVER THE INPUT: true; the input reads as it did. -/
def boardHashSpec : ChangeSpec := { name := "boardHash", fn := fun _ => fun
  | [d] => { results := [.lit (.bool true)], args := [d] }
  | _ => none }
def boardHashRow : OpenClaim := { program := "ytknbkhmpnanegaadoor", sum := "0b5023357e1078f342a9185ab6d5706a9e1df12a4e72582f2039d91a0c257369", func := "election/electionlaw23.BoardHash", spec := "boardHash", recurses := true, named := ["election/digest.constants", "election/electionref04.k"], apart := false, laid := [("election/electionref04.k", laid_election_electionref04_k), ("election/digest.constants", laid_election_digest_constants)] }
def BoardHashSaid : Prop := boardHashRow.holds Tryd.pinned (OpenSpec.ofChange boardHashSpec)

/-- ITS FALSE NEIGHBOUR: 'it returns false'. Refute it at one input. -/
def boardHashWrong : ChangeSpec := { name := "boardHash", fn := fun _ => fun
  | [d] => { results := [.lit (.bool false)], args := [d] }
  | _ => none }
def BoardHashWrongFalsely : Prop := boardHashRow.holds Tryd.pinned (OpenSpec.ofChange boardHashWrong)

/-- 'electionlaw23.BoardCheck': WHATEVER THE INPUT: true; the input reads as it did. -/
def boardCheckSpec : ChangeSpec := { name := "boardCheck", fn := fun _ => fun
  | [d] => { results := [.lit (.bool true)], args := [d] }
  | _ => none }
def boardCheckRow : OpenClaim := { program := "ytknbkhmpnanegaadoor", sum := "0b5023357e1078f342a9185ab6d5706a9e1df12a4e72582f2039d91a0c257369", func := "election/electionlaw23.BoardCheck", spec := "boardCheck", recurses := true, named := ["election/electionref04.k", "election/digest.constants"], apart := false, laid := [("election/electionref04.k", laid_election_electionref04_k), ("election/digest.constants", laid_election_digest_constants)] }
def BoardCheckSaid : Prop := boardCheckRow.holds Tryd.pinned (OpenSpec.ofChange boardCheckSpec)

/-- ITS FALSE NEIGHBOUR: 'it returns false'. Refute it at one input. -/
def boardCheckWrong : ChangeSpec := { name := "boardCheck", fn := fun _ => fun
  | [d] => { results := [.lit (.bool false)], args := [d] }
  | _ => none }
def BoardCheckWrongFalsely : Prop := boardCheckRow.holds Tryd.pinned (OpenSpec.ofChange boardCheckWrong)

/-- 'electionlaw23.BoardOther': WHATEVER THE INPUT: true; the input reads as it did. -/
def boardOtherSpec : ChangeSpec := { name := "boardOther", fn := fun _ => fun
  | [d1, d2, d3] => { results := [.lit (.bool true)], args := [d1, d2, d3] }
  | _ => none }
def boardOtherRow : OpenClaim := { program := "ytknbkhmpnanegaadoor", sum := "0b5023357e1078f342a9185ab6d5706a9e1df12a4e72582f2039d91a0c257369", func := "election/electionlaw23.BoardOther", spec := "boardOther", recurses := true, named := ["election/electionref04.k", "election/digest.constants"], apart := false, laid := [("election/electionref04.k", laid_election_electionref04_k), ("election/digest.constants", laid_election_digest_constants)] }
def BoardOtherSaid : Prop := boardOtherRow.holds Tryd.pinned (OpenSpec.ofChange boardOtherSpec)

/-- ITS FALSE NEIGHBOUR: 'it returns false'. Refute it at one input. -/
def boardOtherWrong : ChangeSpec := { name := "boardOther", fn := fun _ => fun
  | [d1, d2, d3] => { results := [.lit (.bool false)], args := [d1, d2, d3] }
  | _ => none }
def BoardOtherWrongFalsely : Prop := boardOtherRow.holds Tryd.pinned (OpenSpec.ofChange boardOtherWrong)

/-- 'electionlaw23.BoardOwn': WHATEVER THE INPUT: true; the input reads as it did. -/
def boardOwnSpec : ChangeSpec := { name := "boardOwn", fn := fun _ => fun
  | [d] => { results := [.lit (.bool true)], args := [d] }
  | _ => none }
def boardOwnRow : OpenClaim := { program := "ytknbkhmpnanegaadoor", sum := "0b5023357e1078f342a9185ab6d5706a9e1df12a4e72582f2039d91a0c257369", func := "election/electionlaw23.BoardOwn", spec := "boardOwn", recurses := true, named := ["election/digest.constants"], apart := false, laid := [("election/digest.constants", laid_election_digest_constants)] }
def BoardOwnSaid : Prop := boardOwnRow.holds Tryd.pinned (OpenSpec.ofChange boardOwnSpec)

/-- ITS FALSE NEIGHBOUR: 'it returns false'. Refute it at one input. -/
def boardOwnWrong : ChangeSpec := { name := "boardOwn", fn := fun _ => fun
  | [d] => { results := [.lit (.bool false)], args := [d] }
  | _ => none }
def BoardOwnWrongFalsely : Prop := boardOwnRow.holds Tryd.pinned (OpenSpec.ofChange boardOwnWrong)

/-- 'electionlaw23.BoardRoot': WHATEVER THE INPUT: true; the input reads as it did. -/
def boardRootSpec : ChangeSpec := { name := "boardRoot", fn := fun _ => fun
  | [d1, d2] => { results := [.lit (.bool true)], args := [d1, d2] }
  | _ => none }
def boardRootRow : OpenClaim := { program := "ytknbkhmpnanegaadoor", sum := "0b5023357e1078f342a9185ab6d5706a9e1df12a4e72582f2039d91a0c257369", func := "election/electionlaw23.BoardRoot", spec := "boardRoot", recurses := true, named := ["election/electionref04.k", "election/digest.constants"], apart := false, laid := [("election/electionref04.k", laid_election_electionref04_k), ("election/digest.constants", laid_election_digest_constants)] }
def BoardRootSaid : Prop := boardRootRow.holds Tryd.pinned (OpenSpec.ofChange boardRootSpec)

/-- ITS FALSE NEIGHBOUR: 'it returns false'. Refute it at one input. -/
def boardRootWrong : ChangeSpec := { name := "boardRoot", fn := fun _ => fun
  | [d1, d2] => { results := [.lit (.bool false)], args := [d1, d2] }
  | _ => none }
def BoardRootWrongFalsely : Prop := boardRootRow.holds Tryd.pinned (OpenSpec.ofChange boardRootWrong)

/-- 'electionlaw23.BoardChecks': WHATEVER THE INPUT: true; the input reads as it did. -/
def boardChecksSpec : ChangeSpec := { name := "boardChecks", fn := fun _ => fun
  | [d] => { results := [.lit (.bool true)], args := [d] }
  | _ => none }
def boardChecksRow : OpenClaim := { program := "ytknbkhmpnanegaadoor", sum := "0b5023357e1078f342a9185ab6d5706a9e1df12a4e72582f2039d91a0c257369", func := "election/electionlaw23.BoardChecks", spec := "boardChecks", recurses := true, named := ["election/digest.constants", "election/electionref04.k"], apart := false, laid := [("election/electionref04.k", laid_election_electionref04_k), ("election/digest.constants", laid_election_digest_constants)] }
def BoardChecksSaid : Prop := boardChecksRow.holds Tryd.pinned (OpenSpec.ofChange boardChecksSpec)

/-- ITS FALSE NEIGHBOUR: 'it returns false'. Refute it at one input. -/
def boardChecksWrong : ChangeSpec := { name := "boardChecks", fn := fun _ => fun
  | [d] => { results := [.lit (.bool false)], args := [d] }
  | _ => none }
def BoardChecksWrongFalsely : Prop := boardChecksRow.holds Tryd.pinned (OpenSpec.ofChange boardChecksWrong)

/-- 'electionlaw23.BoardProof': WHATEVER THE INPUT: true; the input reads as it did. -/
def boardProofSpec : ChangeSpec := { name := "boardProof", fn := fun _ => fun
  | [d] => { results := [.lit (.bool true)], args := [d] }
  | _ => none }
def boardProofRow : OpenClaim := { program := "ytknbkhmpnanegaadoor", sum := "0b5023357e1078f342a9185ab6d5706a9e1df12a4e72582f2039d91a0c257369", func := "election/electionlaw23.BoardProof", spec := "boardProof", recurses := true, named := ["election/electionref04.k", "election/digest.constants"], apart := false, laid := [("election/electionref04.k", laid_election_electionref04_k), ("election/digest.constants", laid_election_digest_constants)] }
def BoardProofSaid : Prop := boardProofRow.holds Tryd.pinned (OpenSpec.ofChange boardProofSpec)

/-- ITS FALSE NEIGHBOUR: 'it returns false'. Refute it at one input. -/
def boardProofWrong : ChangeSpec := { name := "boardProof", fn := fun _ => fun
  | [d] => { results := [.lit (.bool false)], args := [d] }
  | _ => none }
def BoardProofWrongFalsely : Prop := boardProofRow.holds Tryd.pinned (OpenSpec.ofChange boardProofWrong)

/- THE SECOND FORM. 'bulk': how many values and letters a reading holds, each counted each time it is reached (what is shared counts as often as it is met; a slice's spare places count too). A statement '..UptoSaid' is the law's where the arguments, and the package variables that the reading takes, are together of bulk at most 1048576: NARROWER than '..Said'. Prove '..Said' where nothing that the law and all that it calls make is longer than what came in: it says more and counts as full. Else prove '..UptoSaid'. A law counts once. -/
mutual
def uptoBulk {H : Type} : DataW H → Nat
  | .lit (.string bytes) => bytes.length + 1
  | .lit _ => 1
  | .nil => 1
  | .ptr d => uptoBulk d + 1
  | .slice elems spare => uptoBulkAll elems + uptoBulkAll spare + 1
  | .agg parts => uptoBulkAll parts + 1
  | .iface _ d => uptoBulk d + 1
  | .map entries => uptoBulkEntries entries + 1
  | .held _ => 1
def uptoBulkAll {H : Type} : List (DataW H) → Nat
  | [] => 0
  | d :: r => uptoBulk d + uptoBulkAll r
def uptoBulkEntries {H : Type} : List (Lit × DataW H) → Nat
  | [] => 0
  | x :: r => uptoBulkEntry x + uptoBulkEntries r
def uptoBulkEntry {H : Type} : Lit × DataW H → Nat
  | (.string bytes, d) => bytes.length + uptoBulk d + 1
  | (_, d) => uptoBulk d + 1
 end
def uptoSmall : (H : Type) → List (DataW H) → Bool := fun _ ds => decide (uptoBulkAll ds ≤ 1048576)
def OpenSpec.upto (s : _root_.Go.ChangeSpec) : _root_.Go.OpenSpec := { _root_.Go.OpenSpec.ofChange s with cond := some uptoSmall }

/-- 'electionlaw38.CommitTells', WHERE WHAT IT READS IS OF BULK AT MOST 1048576: true; the input reads as it did. -/
def commitTellsUptoRow : OpenClaim := { program := "ytknbkhmpnanegaadoor", sum := "0b5023357e1078f342a9185ab6d5706a9e1df12a4e72582f2039d91a0c257369", func := "election/electionlaw38.CommitTells", spec := "commitTells", named := ["election/digest.constants", "election/electionref04.k"], apart := false, laid := [("election/electionref04.k", laid_election_electionref04_k), ("election/digest.constants", laid_election_digest_constants)], narrowed := true }
def CommitTellsUptoSaid : Prop := commitTellsUptoRow.holds Tryd.pinned (OpenSpec.upto commitTellsSpec)

/-- 'electionlaw38.CommitFinds', WHERE WHAT IT READS IS OF BULK AT MOST 1048576: true; the input reads as it did. -/
def commitFindsUptoRow : OpenClaim := { program := "ytknbkhmpnanegaadoor", sum := "0b5023357e1078f342a9185ab6d5706a9e1df12a4e72582f2039d91a0c257369", func := "election/electionlaw38.CommitFinds", spec := "commitFinds", named := ["election/electionref04.k", "election/digest.constants"], apart := false, laid := [("election/electionref04.k", laid_election_electionref04_k), ("election/digest.constants", laid_election_digest_constants)], narrowed := true }
def CommitFindsUptoSaid : Prop := commitFindsUptoRow.holds Tryd.pinned (OpenSpec.upto commitFindsSpec)

/-- 'electionlaw23.BoardPost', WHERE WHAT IT READS IS OF BULK AT MOST 1048576: true; the input reads as it did. -/
def boardPostUptoRow : OpenClaim := { program := "ytknbkhmpnanegaadoor", sum := "0b5023357e1078f342a9185ab6d5706a9e1df12a4e72582f2039d91a0c257369", func := "election/electionlaw23.BoardPost", spec := "boardPost", recurses := true, named := ["election/digest.constants", "election/electionref04.k"], apart := false, laid := [("election/electionref04.k", laid_election_electionref04_k), ("election/digest.constants", laid_election_digest_constants)], narrowed := true }
def BoardPostUptoSaid : Prop := boardPostUptoRow.holds Tryd.pinned (OpenSpec.upto boardPostSpec)

/-- 'electionlaw23.BoardHash', WHERE WHAT IT READS IS OF BULK AT MOST 1048576: true; the input reads as it did. -/
def boardHashUptoRow : OpenClaim := { program := "ytknbkhmpnanegaadoor", sum := "0b5023357e1078f342a9185ab6d5706a9e1df12a4e72582f2039d91a0c257369", func := "election/electionlaw23.BoardHash", spec := "boardHash", recurses := true, named := ["election/digest.constants", "election/electionref04.k"], apart := false, laid := [("election/electionref04.k", laid_election_electionref04_k), ("election/digest.constants", laid_election_digest_constants)], narrowed := true }
def BoardHashUptoSaid : Prop := boardHashUptoRow.holds Tryd.pinned (OpenSpec.upto boardHashSpec)

/-- 'electionlaw23.BoardCheck', WHERE WHAT IT READS IS OF BULK AT MOST 1048576: true; the input reads as it did. -/
def boardCheckUptoRow : OpenClaim := { program := "ytknbkhmpnanegaadoor", sum := "0b5023357e1078f342a9185ab6d5706a9e1df12a4e72582f2039d91a0c257369", func := "election/electionlaw23.BoardCheck", spec := "boardCheck", recurses := true, named := ["election/electionref04.k", "election/digest.constants"], apart := false, laid := [("election/electionref04.k", laid_election_electionref04_k), ("election/digest.constants", laid_election_digest_constants)], narrowed := true }
def BoardCheckUptoSaid : Prop := boardCheckUptoRow.holds Tryd.pinned (OpenSpec.upto boardCheckSpec)

/-- 'electionlaw23.BoardOther', WHERE WHAT IT READS IS OF BULK AT MOST 1048576: true; the input reads as it did. -/
def boardOtherUptoRow : OpenClaim := { program := "ytknbkhmpnanegaadoor", sum := "0b5023357e1078f342a9185ab6d5706a9e1df12a4e72582f2039d91a0c257369", func := "election/electionlaw23.BoardOther", spec := "boardOther", recurses := true, named := ["election/electionref04.k", "election/digest.constants"], apart := false, laid := [("election/electionref04.k", laid_election_electionref04_k), ("election/digest.constants", laid_election_digest_constants)], narrowed := true }
def BoardOtherUptoSaid : Prop := boardOtherUptoRow.holds Tryd.pinned (OpenSpec.upto boardOtherSpec)

/-- 'electionlaw23.BoardOwn', WHERE WHAT IT READS IS OF BULK AT MOST 1048576: true; the input reads as it did. -/
def boardOwnUptoRow : OpenClaim := { program := "ytknbkhmpnanegaadoor", sum := "0b5023357e1078f342a9185ab6d5706a9e1df12a4e72582f2039d91a0c257369", func := "election/electionlaw23.BoardOwn", spec := "boardOwn", recurses := true, named := ["election/digest.constants"], apart := false, laid := [("election/digest.constants", laid_election_digest_constants)], narrowed := true }
def BoardOwnUptoSaid : Prop := boardOwnUptoRow.holds Tryd.pinned (OpenSpec.upto boardOwnSpec)

/-- 'electionlaw23.BoardRoot', WHERE WHAT IT READS IS OF BULK AT MOST 1048576: true; the input reads as it did. -/
def boardRootUptoRow : OpenClaim := { program := "ytknbkhmpnanegaadoor", sum := "0b5023357e1078f342a9185ab6d5706a9e1df12a4e72582f2039d91a0c257369", func := "election/electionlaw23.BoardRoot", spec := "boardRoot", recurses := true, named := ["election/electionref04.k", "election/digest.constants"], apart := false, laid := [("election/electionref04.k", laid_election_electionref04_k), ("election/digest.constants", laid_election_digest_constants)], narrowed := true }
def BoardRootUptoSaid : Prop := boardRootUptoRow.holds Tryd.pinned (OpenSpec.upto boardRootSpec)

/-- 'electionlaw23.BoardChecks', WHERE WHAT IT READS IS OF BULK AT MOST 1048576: true; the input reads as it did. -/
def boardChecksUptoRow : OpenClaim := { program := "ytknbkhmpnanegaadoor", sum := "0b5023357e1078f342a9185ab6d5706a9e1df12a4e72582f2039d91a0c257369", func := "election/electionlaw23.BoardChecks", spec := "boardChecks", recurses := true, named := ["election/digest.constants", "election/electionref04.k"], apart := false, laid := [("election/electionref04.k", laid_election_electionref04_k), ("election/digest.constants", laid_election_digest_constants)], narrowed := true }
def BoardChecksUptoSaid : Prop := boardChecksUptoRow.holds Tryd.pinned (OpenSpec.upto boardChecksSpec)

/-- 'electionlaw23.BoardProof', WHERE WHAT IT READS IS OF BULK AT MOST 1048576: true; the input reads as it did. -/
def boardProofUptoRow : OpenClaim := { program := "ytknbkhmpnanegaadoor", sum := "0b5023357e1078f342a9185ab6d5706a9e1df12a4e72582f2039d91a0c257369", func := "election/electionlaw23.BoardProof", spec := "boardProof", recurses := true, named := ["election/electionref04.k", "election/digest.constants"], apart := false, laid := [("election/electionref04.k", laid_election_electionref04_k), ("election/digest.constants", laid_election_digest_constants)], narrowed := true }
def BoardProofUptoSaid : Prop := boardProofUptoRow.holds Tryd.pinned (OpenSpec.upto boardProofSpec)

end Rows
end Go.Proofs.YtknbkhmpnanegaaDoor
