/-
  NARROWER THAN 'FOR EVERY INPUT', by the rows' own cells (each row's printed sentence says how): BallotSets: laid · BallotMeet: laid · BallotConfigs: laid · BallotTallies: laid · BallotSpeakers: laid · BallotReach: laid.
  DERIVED. THE GIVEN ROWS OF THIS SEAT. 6 by the template 'for every input the law returns true; each argument reads behind the call as it read before'; 0 by the template 'total and deterministic' (their statements: YtehmbcpgendkjaaDoorTotals.lean).
  GIVEN WITH THE SEED: the statements are not yours to turn. If you find one false, say at which input.
  Laid BY PROGRAM, IN A SANDBOX (cutbox-rows.mjs): the forced cells as the released guide's own fill.sh prints them over the translation 0affd977d52ab00c… (all of the seat's roots in one cut). By AI agents, Wed Nov 11 2026. No macro, syntax, notation, axiom, sorry.
-/
import Derived.Test.YtehmbcpgendkjaaDoorChecked
import GoSem.Claim
import GoSem.ClaimJoined
import GoSem.ClaimMapViews
import Derived.JoinedTies
import Derived.KernelRfl
namespace Go.Proofs.YtehmbcpgendkjaaDoor
/- THE CELL 'sum', in the pinned program and in every row, IS THE sha256 OF THE DUMP (.gsa) THAT YtehmbcpgendkjaaDoorProg.lean LOADS. Nothing in Lean hashes anything: it is a label: what it is worth is what the hold of that sum in a sandbox is worth. -/
noncomputable def Tryd.pinned : Pinned := { name := "ytehmbcpgendkjaadoor", sum := "0affd977d52ab00c4c689b0c95e872b58a8760a8fda68249ca9ede8130997175", checked := Tryd.checked }
namespace Rows
def none {H : Type} : Left H := { results := [], args := [] }

/- WHAT THE LISTED PACKAGE-LEVEL VARIABLES READ AS WHEN THE CALL BEGINS. Each datum BY PROGRAM (the guide's laid-datum.mjs) off the statement by which the dump's own 'gosem.cut.vars' lays the variable. In a bare row this is a premise. The card (YtehmbcpgendkjaaDoorCards.lean) ties it to the program's text. -/
def laid_math_bits_deBruijn32tab {H : Type} : DataW H := .agg [.lit (.int .u8 0), .lit (.int .u8 1), .lit (.int .u8 28), .lit (.int .u8 2), .lit (.int .u8 29), .lit (.int .u8 14), .lit (.int .u8 24), .lit (.int .u8 3), .lit (.int .u8 30), .lit (.int .u8 22), .lit (.int .u8 20), .lit (.int .u8 15), .lit (.int .u8 25), .lit (.int .u8 17), .lit (.int .u8 4), .lit (.int .u8 8), .lit (.int .u8 31), .lit (.int .u8 27), .lit (.int .u8 13), .lit (.int .u8 23), .lit (.int .u8 21), .lit (.int .u8 19), .lit (.int .u8 16), .lit (.int .u8 7), .lit (.int .u8 26), .lit (.int .u8 12), .lit (.int .u8 18), .lit (.int .u8 6), .lit (.int .u8 11), .lit (.int .u8 5), .lit (.int .u8 10), .lit (.int .u8 9)]

/-- 'quorumlaw9.BallotSets': WHATEVER THE INPUT: true; the input reads as it did. -/
def ballotSetsSpec : ChangeSpec := { name := "ballotSets", fn := fun _ => fun
  | [d1, d2, d3, d4] => { results := [.lit (.bool true)], args := [d1, d2, d3, d4] }
  | _ => none }
def ballotSetsRow : OpenClaim := { program := "ytehmbcpgendkjaadoor", sum := "0affd977d52ab00c4c689b0c95e872b58a8760a8fda68249ca9ede8130997175", func := "quorum/quorumlaw9.BallotSets", spec := "ballotSets", unfollowed := true, recurses := true, named := ["math/bits.deBruijn32tab"], plainKeys := false, apart := false, laid := [("math/bits.deBruijn32tab", laid_math_bits_deBruijn32tab)] }
def BallotSetsSaid : Prop := ballotSetsRow.holds Tryd.pinned (OpenSpec.ofChange ballotSetsSpec)

/-- ITS FALSE NEIGHBOUR: 'it returns false'. Refute it at one input. -/
def ballotSetsWrong : ChangeSpec := { name := "ballotSets", fn := fun _ => fun
  | [d1, d2, d3, d4] => { results := [.lit (.bool false)], args := [d1, d2, d3, d4] }
  | _ => none }
def BallotSetsWrongFalsely : Prop := ballotSetsRow.holds Tryd.pinned (OpenSpec.ofChange ballotSetsWrong)

/-- 'quorumlaw9.BallotMeet': WHATEVER THE INPUT: true; the input reads as it did. -/
def ballotMeetSpec : ChangeSpec := { name := "ballotMeet", fn := fun _ => fun
  | [d1, d2, d3, d4] => { results := [.lit (.bool true)], args := [d1, d2, d3, d4] }
  | _ => none }
def ballotMeetRow : OpenClaim := { program := "ytehmbcpgendkjaadoor", sum := "0affd977d52ab00c4c689b0c95e872b58a8760a8fda68249ca9ede8130997175", func := "quorum/quorumlaw9.BallotMeet", spec := "ballotMeet", unfollowed := true, recurses := true, named := ["math/bits.deBruijn32tab"], plainKeys := false, apart := false, laid := [("math/bits.deBruijn32tab", laid_math_bits_deBruijn32tab)] }
def BallotMeetSaid : Prop := ballotMeetRow.holds Tryd.pinned (OpenSpec.ofChange ballotMeetSpec)

/-- ITS FALSE NEIGHBOUR: 'it returns false'. Refute it at one input. -/
def ballotMeetWrong : ChangeSpec := { name := "ballotMeet", fn := fun _ => fun
  | [d1, d2, d3, d4] => { results := [.lit (.bool false)], args := [d1, d2, d3, d4] }
  | _ => none }
def BallotMeetWrongFalsely : Prop := ballotMeetRow.holds Tryd.pinned (OpenSpec.ofChange ballotMeetWrong)

/-- 'quorumlaw9.BallotConfigs': WHATEVER THE INPUT: true; the input reads as it did. -/
def ballotConfigsSpec : ChangeSpec := { name := "ballotConfigs", fn := fun _ => fun
  | [d1, d2] => { results := [.lit (.bool true)], args := [d1, d2] }
  | _ => none }
def ballotConfigsRow : OpenClaim := { program := "ytehmbcpgendkjaadoor", sum := "0affd977d52ab00c4c689b0c95e872b58a8760a8fda68249ca9ede8130997175", func := "quorum/quorumlaw9.BallotConfigs", spec := "ballotConfigs", unfollowed := true, recurses := true, named := ["math/bits.deBruijn32tab"], plainKeys := false, apart := false, laid := [("math/bits.deBruijn32tab", laid_math_bits_deBruijn32tab)] }
def BallotConfigsSaid : Prop := ballotConfigsRow.holds Tryd.pinned (OpenSpec.ofChange ballotConfigsSpec)

/-- ITS FALSE NEIGHBOUR: 'it returns false'. Refute it at one input. -/
def ballotConfigsWrong : ChangeSpec := { name := "ballotConfigs", fn := fun _ => fun
  | [d1, d2] => { results := [.lit (.bool false)], args := [d1, d2] }
  | _ => none }
def BallotConfigsWrongFalsely : Prop := ballotConfigsRow.holds Tryd.pinned (OpenSpec.ofChange ballotConfigsWrong)

/-- 'quorumlaw9.BallotTallies': WHATEVER THE INPUT: true; the input reads as it did. -/
def ballotTalliesSpec : ChangeSpec := { name := "ballotTallies", fn := fun _ => fun
  | [d1, d2] => { results := [.lit (.bool true)], args := [d1, d2] }
  | _ => none }
def ballotTalliesRow : OpenClaim := { program := "ytehmbcpgendkjaadoor", sum := "0affd977d52ab00c4c689b0c95e872b58a8760a8fda68249ca9ede8130997175", func := "quorum/quorumlaw9.BallotTallies", spec := "ballotTallies", unfollowed := true, recurses := true, named := ["math/bits.deBruijn32tab"], plainKeys := false, apart := false, laid := [("math/bits.deBruijn32tab", laid_math_bits_deBruijn32tab)] }
def BallotTalliesSaid : Prop := ballotTalliesRow.holds Tryd.pinned (OpenSpec.ofChange ballotTalliesSpec)

/-- ITS FALSE NEIGHBOUR: 'it returns false'. Refute it at one input. -/
def ballotTalliesWrong : ChangeSpec := { name := "ballotTallies", fn := fun _ => fun
  | [d1, d2] => { results := [.lit (.bool false)], args := [d1, d2] }
  | _ => none }
def BallotTalliesWrongFalsely : Prop := ballotTalliesRow.holds Tryd.pinned (OpenSpec.ofChange ballotTalliesWrong)

/-- 'quorumlaw9.BallotSpeakers': WHATEVER THE INPUT: true; the input reads as it did. -/
def ballotSpeakersSpec : ChangeSpec := { name := "ballotSpeakers", fn := fun _ => fun
  | [d1, d2, d3, d4] => { results := [.lit (.bool true)], args := [d1, d2, d3, d4] }
  | _ => none }
def ballotSpeakersRow : OpenClaim := { program := "ytehmbcpgendkjaadoor", sum := "0affd977d52ab00c4c689b0c95e872b58a8760a8fda68249ca9ede8130997175", func := "quorum/quorumlaw9.BallotSpeakers", spec := "ballotSpeakers", unfollowed := true, recurses := true, named := ["math/bits.deBruijn32tab"], plainKeys := false, apart := false, laid := [("math/bits.deBruijn32tab", laid_math_bits_deBruijn32tab)] }
def BallotSpeakersSaid : Prop := ballotSpeakersRow.holds Tryd.pinned (OpenSpec.ofChange ballotSpeakersSpec)

/-- ITS FALSE NEIGHBOUR: 'it returns false'. Refute it at one input. -/
def ballotSpeakersWrong : ChangeSpec := { name := "ballotSpeakers", fn := fun _ => fun
  | [d1, d2, d3, d4] => { results := [.lit (.bool false)], args := [d1, d2, d3, d4] }
  | _ => none }
def BallotSpeakersWrongFalsely : Prop := ballotSpeakersRow.holds Tryd.pinned (OpenSpec.ofChange ballotSpeakersWrong)

/-- 'quorumlaw9.BallotReach': WHATEVER THE INPUT: true; the input reads as it did. -/
def ballotReachSpec : ChangeSpec := { name := "ballotReach", fn := fun _ => fun
  | [d1, d2] => { results := [.lit (.bool true)], args := [d1, d2] }
  | _ => none }
def ballotReachRow : OpenClaim := { program := "ytehmbcpgendkjaadoor", sum := "0affd977d52ab00c4c689b0c95e872b58a8760a8fda68249ca9ede8130997175", func := "quorum/quorumlaw9.BallotReach", spec := "ballotReach", unfollowed := true, recurses := true, named := ["math/bits.deBruijn32tab"], plainKeys := false, apart := false, laid := [("math/bits.deBruijn32tab", laid_math_bits_deBruijn32tab)] }
def BallotReachSaid : Prop := ballotReachRow.holds Tryd.pinned (OpenSpec.ofChange ballotReachSpec)

/-- ITS FALSE NEIGHBOUR: 'it returns false'. Refute it at one input. -/
def ballotReachWrong : ChangeSpec := { name := "ballotReach", fn := fun _ => fun
  | [d1, d2] => { results := [.lit (.bool false)], args := [d1, d2] }
  | _ => none }
def BallotReachWrongFalsely : Prop := ballotReachRow.holds Tryd.pinned (OpenSpec.ofChange ballotReachWrong)

/- THE SECOND FORM. 'bulk': how many values and letters a reading holds, each counted each time it is reached (what is shared counts as often as it is met; a slice's spare places count too). A statement '..UptoSaid' is the law's where the arguments, and the package variables that the reading takes, are together of bulk at most 1048576: NARROWER than '..Said'. Prove '..Said' where nothing that the law and all that it calls make is longer than what came in: it says more and counts as full. Else prove '..UptoSaid'. A law counts once. -/
mutual
def uptoBulk {H : Type} : DataW H → Nat
  | .lit (.string bytes) => bytes.length + 1
  | .lit _ => 1
  | .nil => 1
  | .ptr d => uptoBulk d + 1
  | .slice elems spare => uptoBulkAll elems + uptoBulkAll spare + 1
  | .agg parts => uptoBulkAll parts + 1
  | .iface _ d => uptoBulk d + 1
  | .map entries => uptoBulkEntries entries + 1
  | .held _ => 1
def uptoBulkAll {H : Type} : List (DataW H) → Nat
  | [] => 0
  | d :: r => uptoBulk d + uptoBulkAll r
def uptoBulkEntries {H : Type} : List (Lit × DataW H) → Nat
  | [] => 0
  | x :: r => uptoBulkEntry x + uptoBulkEntries r
def uptoBulkEntry {H : Type} : Lit × DataW H → Nat
  | (.string bytes, d) => bytes.length + uptoBulk d + 1
  | (_, d) => uptoBulk d + 1
 end
def uptoSmall : (H : Type) → List (DataW H) → Bool := fun _ ds => decide (uptoBulkAll ds ≤ 1048576)
def OpenSpec.upto (s : _root_.Go.ChangeSpec) : _root_.Go.OpenSpec := { _root_.Go.OpenSpec.ofChange s with cond := some uptoSmall }

/-- 'quorumlaw9.BallotSets', WHERE WHAT IT READS IS OF BULK AT MOST 1048576: true; the input reads as it did. -/
def ballotSetsUptoRow : OpenClaim := { program := "ytehmbcpgendkjaadoor", sum := "0affd977d52ab00c4c689b0c95e872b58a8760a8fda68249ca9ede8130997175", func := "quorum/quorumlaw9.BallotSets", spec := "ballotSets", unfollowed := true, recurses := true, named := ["math/bits.deBruijn32tab"], plainKeys := false, apart := false, laid := [("math/bits.deBruijn32tab", laid_math_bits_deBruijn32tab)], narrowed := true }
def BallotSetsUptoSaid : Prop := ballotSetsUptoRow.holds Tryd.pinned (OpenSpec.upto ballotSetsSpec)

/-- 'quorumlaw9.BallotMeet', WHERE WHAT IT READS IS OF BULK AT MOST 1048576: true; the input reads as it did. -/
def ballotMeetUptoRow : OpenClaim := { program := "ytehmbcpgendkjaadoor", sum := "0affd977d52ab00c4c689b0c95e872b58a8760a8fda68249ca9ede8130997175", func := "quorum/quorumlaw9.BallotMeet", spec := "ballotMeet", unfollowed := true, recurses := true, named := ["math/bits.deBruijn32tab"], plainKeys := false, apart := false, laid := [("math/bits.deBruijn32tab", laid_math_bits_deBruijn32tab)], narrowed := true }
def BallotMeetUptoSaid : Prop := ballotMeetUptoRow.holds Tryd.pinned (OpenSpec.upto ballotMeetSpec)

/-- 'quorumlaw9.BallotConfigs', WHERE WHAT IT READS IS OF BULK AT MOST 1048576: true; the input reads as it did. -/
def ballotConfigsUptoRow : OpenClaim := { program := "ytehmbcpgendkjaadoor", sum := "0affd977d52ab00c4c689b0c95e872b58a8760a8fda68249ca9ede8130997175", func := "quorum/quorumlaw9.BallotConfigs", spec := "ballotConfigs", unfollowed := true, recurses := true, named := ["math/bits.deBruijn32tab"], plainKeys := false, apart := false, laid := [("math/bits.deBruijn32tab", laid_math_bits_deBruijn32tab)], narrowed := true }
def BallotConfigsUptoSaid : Prop := ballotConfigsUptoRow.holds Tryd.pinned (OpenSpec.upto ballotConfigsSpec)

/-- 'quorumlaw9.BallotTallies', WHERE WHAT IT READS IS OF BULK AT MOST 1048576: true; the input reads as it did. -/
def ballotTalliesUptoRow : OpenClaim := { program := "ytehmbcpgendkjaadoor", sum := "0affd977d52ab00c4c689b0c95e872b58a8760a8fda68249ca9ede8130997175", func := "quorum/quorumlaw9.BallotTallies", spec := "ballotTallies", unfollowed := true, recurses := true, named := ["math/bits.deBruijn32tab"], plainKeys := false, apart := false, laid := [("math/bits.deBruijn32tab", laid_math_bits_deBruijn32tab)], narrowed := true }
def BallotTalliesUptoSaid : Prop := ballotTalliesUptoRow.holds Tryd.pinned (OpenSpec.upto ballotTalliesSpec)

/-- 'quorumlaw9.BallotSpeakers', WHERE WHAT IT READS IS OF BULK AT MOST 1048576: true; the input reads as it did. -/
def ballotSpeakersUptoRow : OpenClaim := { program := "ytehmbcpgendkjaadoor", sum := "0affd977d52ab00c4c689b0c95e872b58a8760a8fda68249ca9ede8130997175", func := "quorum/quorumlaw9.BallotSpeakers", spec := "ballotSpeakers", unfollowed := true, recurses := true, named := ["math/bits.deBruijn32tab"], plainKeys := false, apart := false, laid := [("math/bits.deBruijn32tab", laid_math_bits_deBruijn32tab)], narrowed := true }
def BallotSpeakersUptoSaid : Prop := ballotSpeakersUptoRow.holds Tryd.pinned (OpenSpec.upto ballotSpeakersSpec)

/-- 'quorumlaw9.BallotReach', WHERE WHAT IT READS IS OF BULK AT MOST 1048576: true; the input reads as it did. -/
def ballotReachUptoRow : OpenClaim := { program := "ytehmbcpgendkjaadoor", sum := "0affd977d52ab00c4c689b0c95e872b58a8760a8fda68249ca9ede8130997175", func := "quorum/quorumlaw9.BallotReach", spec := "ballotReach", unfollowed := true, recurses := true, named := ["math/bits.deBruijn32tab"], plainKeys := false, apart := false, laid := [("math/bits.deBruijn32tab", laid_math_bits_deBruijn32tab)], narrowed := true }
def BallotReachUptoSaid : Prop := ballotReachUptoRow.holds Tryd.pinned (OpenSpec.upto ballotReachSpec)

end Rows
end Go.Proofs.YtehmbcpgendkjaaDoor
