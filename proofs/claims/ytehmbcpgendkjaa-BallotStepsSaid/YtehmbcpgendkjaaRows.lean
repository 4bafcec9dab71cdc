/-
  No cell of these rows narrows 'for every input' (looked for: loops, veiled, ifaces, maps, wideKeys, modest, calm, conditions, laid).
  DERIVED. THE GIVEN ROWS OF THIS SEAT. 8 by the template 'for every input the law returns true; each argument reads behind the call as it read before'; 0 by the template 'total and deterministic' (their statements: YtehmbcpgendkjaaTotals.lean).
  GIVEN WITH THE SEED: the statements are not yours to turn. If you find one false, say at which input.
  Laid BY PROGRAM, IN A SANDBOX (cutbox-rows.mjs): the forced cells as the released guide's own fill.sh prints them over the translation c53c6784a586d070… (all of the seat's roots in one cut). By AI agents, Wed Nov 11 2026. No macro, syntax, notation, axiom, sorry.
-/
import Derived.Test.YtehmbcpgendkjaaChecked
import GoSem.Claim
import GoSem.ClaimJoined
import GoSem.ClaimMapViews
import Derived.JoinedTies
import Derived.KernelRfl
namespace Go.Proofs.Ytehmbcpgendkjaa
/- THE CELL 'sum', in the pinned program and in every row, IS THE sha256 OF THE DUMP (.gsa) THAT YtehmbcpgendkjaaProg.lean LOADS. Nothing in Lean hashes anything: it is a label: what it is worth is what the hold of that sum in a sandbox is worth. -/
noncomputable def Try.pinned : Pinned := { name := "ytehmbcpgendkjaa", sum := "c53c6784a586d070a5f279b6c0805ecf62b167c8fe7ce89376b3c71947705468", checked := Try.checked }
namespace Rows
def none {H : Type} : Left H := { results := [], args := [] }

/-- 'quorumlaw9.BallotNames': WHATEVER THE INPUT: true; the input reads as it did. -/
def ballotNamesSpec : ChangeSpec := { name := "ballotNames", fn := fun _ => fun
  | [] => { results := [.lit (.bool true)], args := [] }
  | _ => none }
def ballotNamesRow : OpenClaim := { program := "ytehmbcpgendkjaa", sum := "c53c6784a586d070a5f279b6c0805ecf62b167c8fe7ce89376b3c71947705468", func := "quorum/quorumlaw9.BallotNames", spec := "ballotNames", apart := false }
def BallotNamesSaid : Prop := ballotNamesRow.holds Try.pinned (OpenSpec.ofChange ballotNamesSpec)

/-- ITS FALSE NEIGHBOUR: 'it returns false'. Refute it at one input. -/
def ballotNamesWrong : ChangeSpec := { name := "ballotNames", fn := fun _ => fun
  | [] => { results := [.lit (.bool false)], args := [] }
  | _ => none }
def BallotNamesWrongFalsely : Prop := ballotNamesRow.holds Try.pinned (OpenSpec.ofChange ballotNamesWrong)

/-- 'quorumlaw9.BallotTotal': WHATEVER THE INPUT: true; the input reads as it did. -/
def ballotTotalSpec : ChangeSpec := { name := "ballotTotal", fn := fun _ => fun
  | [d1, d2, d3] => { results := [.lit (.bool true)], args := [d1, d2, d3] }
  | _ => none }
def ballotTotalRow : OpenClaim := { program := "ytehmbcpgendkjaa", sum := "c53c6784a586d070a5f279b6c0805ecf62b167c8fe7ce89376b3c71947705468", func := "quorum/quorumlaw9.BallotTotal", spec := "ballotTotal", apart := false }
def BallotTotalSaid : Prop := ballotTotalRow.holds Try.pinned (OpenSpec.ofChange ballotTotalSpec)

/-- ITS FALSE NEIGHBOUR: 'it returns false'. Refute it at one input. -/
def ballotTotalWrong : ChangeSpec := { name := "ballotTotal", fn := fun _ => fun
  | [d1, d2, d3] => { results := [.lit (.bool false)], args := [d1, d2, d3] }
  | _ => none }
def BallotTotalWrongFalsely : Prop := ballotTotalRow.holds Try.pinned (OpenSpec.ofChange ballotTotalWrong)

/-- 'quorumlaw9.BallotSlots': WHATEVER THE INPUT: true; the input reads as it did. -/
def ballotSlotsSpec : ChangeSpec := { name := "ballotSlots", fn := fun _ => fun
  | [d1, d2, d3] => { results := [.lit (.bool true)], args := [d1, d2, d3] }
  | _ => none }
def ballotSlotsRow : OpenClaim := { program := "ytehmbcpgendkjaa", sum := "c53c6784a586d070a5f279b6c0805ecf62b167c8fe7ce89376b3c71947705468", func := "quorum/quorumlaw9.BallotSlots", spec := "ballotSlots", apart := false }
def BallotSlotsSaid : Prop := ballotSlotsRow.holds Try.pinned (OpenSpec.ofChange ballotSlotsSpec)

/-- ITS FALSE NEIGHBOUR: 'it returns false'. Refute it at one input. -/
def ballotSlotsWrong : ChangeSpec := { name := "ballotSlots", fn := fun _ => fun
  | [d1, d2, d3] => { results := [.lit (.bool false)], args := [d1, d2, d3] }
  | _ => none }
def BallotSlotsWrongFalsely : Prop := ballotSlotsRow.holds Try.pinned (OpenSpec.ofChange ballotSlotsWrong)

/-- 'quorumlaw9.BallotOrders': WHATEVER THE INPUT: true; the input reads as it did. -/
def ballotOrdersSpec : ChangeSpec := { name := "ballotOrders", fn := fun _ => fun
  | [d1, d2, d3] => { results := [.lit (.bool true)], args := [d1, d2, d3] }
  | _ => none }
def ballotOrdersRow : OpenClaim := { program := "ytehmbcpgendkjaa", sum := "c53c6784a586d070a5f279b6c0805ecf62b167c8fe7ce89376b3c71947705468", func := "quorum/quorumlaw9.BallotOrders", spec := "ballotOrders", apart := false }
def BallotOrdersSaid : Prop := ballotOrdersRow.holds Try.pinned (OpenSpec.ofChange ballotOrdersSpec)

/-- ITS FALSE NEIGHBOUR: 'it returns false'. Refute it at one input. -/
def ballotOrdersWrong : ChangeSpec := { name := "ballotOrders", fn := fun _ => fun
  | [d1, d2, d3] => { results := [.lit (.bool false)], args := [d1, d2, d3] }
  | _ => none }
def BallotOrdersWrongFalsely : Prop := ballotOrdersRow.holds Try.pinned (OpenSpec.ofChange ballotOrdersWrong)

/-- 'quorumlaw9.BallotBetween': WHATEVER THE INPUT: true; the input reads as it did. -/
def ballotBetweenSpec : ChangeSpec := { name := "ballotBetween", fn := fun _ => fun
  | [d1, d2, d3, d4] => { results := [.lit (.bool true)], args := [d1, d2, d3, d4] }
  | _ => none }
def ballotBetweenRow : OpenClaim := { program := "ytehmbcpgendkjaa", sum := "c53c6784a586d070a5f279b6c0805ecf62b167c8fe7ce89376b3c71947705468", func := "quorum/quorumlaw9.BallotBetween", spec := "ballotBetween", apart := false }
def BallotBetweenSaid : Prop := ballotBetweenRow.holds Try.pinned (OpenSpec.ofChange ballotBetweenSpec)

/-- ITS FALSE NEIGHBOUR: 'it returns false'. Refute it at one input. -/
def ballotBetweenWrong : ChangeSpec := { name := "ballotBetween", fn := fun _ => fun
  | [d1, d2, d3, d4] => { results := [.lit (.bool false)], args := [d1, d2, d3, d4] }
  | _ => none }
def BallotBetweenWrongFalsely : Prop := ballotBetweenRow.holds Try.pinned (OpenSpec.ofChange ballotBetweenWrong)

/-- 'quorumlaw9.BallotRanks': WHATEVER THE INPUT: true; the input reads as it did. -/
def ballotRanksSpec : ChangeSpec := { name := "ballotRanks", fn := fun _ => fun
  | [d1, d2, d3] => { results := [.lit (.bool true)], args := [d1, d2, d3] }
  | _ => none }
def ballotRanksRow : OpenClaim := { program := "ytehmbcpgendkjaa", sum := "c53c6784a586d070a5f279b6c0805ecf62b167c8fe7ce89376b3c71947705468", func := "quorum/quorumlaw9.BallotRanks", spec := "ballotRanks", apart := false }
def BallotRanksSaid : Prop := ballotRanksRow.holds Try.pinned (OpenSpec.ofChange ballotRanksSpec)

/-- ITS FALSE NEIGHBOUR: 'it returns false'. Refute it at one input. -/
def ballotRanksWrong : ChangeSpec := { name := "ballotRanks", fn := fun _ => fun
  | [d1, d2, d3] => { results := [.lit (.bool false)], args := [d1, d2, d3] }
  | _ => none }
def BallotRanksWrongFalsely : Prop := ballotRanksRow.holds Try.pinned (OpenSpec.ofChange ballotRanksWrong)

/-- 'quorumlaw9.BallotSteps': WHATEVER THE INPUT: true; the input reads as it did. -/
def ballotStepsSpec : ChangeSpec := { name := "ballotSteps", fn := fun _ => fun
  | [d1, d2, d3, d4] => { results := [.lit (.bool true)], args := [d1, d2, d3, d4] }
  | _ => none }
def ballotStepsRow : OpenClaim := { program := "ytehmbcpgendkjaa", sum := "c53c6784a586d070a5f279b6c0805ecf62b167c8fe7ce89376b3c71947705468", func := "quorum/quorumlaw9.BallotSteps", spec := "ballotSteps", apart := false }
def BallotStepsSaid : Prop := ballotStepsRow.holds Try.pinned (OpenSpec.ofChange ballotStepsSpec)

/-- ITS FALSE NEIGHBOUR: 'it returns false'. Refute it at one input. -/
def ballotStepsWrong : ChangeSpec := { name := "ballotSteps", fn := fun _ => fun
  | [d1, d2, d3, d4] => { results := [.lit (.bool false)], args := [d1, d2, d3, d4] }
  | _ => none }
def BallotStepsWrongFalsely : Prop := ballotStepsRow.holds Try.pinned (OpenSpec.ofChange ballotStepsWrong)

/-- 'quorumlaw9.BallotMarks': WHATEVER THE INPUT: true; the input reads as it did. -/
def ballotMarksSpec : ChangeSpec := { name := "ballotMarks", fn := fun _ => fun
  | [d1, d2, d3, d4, d5] => { results := [.lit (.bool true)], args := [d1, d2, d3, d4, d5] }
  | _ => none }
def ballotMarksRow : OpenClaim := { program := "ytehmbcpgendkjaa", sum := "c53c6784a586d070a5f279b6c0805ecf62b167c8fe7ce89376b3c71947705468", func := "quorum/quorumlaw9.BallotMarks", spec := "ballotMarks", recurses := true, apart := false }
def BallotMarksSaid : Prop := ballotMarksRow.holds Try.pinned (OpenSpec.ofChange ballotMarksSpec)

/-- ITS FALSE NEIGHBOUR: 'it returns false'. Refute it at one input. -/
def ballotMarksWrong : ChangeSpec := { name := "ballotMarks", fn := fun _ => fun
  | [d1, d2, d3, d4, d5] => { results := [.lit (.bool false)], args := [d1, d2, d3, d4, d5] }
  | _ => none }
def BallotMarksWrongFalsely : Prop := ballotMarksRow.holds Try.pinned (OpenSpec.ofChange ballotMarksWrong)

/- THE SECOND FORM. 'bulk': how many values and letters a reading holds, each counted each time it is reached (what is shared counts as often as it is met; a slice's spare places count too). A statement '..UptoSaid' is the law's where the arguments, and the package variables that the reading takes, are together of bulk at most 1048576: NARROWER than '..Said'. Prove '..Said' where nothing that the law and all that it calls make is longer than what came in: it says more and counts as full. Else prove '..UptoSaid'. A law counts once. -/
mutual
def uptoBulk {H : Type} : DataW H → Nat
  | .lit (.string bytes) => bytes.length + 1
  | .lit _ => 1
  | .nil => 1
  | .ptr d => uptoBulk d + 1
  | .slice elems spare => uptoBulkAll elems + uptoBulkAll spare + 1
  | .agg parts => uptoBulkAll parts + 1
  | .iface _ d => uptoBulk d + 1
  | .map entries => uptoBulkEntries entries + 1
  | .held _ => 1
def uptoBulkAll {H : Type} : List (DataW H) → Nat
  | [] => 0
  | d :: r => uptoBulk d + uptoBulkAll r
def uptoBulkEntries {H : Type} : List (Lit × DataW H) → Nat
  | [] => 0
  | x :: r => uptoBulkEntry x + uptoBulkEntries r
def uptoBulkEntry {H : Type} : Lit × DataW H → Nat
  | (.string bytes, d) => bytes.length + uptoBulk d + 1
  | (_, d) => uptoBulk d + 1
 end
def uptoSmall : (H : Type) → List (DataW H) → Bool := fun _ ds => decide (uptoBulkAll ds ≤ 1048576)
def OpenSpec.upto (s : _root_.Go.ChangeSpec) : _root_.Go.OpenSpec := { _root_.Go.OpenSpec.ofChange s with cond := some uptoSmall }

/-- 'quorumlaw9.BallotNames', WHERE WHAT IT READS IS OF BULK AT MOST 1048576: true; the input reads as it did. -/
def ballotNamesUptoRow : OpenClaim := { program := "ytehmbcpgendkjaa", sum := "c53c6784a586d070a5f279b6c0805ecf62b167c8fe7ce89376b3c71947705468", func := "quorum/quorumlaw9.BallotNames", spec := "ballotNames", apart := false, narrowed := true }
def BallotNamesUptoSaid : Prop := ballotNamesUptoRow.holds Try.pinned (OpenSpec.upto ballotNamesSpec)

/-- 'quorumlaw9.BallotTotal', WHERE WHAT IT READS IS OF BULK AT MOST 1048576: true; the input reads as it did. -/
def ballotTotalUptoRow : OpenClaim := { program := "ytehmbcpgendkjaa", sum := "c53c6784a586d070a5f279b6c0805ecf62b167c8fe7ce89376b3c71947705468", func := "quorum/quorumlaw9.BallotTotal", spec := "ballotTotal", apart := false, narrowed := true }
def BallotTotalUptoSaid : Prop := ballotTotalUptoRow.holds Try.pinned (OpenSpec.upto ballotTotalSpec)

/-- 'quorumlaw9.BallotSlots', WHERE WHAT IT READS IS OF BULK AT MOST 1048576: true; the input reads as it did. -/
def ballotSlotsUptoRow : OpenClaim := { program := "ytehmbcpgendkjaa", sum := "c53c6784a586d070a5f279b6c0805ecf62b167c8fe7ce89376b3c71947705468", func := "quorum/quorumlaw9.BallotSlots", spec := "ballotSlots", apart := false, narrowed := true }
def BallotSlotsUptoSaid : Prop := ballotSlotsUptoRow.holds Try.pinned (OpenSpec.upto ballotSlotsSpec)

/-- 'quorumlaw9.BallotOrders', WHERE WHAT IT READS IS OF BULK AT MOST 1048576: true; the input reads as it did. -/
def ballotOrdersUptoRow : OpenClaim := { program := "ytehmbcpgendkjaa", sum := "c53c6784a586d070a5f279b6c0805ecf62b167c8fe7ce89376b3c71947705468", func := "quorum/quorumlaw9.BallotOrders", spec := "ballotOrders", apart := false, narrowed := true }
def BallotOrdersUptoSaid : Prop := ballotOrdersUptoRow.holds Try.pinned (OpenSpec.upto ballotOrdersSpec)

/-- 'quorumlaw9.BallotBetween', WHERE WHAT IT READS IS OF BULK AT MOST 1048576: true; the input reads as it did. -/
def ballotBetweenUptoRow : OpenClaim := { program := "ytehmbcpgendkjaa", sum := "c53c6784a586d070a5f279b6c0805ecf62b167c8fe7ce89376b3c71947705468", func := "quorum/quorumlaw9.BallotBetween", spec := "ballotBetween", apart := false, narrowed := true }
def BallotBetweenUptoSaid : Prop := ballotBetweenUptoRow.holds Try.pinned (OpenSpec.upto ballotBetweenSpec)

/-- 'quorumlaw9.BallotRanks', WHERE WHAT IT READS IS OF BULK AT MOST 1048576: true; the input reads as it did. -/
def ballotRanksUptoRow : OpenClaim := { program := "ytehmbcpgendkjaa", sum := "c53c6784a586d070a5f279b6c0805ecf62b167c8fe7ce89376b3c71947705468", func := "quorum/quorumlaw9.BallotRanks", spec := "ballotRanks", apart := false, narrowed := true }
def BallotRanksUptoSaid : Prop := ballotRanksUptoRow.holds Try.pinned (OpenSpec.upto ballotRanksSpec)

/-- 'quorumlaw9.BallotSteps', WHERE WHAT IT READS IS OF BULK AT MOST 1048576: true; the input reads as it did. -/
def ballotStepsUptoRow : OpenClaim := { program := "ytehmbcpgendkjaa", sum := "c53c6784a586d070a5f279b6c0805ecf62b167c8fe7ce89376b3c71947705468", func := "quorum/quorumlaw9.BallotSteps", spec := "ballotSteps", apart := false, narrowed := true }
def BallotStepsUptoSaid : Prop := ballotStepsUptoRow.holds Try.pinned (OpenSpec.upto ballotStepsSpec)

/-- 'quorumlaw9.BallotMarks', WHERE WHAT IT READS IS OF BULK AT MOST 1048576: true; the input reads as it did. -/
def ballotMarksUptoRow : OpenClaim := { program := "ytehmbcpgendkjaa", sum := "c53c6784a586d070a5f279b6c0805ecf62b167c8fe7ce89376b3c71947705468", func := "quorum/quorumlaw9.BallotMarks", spec := "ballotMarks", recurses := true, apart := false, narrowed := true }
def BallotMarksUptoSaid : Prop := ballotMarksUptoRow.holds Try.pinned (OpenSpec.upto ballotMarksSpec)

end Rows
end Go.Proofs.Ytehmbcpgendkjaa
