/-
  No cell of these rows narrows 'for every input' (looked for: loops, veiled, ifaces, maps, wideKeys, modest, calm, conditions, laid).
  DERIVED. THE GIVEN ROWS OF THIS SEAT. 5 by the template 'for every input the law returns true; each argument reads behind the call as it read before'; 0 by the template 'total and deterministic' (their statements: YtfapaehjmbekpaaTotals.lean).
  GIVEN WITH THE SEED: the statements are not yours to turn. If you find one false, say at which input.
  Laid BY PROGRAM, IN A SANDBOX (cutbox-rows.mjs): the forced cells as the released guide's own fill.sh prints them over the translation 2d1323a421a7df55… (all of the seat's roots in one cut). By AI agents, Wed Nov 11 2026. No macro, syntax, notation, axiom, sorry.
-/
import Derived.Test.YtfapaehjmbekpaaChecked
import GoSem.Claim
import GoSem.ClaimJoined
import GoSem.ClaimMapViews
import Derived.JoinedTies
import Derived.KernelRfl
namespace Go.Proofs.Ytfapaehjmbekpaa
/- THE CELL 'sum', in the pinned program and in every row, IS THE sha256 OF THE DUMP (.gsa) THAT YtfapaehjmbekpaaProg.lean LOADS. Nothing in Lean hashes anything: it is a label: what it is worth is what the hold of that sum in a sandbox is worth. -/
noncomputable def Try.pinned : Pinned := { name := "ytfapaehjmbekpaa", sum := "2d1323a421a7df55d92b8ab40b6127d0a1ff036e74518b85efc366360875023c", checked := Try.checked }
namespace Rows
def none {H : Type} : Left H := { results := [], args := [] }

/-- 'quorumlaw8.WalNames': WHATEVER THE INPUT: true; the input reads as it did. -/
def walNamesSpec : ChangeSpec := { name := "walNames", fn := fun _ => fun
  | [] => { results := [.lit (.bool true)], args := [] }
  | _ => none }
def walNamesRow : OpenClaim := { program := "ytfapaehjmbekpaa", sum := "2d1323a421a7df55d92b8ab40b6127d0a1ff036e74518b85efc366360875023c", func := "quorum/quorumlaw8.WalNames", spec := "walNames", apart := false }
def WalNamesSaid : Prop := walNamesRow.holds Try.pinned (OpenSpec.ofChange walNamesSpec)

/-- ITS FALSE NEIGHBOUR: 'it returns false'. Refute it at one input. -/
def walNamesWrong : ChangeSpec := { name := "walNames", fn := fun _ => fun
  | [] => { results := [.lit (.bool false)], args := [] }
  | _ => none }
def WalNamesWrongFalsely : Prop := walNamesRow.holds Try.pinned (OpenSpec.ofChange walNamesWrong)

/-- 'quorumlaw10.AcceptorNames': WHATEVER THE INPUT: true; the input reads as it did. -/
def acceptorNamesSpec : ChangeSpec := { name := "acceptorNames", fn := fun _ => fun
  | [] => { results := [.lit (.bool true)], args := [] }
  | _ => none }
def acceptorNamesRow : OpenClaim := { program := "ytfapaehjmbekpaa", sum := "2d1323a421a7df55d92b8ab40b6127d0a1ff036e74518b85efc366360875023c", func := "quorum/quorumlaw10.AcceptorNames", spec := "acceptorNames", apart := false }
def AcceptorNamesSaid : Prop := acceptorNamesRow.holds Try.pinned (OpenSpec.ofChange acceptorNamesSpec)

/-- ITS FALSE NEIGHBOUR: 'it returns false'. Refute it at one input. -/
def acceptorNamesWrong : ChangeSpec := { name := "acceptorNames", fn := fun _ => fun
  | [] => { results := [.lit (.bool false)], args := [] }
  | _ => none }
def AcceptorNamesWrongFalsely : Prop := acceptorNamesRow.holds Try.pinned (OpenSpec.ofChange acceptorNamesWrong)

/-- 'quorumlaw13.ElectionNames': WHATEVER THE INPUT: true; the input reads as it did. -/
def electionNamesSpec : ChangeSpec := { name := "electionNames", fn := fun _ => fun
  | [] => { results := [.lit (.bool true)], args := [] }
  | _ => none }
def electionNamesRow : OpenClaim := { program := "ytfapaehjmbekpaa", sum := "2d1323a421a7df55d92b8ab40b6127d0a1ff036e74518b85efc366360875023c", func := "quorum/quorumlaw13.ElectionNames", spec := "electionNames", apart := false }
def ElectionNamesSaid : Prop := electionNamesRow.holds Try.pinned (OpenSpec.ofChange electionNamesSpec)

/-- ITS FALSE NEIGHBOUR: 'it returns false'. Refute it at one input. -/
def electionNamesWrong : ChangeSpec := { name := "electionNames", fn := fun _ => fun
  | [] => { results := [.lit (.bool false)], args := [] }
  | _ => none }
def ElectionNamesWrongFalsely : Prop := electionNamesRow.holds Try.pinned (OpenSpec.ofChange electionNamesWrong)

/-- 'quorumlaw11.ProposerNames': WHATEVER THE INPUT: true; the input reads as it did. -/
def proposerNamesSpec : ChangeSpec := { name := "proposerNames", fn := fun _ => fun
  | [] => { results := [.lit (.bool true)], args := [] }
  | _ => none }
def proposerNamesRow : OpenClaim := { program := "ytfapaehjmbekpaa", sum := "2d1323a421a7df55d92b8ab40b6127d0a1ff036e74518b85efc366360875023c", func := "quorum/quorumlaw11.ProposerNames", spec := "proposerNames", apart := false }
def ProposerNamesSaid : Prop := proposerNamesRow.holds Try.pinned (OpenSpec.ofChange proposerNamesSpec)

/-- ITS FALSE NEIGHBOUR: 'it returns false'. Refute it at one input. -/
def proposerNamesWrong : ChangeSpec := { name := "proposerNames", fn := fun _ => fun
  | [] => { results := [.lit (.bool false)], args := [] }
  | _ => none }
def ProposerNamesWrongFalsely : Prop := proposerNamesRow.holds Try.pinned (OpenSpec.ofChange proposerNamesWrong)

/-- 'quorumlaw12.LearnerNames': WHATEVER THE INPUT: true; the input reads as it did. -/
def learnerNamesSpec : ChangeSpec := { name := "learnerNames", fn := fun _ => fun
  | [] => { results := [.lit (.bool true)], args := [] }
  | _ => none }
def learnerNamesRow : OpenClaim := { program := "ytfapaehjmbekpaa", sum := "2d1323a421a7df55d92b8ab40b6127d0a1ff036e74518b85efc366360875023c", func := "quorum/quorumlaw12.LearnerNames", spec := "learnerNames", apart := false }
def LearnerNamesSaid : Prop := learnerNamesRow.holds Try.pinned (OpenSpec.ofChange learnerNamesSpec)

/-- ITS FALSE NEIGHBOUR: 'it returns false'. Refute it at one input. -/
def learnerNamesWrong : ChangeSpec := { name := "learnerNames", fn := fun _ => fun
  | [] => { results := [.lit (.bool false)], args := [] }
  | _ => none }
def LearnerNamesWrongFalsely : Prop := learnerNamesRow.holds Try.pinned (OpenSpec.ofChange learnerNamesWrong)

/- THE SECOND FORM. 'bulk': how many values and letters a reading holds, each counted each time it is reached (what is shared counts as often as it is met; a slice's spare places count too). A statement '..UptoSaid' is the law's where the arguments, and the package variables that the reading takes, are together of bulk at most 1048576: NARROWER than '..Said'. Prove '..Said' where nothing that the law and all that it calls make is longer than what came in: it says more and counts as full. Else prove '..UptoSaid'. A law counts once. -/
mutual
def uptoBulk {H : Type} : DataW H → Nat
  | .lit (.string bytes) => bytes.length + 1
  | .lit _ => 1
  | .nil => 1
  | .ptr d => uptoBulk d + 1
  | .slice elems spare => uptoBulkAll elems + uptoBulkAll spare + 1
  | .agg parts => uptoBulkAll parts + 1
  | .iface _ d => uptoBulk d + 1
  | .map entries => uptoBulkEntries entries + 1
  | .held _ => 1
def uptoBulkAll {H : Type} : List (DataW H) → Nat
  | [] => 0
  | d :: r => uptoBulk d + uptoBulkAll r
def uptoBulkEntries {H : Type} : List (Lit × DataW H) → Nat
  | [] => 0
  | x :: r => uptoBulkEntry x + uptoBulkEntries r
def uptoBulkEntry {H : Type} : Lit × DataW H → Nat
  | (.string bytes, d) => bytes.length + uptoBulk d + 1
  | (_, d) => uptoBulk d + 1
 end
def uptoSmall : (H : Type) → List (DataW H) → Bool := fun _ ds => decide (uptoBulkAll ds ≤ 1048576)
def OpenSpec.upto (s : _root_.Go.ChangeSpec) : _root_.Go.OpenSpec := { _root_.Go.OpenSpec.ofChange s with cond := some uptoSmall }

/-- 'quorumlaw8.WalNames', WHERE WHAT IT READS IS OF BULK AT MOST 1048576: true; the input reads as it did. -/
def walNamesUptoRow : OpenClaim := { program := "ytfapaehjmbekpaa", sum := "2d1323a421a7df55d92b8ab40b6127d0a1ff036e74518b85efc366360875023c", func := "quorum/quorumlaw8.WalNames", spec := "walNames", apart := false, narrowed := true }
def WalNamesUptoSaid : Prop := walNamesUptoRow.holds Try.pinned (OpenSpec.upto walNamesSpec)

/-- 'quorumlaw10.AcceptorNames', WHERE WHAT IT READS IS OF BULK AT MOST 1048576: true; the input reads as it did. -/
def acceptorNamesUptoRow : OpenClaim := { program := "ytfapaehjmbekpaa", sum := "2d1323a421a7df55d92b8ab40b6127d0a1ff036e74518b85efc366360875023c", func := "quorum/quorumlaw10.AcceptorNames", spec := "acceptorNames", apart := false, narrowed := true }
def AcceptorNamesUptoSaid : Prop := acceptorNamesUptoRow.holds Try.pinned (OpenSpec.upto acceptorNamesSpec)

/-- 'quorumlaw13.ElectionNames', WHERE WHAT IT READS IS OF BULK AT MOST 1048576: true; the input reads as it did. -/
def electionNamesUptoRow : OpenClaim := { program := "ytfapaehjmbekpaa", sum := "2d1323a421a7df55d92b8ab40b6127d0a1ff036e74518b85efc366360875023c", func := "quorum/quorumlaw13.ElectionNames", spec := "electionNames", apart := false, narrowed := true }
def ElectionNamesUptoSaid : Prop := electionNamesUptoRow.holds Try.pinned (OpenSpec.upto electionNamesSpec)

/-- 'quorumlaw11.ProposerNames', WHERE WHAT IT READS IS OF BULK AT MOST 1048576: true; the input reads as it did. -/
def proposerNamesUptoRow : OpenClaim := { program := "ytfapaehjmbekpaa", sum := "2d1323a421a7df55d92b8ab40b6127d0a1ff036e74518b85efc366360875023c", func := "quorum/quorumlaw11.ProposerNames", spec := "proposerNames", apart := false, narrowed := true }
def ProposerNamesUptoSaid : Prop := proposerNamesUptoRow.holds Try.pinned (OpenSpec.upto proposerNamesSpec)

/-- 'quorumlaw12.LearnerNames', WHERE WHAT IT READS IS OF BULK AT MOST 1048576: true; the input reads as it did. -/
def learnerNamesUptoRow : OpenClaim := { program := "ytfapaehjmbekpaa", sum := "2d1323a421a7df55d92b8ab40b6127d0a1ff036e74518b85efc366360875023c", func := "quorum/quorumlaw12.LearnerNames", spec := "learnerNames", apart := false, narrowed := true }
def LearnerNamesUptoSaid : Prop := learnerNamesUptoRow.holds Try.pinned (OpenSpec.upto learnerNamesSpec)

end Rows
end Go.Proofs.Ytfapaehjmbekpaa
