/-
  NARROWER THAN 'FOR EVERY INPUT', by the rows' own cells (each row's printed sentence says how): WalForms: laid · WalReads: laid.
  DERIVED. THE GIVEN ROWS OF THIS SEAT. 2 by the template 'for every input the law returns true; each argument reads behind the call as it read before'; 0 by the template 'total and deterministic' (their statements: YtfapaehjmbekpaaDoorTotals.lean).
  GIVEN WITH THE SEED: the statements are not yours to turn. If you find one false, say at which input.
  Laid BY PROGRAM, IN A SANDBOX (cutbox-rows.mjs): the forced cells as the released guide's own fill.sh prints them over the translation 5a7ab216c65cebba… (all of the seat's roots in one cut). By AI agents, Wed Nov 11 2026. No macro, syntax, notation, axiom, sorry.
-/
import Derived.Test.YtfapaehjmbekpaaDoorChecked
import GoSem.Claim
import GoSem.ClaimJoined
import GoSem.ClaimMapViews
import Derived.JoinedTies
import Derived.KernelRfl
namespace Go.Proofs.YtfapaehjmbekpaaDoor
/- THE CELL 'sum', in the pinned program and in every row, IS THE sha256 OF THE DUMP (.gsa) THAT YtfapaehjmbekpaaDoorProg.lean LOADS. Nothing in Lean hashes anything: it is a label: what it is worth is what the hold of that sum in a sandbox is worth. -/
noncomputable def Tryd.pinned : Pinned := { name := "ytfapaehjmbekpaadoor", sum := "5a7ab216c65cebba3dc73d8976539ac15406d9591dae83b2bf3d97ef00103fd0", checked := Tryd.checked }
namespace Rows
def none {H : Type} : Left H := { results := [], args := [] }

/- WHAT THE LISTED PACKAGE-LEVEL VARIABLES READ AS WHEN THE CALL BEGINS. Each datum BY PROGRAM (the guide's laid-datum.mjs) off the statement by which the dump's own 'gosem.cut.vars' lays the variable. In a bare row this is a premise. The card (YtfapaehjmbekpaaDoorCards.lean) ties it to the program's text. -/
def laid_quorum_wire_nibbles {H : Type} : DataW H := .agg [.lit (.int .u32 0), .lit (.int .u32 274646895), .lit (.int .u32 549293790), .lit (.int .u32 820201905), .lit (.int .u32 1098587580), .lit (.int .u32 1361435347), .lit (.int .u32 1640403810), .lit (.int .u32 1905808397), .lit (.int .u32 2197175160), .lit (.int .u32 2460548119), .lit (.int .u32 2722870694), .lit (.int .u32 2987750089), .lit (.int .u32 3280807620), .lit (.int .u32 3553878443), .lit (.int .u32 3811616794), .lit (.int .u32 4084100981)]

/-- 'quorumlaw8.WalForms': WHATEVER THE INPUT: true; the input reads as it did. -/
def walFormsSpec : ChangeSpec := { name := "walForms", fn := fun _ => fun
  | [d1, d2, d3, d4, d5] => { results := [.lit (.bool true)], args := [d1, d2, d3, d4, d5] }
  | _ => none }
def walFormsRow : OpenClaim := { program := "ytfapaehjmbekpaadoor", sum := "5a7ab216c65cebba3dc73d8976539ac15406d9591dae83b2bf3d97ef00103fd0", func := "quorum/quorumlaw8.WalForms", spec := "walForms", named := ["quorum/wire.nibbles"], apart := false, laid := [("quorum/wire.nibbles", laid_quorum_wire_nibbles)] }
def WalFormsSaid : Prop := walFormsRow.holds Tryd.pinned (OpenSpec.ofChange walFormsSpec)

/-- ITS FALSE NEIGHBOUR: 'it returns false'. Refute it at one input. -/
def walFormsWrong : ChangeSpec := { name := "walForms", fn := fun _ => fun
  | [d1, d2, d3, d4, d5] => { results := [.lit (.bool false)], args := [d1, d2, d3, d4, d5] }
  | _ => none }
def WalFormsWrongFalsely : Prop := walFormsRow.holds Tryd.pinned (OpenSpec.ofChange walFormsWrong)

/-- 'quorumlaw8.WalReads': WHATEVER THE INPUT: true; the input reads as it did. -/
def walReadsSpec : ChangeSpec := { name := "walReads", fn := fun _ => fun
  | [d1, d2, d3, d4, d5] => { results := [.lit (.bool true)], args := [d1, d2, d3, d4, d5] }
  | _ => none }
def walReadsRow : OpenClaim := { program := "ytfapaehjmbekpaadoor", sum := "5a7ab216c65cebba3dc73d8976539ac15406d9591dae83b2bf3d97ef00103fd0", func := "quorum/quorumlaw8.WalReads", spec := "walReads", named := ["quorum/wire.nibbles"], apart := false, laid := [("quorum/wire.nibbles", laid_quorum_wire_nibbles)] }
def WalReadsSaid : Prop := walReadsRow.holds Tryd.pinned (OpenSpec.ofChange walReadsSpec)

/-- ITS FALSE NEIGHBOUR: 'it returns false'. Refute it at one input. -/
def walReadsWrong : ChangeSpec := { name := "walReads", fn := fun _ => fun
  | [d1, d2, d3, d4, d5] => { results := [.lit (.bool false)], args := [d1, d2, d3, d4, d5] }
  | _ => none }
def WalReadsWrongFalsely : Prop := walReadsRow.holds Tryd.pinned (OpenSpec.ofChange walReadsWrong)

/- THE SECOND FORM. 'bulk': how many values and letters a reading holds, each counted each time it is reached (what is shared counts as often as it is met; a slice's spare places count too). A statement '..UptoSaid' is the law's where the arguments, and the package variables that the reading takes, are together of bulk at most 1048576: NARROWER than '..Said'. Prove '..Said' where nothing that the law and all that it calls make is longer than what came in: it says more and counts as full. Else prove '..UptoSaid'. A law counts once. -/
mutual
def uptoBulk {H : Type} : DataW H → Nat
  | .lit (.string bytes) => bytes.length + 1
  | .lit _ => 1
  | .nil => 1
  | .ptr d => uptoBulk d + 1
  | .slice elems spare => uptoBulkAll elems + uptoBulkAll spare + 1
  | .agg parts => uptoBulkAll parts + 1
  | .iface _ d => uptoBulk d + 1
  | .map entries => uptoBulkEntries entries + 1
  | .held _ => 1
def uptoBulkAll {H : Type} : List (DataW H) → Nat
  | [] => 0
  | d :: r => uptoBulk d + uptoBulkAll r
def uptoBulkEntries {H : Type} : List (Lit × DataW H) → Nat
  | [] => 0
  | x :: r => uptoBulkEntry x + uptoBulkEntries r
def uptoBulkEntry {H : Type} : Lit × DataW H → Nat
  | (.string bytes, d) => bytes.length + uptoBulk d + 1
  | (_, d) => uptoBulk d + 1
 end
def uptoSmall : (H : Type) → List (DataW H) → Bool := fun _ ds => decide (uptoBulkAll ds ≤ 1048576)
def OpenSpec.upto (s : _root_.Go.ChangeSpec) : _root_.Go.OpenSpec := { _root_.Go.OpenSpec.ofChange s with cond := some uptoSmall }

/-- 'quorumlaw8.WalForms', WHERE WHAT IT READS IS OF BULK AT MOST 1048576: true; the input reads as it did. -/
def walFormsUptoRow : OpenClaim := { program := "ytfapaehjmbekpaadoor", sum := "5a7ab216c65cebba3dc73d8976539ac15406d9591dae83b2bf3d97ef00103fd0", func := "quorum/quorumlaw8.WalForms", spec := "walForms", named := ["quorum/wire.nibbles"], apart := false, laid := [("quorum/wire.nibbles", laid_quorum_wire_nibbles)], narrowed := true }
def WalFormsUptoSaid : Prop := walFormsUptoRow.holds Tryd.pinned (OpenSpec.upto walFormsSpec)

/-- 'quorumlaw8.WalReads', WHERE WHAT IT READS IS OF BULK AT MOST 1048576: true; the input reads as it did. -/
def walReadsUptoRow : OpenClaim := { program := "ytfapaehjmbekpaadoor", sum := "5a7ab216c65cebba3dc73d8976539ac15406d9591dae83b2bf3d97ef00103fd0", func := "quorum/quorumlaw8.WalReads", spec := "walReads", named := ["quorum/wire.nibbles"], apart := false, laid := [("quorum/wire.nibbles", laid_quorum_wire_nibbles)], narrowed := true }
def WalReadsUptoSaid : Prop := walReadsUptoRow.holds Tryd.pinned (OpenSpec.upto walReadsSpec)

end Rows
end Go.Proofs.YtfapaehjmbekpaaDoor
