/-
  DERIVED. GIVEN WITH THE SEED: THE CARDS: each row of YtfapaehjmbekpaaDoorRows.lean that lists a variable, with what it lists TIED to the program's text (the seventh form; the later family's looks); each row that meets fmt, with fmt's text TOLD by the authors' own Lean function (tested against real Go, not proved from fmt's source: count such statements apart). THE CARD IS WHAT COUNTS. Prove the row's statement (the work); the ties are given (YtfapaehjmbekpaaDoorTie.lean); close each card by the builder's one call (the guide's Derived/Test/ToyasCard.lean, 'card_holds'). Laid BY PROGRAM, IN A SANDBOX (cutbox-door.mjs). By AI agents, Wed Nov 11 2026. No macro, syntax, notation, axiom, sorry.
-/
import Derived.Test.YtfapaehjmbekpaaDoorRows
import GoSem.ClaimSeven
namespace Go.Proofs.YtfapaehjmbekpaaDoor
namespace Rows

/-- THE TIED CARD OF 'quorumlaw8.WalForms'. -/
def walFormsCard : Claim7 := { stood := { row := walFormsRow, standIns := [], harness := (true, "3d0d9fe90372f35c8f92f2bdff720e581dbb3b52e4fde549c828f1b79eef365b"), looks := true }, kinds := [], alts := [], laidByText := true, laidKinds := [.data], laidTests := true, laidLooks := .later }
def WalFormsCardSaid : Prop := Claim7.holds Tryd.pinned (.plain (OpenSpec.ofChange walFormsSpec)) walFormsCard

/-- THE TIED CARD OF 'quorumlaw8.WalReads'. -/
def walReadsCard : Claim7 := { stood := { row := walReadsRow, standIns := [], harness := (true, "3d0d9fe90372f35c8f92f2bdff720e581dbb3b52e4fde549c828f1b79eef365b"), looks := true }, kinds := [], alts := [], laidByText := true, laidKinds := [.data], laidTests := true, laidLooks := .later }
def WalReadsCardSaid : Prop := Claim7.holds Tryd.pinned (.plain (OpenSpec.ofChange walReadsSpec)) walReadsCard

/-- THE SECOND FORM's CARD OF 'quorumlaw8.WalForms'. -/
def walFormsUptoCard : Claim7 := { stood := { row := walFormsUptoRow, standIns := [], harness := (true, "3d0d9fe90372f35c8f92f2bdff720e581dbb3b52e4fde549c828f1b79eef365b"), looks := true }, kinds := [], alts := [], laidByText := true, laidKinds := [.data], laidTests := true, laidLooks := .later }
def WalFormsUptoCardSaid : Prop := Claim7.holds Tryd.pinned (.plain (OpenSpec.upto walFormsSpec)) walFormsUptoCard

/-- THE SECOND FORM's CARD OF 'quorumlaw8.WalReads'. -/
def walReadsUptoCard : Claim7 := { stood := { row := walReadsUptoRow, standIns := [], harness := (true, "3d0d9fe90372f35c8f92f2bdff720e581dbb3b52e4fde549c828f1b79eef365b"), looks := true }, kinds := [], alts := [], laidByText := true, laidKinds := [.data], laidTests := true, laidLooks := .later }
def WalReadsUptoCardSaid : Prop := Claim7.holds Tryd.pinned (.plain (OpenSpec.upto walReadsSpec)) walReadsUptoCard
end Rows
end Go.Proofs.YtfapaehjmbekpaaDoor
