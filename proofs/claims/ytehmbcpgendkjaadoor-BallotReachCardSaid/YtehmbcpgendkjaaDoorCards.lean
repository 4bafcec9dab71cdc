/-
  DERIVED. GIVEN WITH THE SEED: THE CARDS: each row of YtehmbcpgendkjaaDoorRows.lean that lists a variable, with what it lists TIED to the program's text (the seventh form; the later family's looks); each row that meets fmt, with fmt's text TOLD by the authors' own Lean function (tested against real Go, not proved from fmt's source: count such statements apart). THE CARD IS WHAT COUNTS. Prove the row's statement (the work); the ties are given (YtehmbcpgendkjaaDoorTie.lean); close each card by the builder's one call (the guide's Derived/Test/ToyasCard.lean, 'card_holds'). Laid BY PROGRAM, IN A SANDBOX (cutbox-door.mjs). By AI agents, Wed Nov 11 2026. No macro, syntax, notation, axiom, sorry.
-/
import Derived.Test.YtehmbcpgendkjaaDoorRows
import GoSem.ClaimSeven
namespace Go.Proofs.YtehmbcpgendkjaaDoor
namespace Rows

/-- THE TIED CARD OF 'quorumlaw9.BallotSets'. -/
def ballotSetsCard : Claim7 := { stood := { row := ballotSetsRow, standIns := [], harness := (true, "fca2f698b1389fe8f1f606819438ef9f09b699d4d29661e32e80ba46c246dc03"), looks := true }, kinds := [], alts := [], laidByText := true, laidKinds := [.data], laidTests := true, laidLooks := .later }
def BallotSetsCardSaid : Prop := Claim7.holds Tryd.pinned (.plain (OpenSpec.ofChange ballotSetsSpec)) ballotSetsCard

/-- THE TIED CARD OF 'quorumlaw9.BallotMeet'. -/
def ballotMeetCard : Claim7 := { stood := { row := ballotMeetRow, standIns := [], harness := (true, "fca2f698b1389fe8f1f606819438ef9f09b699d4d29661e32e80ba46c246dc03"), looks := true }, kinds := [], alts := [], laidByText := true, laidKinds := [.data], laidTests := true, laidLooks := .later }
def BallotMeetCardSaid : Prop := Claim7.holds Tryd.pinned (.plain (OpenSpec.ofChange ballotMeetSpec)) ballotMeetCard

/-- THE TIED CARD OF 'quorumlaw9.BallotConfigs'. -/
def ballotConfigsCard : Claim7 := { stood := { row := ballotConfigsRow, standIns := [], harness := (true, "fca2f698b1389fe8f1f606819438ef9f09b699d4d29661e32e80ba46c246dc03"), looks := true }, kinds := [], alts := [], laidByText := true, laidKinds := [.data], laidTests := true, laidLooks := .later }
def BallotConfigsCardSaid : Prop := Claim7.holds Tryd.pinned (.plain (OpenSpec.ofChange ballotConfigsSpec)) ballotConfigsCard

/-- THE TIED CARD OF 'quorumlaw9.BallotTallies'. -/
def ballotTalliesCard : Claim7 := { stood := { row := ballotTalliesRow, standIns := [], harness := (true, "fca2f698b1389fe8f1f606819438ef9f09b699d4d29661e32e80ba46c246dc03"), looks := true }, kinds := [], alts := [], laidByText := true, laidKinds := [.data], laidTests := true, laidLooks := .later }
def BallotTalliesCardSaid : Prop := Claim7.holds Tryd.pinned (.plain (OpenSpec.ofChange ballotTalliesSpec)) ballotTalliesCard

/-- THE TIED CARD OF 'quorumlaw9.BallotSpeakers'. -/
def ballotSpeakersCard : Claim7 := { stood := { row := ballotSpeakersRow, standIns := [], harness := (true, "fca2f698b1389fe8f1f606819438ef9f09b699d4d29661e32e80ba46c246dc03"), looks := true }, kinds := [], alts := [], laidByText := true, laidKinds := [.data], laidTests := true, laidLooks := .later }
def BallotSpeakersCardSaid : Prop := Claim7.holds Tryd.pinned (.plain (OpenSpec.ofChange ballotSpeakersSpec)) ballotSpeakersCard

/-- THE TIED CARD OF 'quorumlaw9.BallotReach'. -/
def ballotReachCard : Claim7 := { stood := { row := ballotReachRow, standIns := [], harness := (true, "fca2f698b1389fe8f1f606819438ef9f09b699d4d29661e32e80ba46c246dc03"), looks := true }, kinds := [], alts := [], laidByText := true, laidKinds := [.data], laidTests := true, laidLooks := .later }
def BallotReachCardSaid : Prop := Claim7.holds Tryd.pinned (.plain (OpenSpec.ofChange ballotReachSpec)) ballotReachCard

/-- THE SECOND FORM's CARD OF 'quorumlaw9.BallotSets'. -/
def ballotSetsUptoCard : Claim7 := { stood := { row := ballotSetsUptoRow, standIns := [], harness := (true, "fca2f698b1389fe8f1f606819438ef9f09b699d4d29661e32e80ba46c246dc03"), looks := true }, kinds := [], alts := [], laidByText := true, laidKinds := [.data], laidTests := true, laidLooks := .later }
def BallotSetsUptoCardSaid : Prop := Claim7.holds Tryd.pinned (.plain (OpenSpec.upto ballotSetsSpec)) ballotSetsUptoCard

/-- THE SECOND FORM's CARD OF 'quorumlaw9.BallotMeet'. -/
def ballotMeetUptoCard : Claim7 := { stood := { row := ballotMeetUptoRow, standIns := [], harness := (true, "fca2f698b1389fe8f1f606819438ef9f09b699d4d29661e32e80ba46c246dc03"), looks := true }, kinds := [], alts := [], laidByText := true, laidKinds := [.data], laidTests := true, laidLooks := .later }
def BallotMeetUptoCardSaid : Prop := Claim7.holds Tryd.pinned (.plain (OpenSpec.upto ballotMeetSpec)) ballotMeetUptoCard

/-- THE SECOND FORM's CARD OF 'quorumlaw9.BallotConfigs'. -/
def ballotConfigsUptoCard : Claim7 := { stood := { row := ballotConfigsUptoRow, standIns := [], harness := (true, "fca2f698b1389fe8f1f606819438ef9f09b699d4d29661e32e80ba46c246dc03"), looks := true }, kinds := [], alts := [], laidByText := true, laidKinds := [.data], laidTests := true, laidLooks := .later }
def BallotConfigsUptoCardSaid : Prop := Claim7.holds Tryd.pinned (.plain (OpenSpec.upto ballotConfigsSpec)) ballotConfigsUptoCard

/-- THE SECOND FORM's CARD OF 'quorumlaw9.BallotTallies'. -/
def ballotTalliesUptoCard : Claim7 := { stood := { row := ballotTalliesUptoRow, standIns := [], harness := (true, "fca2f698b1389fe8f1f606819438ef9f09b699d4d29661e32e80ba46c246dc03"), looks := true }, kinds := [], alts := [], laidByText := true, laidKinds := [.data], laidTests := true, laidLooks := .later }
def BallotTalliesUptoCardSaid : Prop := Claim7.holds Tryd.pinned (.plain (OpenSpec.upto ballotTalliesSpec)) ballotTalliesUptoCard

/-- THE SECOND FORM's CARD OF 'quorumlaw9.BallotSpeakers'. -/
def ballotSpeakersUptoCard : Claim7 := { stood := { row := ballotSpeakersUptoRow, standIns := [], harness := (true, "fca2f698b1389fe8f1f606819438ef9f09b699d4d29661e32e80ba46c246dc03"), looks := true }, kinds := [], alts := [], laidByText := true, laidKinds := [.data], laidTests := true, laidLooks := .later }
def BallotSpeakersUptoCardSaid : Prop := Claim7.holds Tryd.pinned (.plain (OpenSpec.upto ballotSpeakersSpec)) ballotSpeakersUptoCard

/-- THE SECOND FORM's CARD OF 'quorumlaw9.BallotReach'. -/
def ballotReachUptoCard : Claim7 := { stood := { row := ballotReachUptoRow, standIns := [], harness := (true, "fca2f698b1389fe8f1f606819438ef9f09b699d4d29661e32e80ba46c246dc03"), looks := true }, kinds := [], alts := [], laidByText := true, laidKinds := [.data], laidTests := true, laidLooks := .later }
def BallotReachUptoCardSaid : Prop := Claim7.holds Tryd.pinned (.plain (OpenSpec.upto ballotReachSpec)) ballotReachUptoCard
end Rows
end Go.Proofs.YtehmbcpgendkjaaDoor
