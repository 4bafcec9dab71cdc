/- BallotNames returns true: the numbers of the ballot layer's refusals and the limits that its chapter names are those of the document; no condition. -/
import Derived.Test.YtehmbcpgendkjaaPBallotNamesx1
import Derived.KernelRfl
namespace Go.Proofs.Ytehmbcpgendkjaa.Pure
open Go.RowKit Go.Proofs.Ytehmbcpgendkjaa.PBallotNames Go.Proofs.YtehmbcpgendkjaaW.PrintWords Go.Proofs.YtehmbcpgendkjaaW.PrintLast

theorem BallotNames : quorumlaw9_BallotNames.Pure := ⟨8, by kernel_rfl⟩

end Go.Proofs.Ytehmbcpgendkjaa.Pure
