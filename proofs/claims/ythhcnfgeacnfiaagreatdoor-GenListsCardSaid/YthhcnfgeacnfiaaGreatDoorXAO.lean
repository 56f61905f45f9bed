/- Piece 4 of a closed run. -/
import Derived.Test.YthhcnfgeacnfiaaGreatDoorXAJ
import Derived.KernelRfl
namespace Go.Proofs.YthhcnfgeacnfiaaGreatDoor
set_option linter.unusedSimpArgs false
set_option linter.unusedVariables false
open Go Go.Ev
set_option maxRecDepth 100000
theorem liveG_piece4 : pieceOk (code evEnv0 100000 (liveGAt 4 (liveGBody Tryz.f6)) (Act.start liveGV4 Tryz.f6.ntmps (keepMem 509 liveGK4))) Tryz.f6.ntmps liveGV5 608 liveGK5 = true := by kernel_rfl
end Go.Proofs.YthhcnfgeacnfiaaGreatDoor
