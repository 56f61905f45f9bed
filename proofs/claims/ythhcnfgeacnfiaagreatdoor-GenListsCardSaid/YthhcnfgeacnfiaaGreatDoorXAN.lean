/- Piece 3 of a closed run. -/
import Derived.Test.YthhcnfgeacnfiaaGreatDoorXAJ
import Derived.KernelRfl
namespace Go.Proofs.YthhcnfgeacnfiaaGreatDoor
set_option linter.unusedSimpArgs false
set_option linter.unusedVariables false
open Go Go.Ev
set_option maxRecDepth 100000
theorem liveG_piece3 : pieceOk (code evEnv0 100000 (liveGAt 3 (liveGBody Tryz.f6)) (Act.start liveGV3 Tryz.f6.ntmps (keepMem 322 liveGK3))) Tryz.f6.ntmps liveGV4 509 liveGK4 = true := by kernel_rfl
end Go.Proofs.YthhcnfgeacnfiaaGreatDoor
