/- Piece 1 of a closed run. -/
import Derived.Test.YthhcnfgeacnfiaaGreatDoorXAJ
import Derived.KernelRfl
namespace Go.Proofs.YthhcnfgeacnfiaaGreatDoor
set_option linter.unusedSimpArgs false
set_option linter.unusedVariables false
open Go Go.Ev
set_option maxRecDepth 100000
theorem liveG_piece1 : pieceOk (code evEnv0 100000 (liveGAt 1 (liveGBody Tryz.f6)) (Act.start liveGV1 Tryz.f6.ntmps (keepMem 2 liveGK1))) Tryz.f6.ntmps liveGV2 145 liveGK2 = true := by kernel_rfl
end Go.Proofs.YthhcnfgeacnfiaaGreatDoor
