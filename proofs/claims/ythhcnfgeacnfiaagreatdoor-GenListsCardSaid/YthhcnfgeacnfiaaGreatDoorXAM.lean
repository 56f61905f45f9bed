/- Piece 2 of a closed run. -/
import Derived.Test.YthhcnfgeacnfiaaGreatDoorXAJ
import Derived.KernelRfl
namespace Go.Proofs.YthhcnfgeacnfiaaGreatDoor
set_option linter.unusedSimpArgs false
set_option linter.unusedVariables false
open Go Go.Ev
set_option maxRecDepth 100000
theorem liveG_piece2 : pieceOk (code evEnv0 100000 (liveGAt 2 (liveGBody Tryz.f6)) (Act.start liveGV2 Tryz.f6.ntmps (keepMem 145 liveGK2))) Tryz.f6.ntmps liveGV3 322 liveGK3 = true := by kernel_rfl
end Go.Proofs.YthhcnfgeacnfiaaGreatDoor
