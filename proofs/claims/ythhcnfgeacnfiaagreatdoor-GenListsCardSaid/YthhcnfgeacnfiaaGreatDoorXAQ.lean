/- Piece 6 of a closed run. -/
import Derived.Test.YthhcnfgeacnfiaaGreatDoorXAJ
import Derived.KernelRfl
namespace Go.Proofs.YthhcnfgeacnfiaaGreatDoor
set_option linter.unusedSimpArgs false
set_option linter.unusedVariables false
open Go Go.Ev
set_option maxRecDepth 100000
theorem liveG_piece6 : pieceOk (code evEnv0 100000 (liveGAt 6 (liveGBody Tryz.f6)) (Act.start liveGV6 Tryz.f6.ntmps (keepMem 670 liveGK6))) Tryz.f6.ntmps liveGV7 824 liveGK7 = true := by kernel_rfl
end Go.Proofs.YthhcnfgeacnfiaaGreatDoor
