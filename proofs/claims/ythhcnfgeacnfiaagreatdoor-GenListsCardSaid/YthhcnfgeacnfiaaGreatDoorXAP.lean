/- Piece 5 of a closed run. -/
import Derived.Test.YthhcnfgeacnfiaaGreatDoorXAJ
import Derived.KernelRfl
namespace Go.Proofs.YthhcnfgeacnfiaaGreatDoor
set_option linter.unusedSimpArgs false
set_option linter.unusedVariables false
open Go Go.Ev
set_option maxRecDepth 100000
theorem liveG_piece5 : pieceOk (code evEnv0 100000 (liveGAt 5 (liveGBody Tryz.f6)) (Act.start liveGV5 Tryz.f6.ntmps (keepMem 608 liveGK5))) Tryz.f6.ntmps liveGV6 670 liveGK6 = true := by kernel_rfl
end Go.Proofs.YthhcnfgeacnfiaaGreatDoor
