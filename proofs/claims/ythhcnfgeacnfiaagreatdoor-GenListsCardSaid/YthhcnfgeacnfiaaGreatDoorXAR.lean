/- Piece 7 of a closed run. -/
import Derived.Test.YthhcnfgeacnfiaaGreatDoorXAJ
import Derived.KernelRfl
namespace Go.Proofs.YthhcnfgeacnfiaaGreatDoor
set_option linter.unusedSimpArgs false
set_option linter.unusedVariables false
open Go Go.Ev
set_option maxRecDepth 100000
theorem liveG_piece7 : pieceOk (code evEnv0 100000 (liveGAt 7 (liveGBody Tryz.f6)) (Act.start liveGV7 Tryz.f6.ntmps (keepMem 824 liveGK7))) Tryz.f6.ntmps liveGV8 824 liveGK8 = true := by kernel_rfl
end Go.Proofs.YthhcnfgeacnfiaaGreatDoor
