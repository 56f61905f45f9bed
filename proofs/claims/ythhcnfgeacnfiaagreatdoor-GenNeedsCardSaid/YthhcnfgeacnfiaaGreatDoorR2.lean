/- Piece 2 of a closed run. -/
import Derived.Test.YthhcnfgeacnfiaaGreatDoorSt
import Derived.KernelRfl
namespace Go.Proofs.YthhcnfgeacnfiaaGreatDoor
open Go Go.Ev
set_option maxRecDepth 100000
theorem liveG_piece2 : pieceOk (code evEnv 100000 (liveGAt 2 (liveGBody Tryz.f6)) (Act.start liveGV2 Tryz.f6.ntmps (keepMem 145 liveGK2))) Tryz.f6.ntmps liveGV3 322 liveGK3 = true := by kernel_rfl
end Go.Proofs.YthhcnfgeacnfiaaGreatDoor
