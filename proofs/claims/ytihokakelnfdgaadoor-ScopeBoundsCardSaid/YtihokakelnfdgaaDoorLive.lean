/- The page's example, 'live', returns true: a closed run, by the evaluator. -/
import Derived.Test.YtihokakelnfdgaaDoorEnv
import Derived.Test.YtihokakelnfdgaaDoorEvU
import Derived.KernelRfl
namespace Go.Proofs.YtihokakelnfdgaaDoor
set_option linter.unusedSimpArgs false
set_option linter.unusedVariables false
open Go Go.Ev
set_option maxRecDepth 1000000
def evStr (l : List UInt8) : Value := .string ⟨⟨l⟩⟩
def evNames : List Value := [evStr [112, 114, 105, 110, 116], evStr [108, 101, 110], evStr [112, 117, 115, 104], evStr [112, 111, 112], evStr [107, 101, 121, 115], evStr [104, 97, 115], evStr [103, 101, 116], evStr [112, 117, 116], evStr [115, 97, 109, 101], evStr [116, 101, 120, 116], evStr [99, 120], evStr [114, 101], evStr [105, 109], evStr [107, 105, 110, 100], evStr [121, 105, 101, 108, 100], evStr [115, 108, 101, 101, 112], evStr [110, 111, 119], evStr [114, 97, 110, 100], evStr [106, 111, 105, 110], evStr [98, 111, 120], evStr [115, 101, 110, 100], evStr [114, 101, 99, 118], evStr [109, 111, 110, 105, 116, 111, 114], evStr [108, 111, 99, 107], evStr [117, 110, 108, 111, 99, 107], evStr [119, 97, 105, 116], evStr [119, 97, 105, 116, 102, 111, 114], evStr [110, 111, 116, 105, 102, 121], evStr [110, 111, 116, 105, 102, 121, 97, 108, 108], evStr [115, 101, 108, 102]]
def evStart (e : TypeId) : List (Option (Nat × TypeId × List Value)) := [some (30, e, evNames)]
theorem evLive : (fun e : TypeId => back (call evEnv0 100000 10 [] (startMem (evStart e)))) = fun _ => some (.bool true) := by kernel_rfl
end Go.Proofs.YtihokakelnfdgaaDoor
