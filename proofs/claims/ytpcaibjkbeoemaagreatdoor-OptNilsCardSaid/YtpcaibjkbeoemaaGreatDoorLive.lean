/- The page's examples, 'live', return true: a closed run, by the evaluator. -/
import Derived.Test.YtpcaibjkbeoemaaGreatDoorEnv
import Derived.KernelRfl
namespace Go.Proofs.YtpcaibjkbeoemaaGreatDoor
open Go Go.Ev
set_option maxRecDepth 1000000
def nameBytes : List (List UInt8) := [[105, 110, 116], [97, 116, 111, 109], [115, 116, 114], [112, 114, 105, 109], [112, 111, 112], [108, 111, 97, 100], [115, 116, 111, 114, 101], [98, 111, 120], [108, 111, 97, 100, 99, 101, 108, 108], [115, 116, 111, 114, 101, 99, 101, 108, 108], [108, 111, 97, 100, 99, 97, 112], [115, 116, 111, 114, 101, 99, 97, 112], [108, 111, 97, 100, 103, 108, 111, 98, 97, 108], [115, 116, 111, 114, 101, 103, 108, 111, 98, 97, 108], [108, 105, 115, 116], [114, 101, 99], [102, 117, 110], [98, 105, 110], [110, 111, 116], [110, 101, 103], [106, 117, 109, 112], [102, 97, 108, 115, 101], [107, 101, 101, 112, 102, 97, 108, 115, 101], [107, 101, 101, 112, 116, 114, 117, 101], [108, 111, 111, 112], [99, 97, 108, 108], [115, 112, 97, 119, 110], [114, 101, 116, 117, 114, 110], [116, 104, 114, 111, 119], [105, 110, 100, 101, 120], [115, 101, 116, 105, 110, 100, 101, 120], [102, 105, 101, 108, 100], [115, 101, 116, 102, 105, 101, 108, 100]]
def takeInts : List Int := [0, 0, 0, 0, 1, 0, 1, 0, 0, 1, 0, 1, 0, 1, 0, 0, 0, 2, 1, 1, 0, 1, 1, 1, 0, 1, 1, 1, 1, 2, 3, 1, 2]
def putInts : List Int := [1, 1, 1, 1, 0, 1, 0, 0, 1, 0, 1, 0, 1, 0, 1, 1, 1, 1, 1, 1, 0, 0, 0, 0, 0, 1, 1, 0, 0, 1, 0, 1, 0]
def evNames : List Value := nameBytes.map fun l => .string ⟨⟨l⟩⟩
def evInts (l : List Int) : List Value := l.map fun n => .int .i64 n
def evStart (e0 e1 e2 : TypeId) : List (Option (Nat × TypeId × List Value)) := [some (33, e0, evNames), some (33, e1, evInts takeInts), some (33, e2, evInts putInts)]
theorem evLive : (fun e0 e1 e2 : TypeId => back (call evEnv 100000 7 [] (startMem (evStart e0 e1 e2)))) = fun _ _ _ => some (.bool true) := by kernel_rfl
end Go.Proofs.YtpcaibjkbeoemaaGreatDoor
