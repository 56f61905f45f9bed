/- The walk of ScopeNumbers: it returns true for every number. -/
import Derived.Test.YtihokakelnfdgaaDoorProg
import Derived.WalkKit
import Derived.RowKit3
import Derived.Below
namespace Go.Proofs.YtihokakelnfdgaaDoor
open Go Go.RowKit

theorem primName_low (i : Int) (hi : decide (i < 0) = true) (w : World) : Calls Tryd.prog 23 #[.int .i64 i] w fun e w' => e = .returned (.string ⟨#[]⟩) ∧ w = w' := by
  go_enter Tryd.func23, Tryd.ntmps23
  go_wp2
  go_ret
  exact ⟨rfl, rfl⟩

theorem primName_high (i : Int) (h0 : decide (i < 0) = false) (hi : decide (30 ≤ i) = true) (w : World) : Calls Tryd.prog 23 #[.int .i64 i] w fun e w' => e = .returned (.string ⟨#[]⟩) ∧ w = w' := by
  go_enter Tryd.func23, Tryd.ntmps23
  go_wp2
  go_ret
  exact ⟨rfl, rfl⟩

theorem numbers_low (i : Int) (hi : decide (i < 0) = true) (w : World) (hlive : Calls Tryd.prog 10 #[] w fun e w' => e = .returned (.bool true) ∧ Below w.heap.size w w') :
    Calls Tryd.prog 9 #[.int .i64 i] w fun e w' => e = .returned (.bool true) ∧ Below w.heap.size w w' := by
  go_enter Tryd.func9, Tryd.ntmps9
  go_wp2_with (first | (go_at_call 23; refine (primName_low i hi _).mono ?_; rintro e w' ⟨rfl, rfl⟩) | (go_at_call 10; refine hlive.mono ?_; rintro e w' ⟨rfl, hb⟩))
  go_ret
  exact ⟨rfl, hb⟩

theorem numbers_high (i : Int) (h0 : decide (i < 0) = false) (hi : decide (30 ≤ i) = true) (w : World) (hlive : Calls Tryd.prog 10 #[] w fun e w' => e = .returned (.bool true) ∧ Below w.heap.size w w') :
    Calls Tryd.prog 9 #[.int .i64 i] w fun e w' => e = .returned (.bool true) ∧ Below w.heap.size w w' := by
  go_enter Tryd.func9, Tryd.ntmps9
  go_wp2_with (first | (go_at_call 23; refine (primName_high i h0 hi _).mono ?_; rintro e w' ⟨rfl, rfl⟩) | (go_at_call 10; refine hlive.mono ?_; rintro e w' ⟨rfl, hb⟩))
  go_ret
  exact ⟨rfl, hb⟩
end Go.Proofs.YtihokakelnfdgaaDoor
