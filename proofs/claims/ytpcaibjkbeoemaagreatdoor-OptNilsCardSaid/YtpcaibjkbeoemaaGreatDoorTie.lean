/-
  DERIVED. GIVEN WITH THE SEED: THE PROGRAM's TIES (one call each: nine closed facts by the kernel) AND EACH ROW's TIE, after the 31st guide's Derived/Test/Toyas{Tie, Card}.lean. No idea stands in it: it is a product of the set-up. Laid BY PROGRAM, IN A SANDBOX (cutbox-door.mjs). By AI agents, Wed Nov 11 2026. No macro, syntax, notation, axiom, sorry.
-/
import Derived.Test.YtpcaibjkbeoemaaGreatDoorRows
import Derived.LaidByTextLater
import Derived.SevenTiedAt
import Derived.LaidSub
import Derived.LaidOnce
namespace Go.Proofs.YtpcaibjkbeoemaaGreatDoor
open Go
set_option maxRecDepth 100000
theorem seatTie1 : Tryz.prog.laidByTextLater [("jacquard/code.names", Rows.laid_jacquard_code_names), ("jacquard/code.takes", Rows.laid_jacquard_code_takes), ("jacquard/code.puts", Rows.laid_jacquard_code_puts)] [.data, .data, .data] true :=
  Program.laidByTextLater_by_one 24 8 34 (by kernel_rfl) (by kernel_rfl) (by kernel_rfl) (by kernel_rfl) (by kernel_rfl) (by kernel_rfl) (fun _ _ => by kernel_rfl)
theorem noOwnUnsafe : Tryz.pinned.checked.prog.headLifts.contains "ownunsafe" = false := by kernel_rfl
theorem tie : Tryz.prog.laidByTextLater [("jacquard/code.names", Rows.laid_jacquard_code_names), ("jacquard/code.takes", Rows.laid_jacquard_code_takes), ("jacquard/code.puts", Rows.laid_jacquard_code_puts)] [.data, .data, .data] true :=
  Program.laidByTextLater.sub seatTie1 ["jacquard/code.names", "jacquard/code.takes", "jacquard/code.puts"] (by kernel_rfl) (by kernel_rfl)
theorem optPlain_row_tie : Rows.optPlainRow.laidByTextAt .later Tryz.pinned [.data, .data, .data] true :=
  OpenClaim.laidByTextAt_later rfl rfl tie noOwnUnsafe
theorem optOwn_row_tie : Rows.optOwnRow.laidByTextAt .later Tryz.pinned [.data, .data, .data] true :=
  OpenClaim.laidByTextAt_later rfl rfl tie noOwnUnsafe
theorem optNils_row_tie : Rows.optNilsRow.laidByTextAt .later Tryz.pinned [.data, .data, .data] true :=
  OpenClaim.laidByTextAt_later rfl rfl tie noOwnUnsafe
theorem optPlainUpto_row_tie : Rows.optPlainUptoRow.laidByTextAt .later Tryz.pinned [.data, .data, .data] true :=
  OpenClaim.laidByTextAt_later rfl rfl tie noOwnUnsafe
theorem optOwnUpto_row_tie : Rows.optOwnUptoRow.laidByTextAt .later Tryz.pinned [.data, .data, .data] true :=
  OpenClaim.laidByTextAt_later rfl rfl tie noOwnUnsafe
theorem optNilsUpto_row_tie : Rows.optNilsUptoRow.laidByTextAt .later Tryz.pinned [.data, .data, .data] true :=
  OpenClaim.laidByTextAt_later rfl rfl tie noOwnUnsafe
end Go.Proofs.YtpcaibjkbeoemaaGreatDoor
