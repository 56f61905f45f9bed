/-
  DERIVED. GIVEN WITH THE SEED: THE CARDS: each row of YthhcnfgeacnfiaaGreatDoorRows.lean that lists a variable, with what it lists TIED to the program's text (the seventh form; the later family's looks); each row that meets fmt, with fmt's text TOLD by the authors' own Lean function (tested against real Go, not proved from fmt's source: count such statements apart). THE CARD IS WHAT COUNTS. Prove the row's statement (the work); the ties are given (YthhcnfgeacnfiaaGreatDoorTie.lean); close each card by the builder's one call (the guide's Derived/Test/ToyasCard.lean, 'card_holds'). Laid BY PROGRAM, IN A SANDBOX (cutbox-door.mjs). By AI agents, Wed Nov 11 2026. No macro, syntax, notation, axiom, sorry.
-/
import Derived.Test.YthhcnfgeacnfiaaGreatDoorRows
import GoSem.ClaimSeven
namespace Go.Proofs.YthhcnfgeacnfiaaGreatDoor
namespace Rows

/-- THE TIED CARD OF 'jacquardlaw12.GenNeeds'. -/
def genNeedsCard : Claim7 := { stood := { row := genNeedsRow, standIns := [], harness := (true, "7bc7591e65112e89bae2459dff1c41edf600f9b6a2c2cb4edefdf26571e4e5d8"), looks := false }, kinds := [], alts := [], laidByText := true, laidKinds := [.data, .data], laidTests := true, laidLooks := .later }
def GenNeedsCardSaid : Prop := Claim7.holds Tryz.pinned (.plain (OpenSpec.ofChange genNeedsSpec)) genNeedsCard

/-- THE TIED CARD OF 'jacquardlaw12.GenOwn'. -/
def genOwnCard : Claim7 := { stood := { row := genOwnRow, standIns := [], harness := (true, "7bc7591e65112e89bae2459dff1c41edf600f9b6a2c2cb4edefdf26571e4e5d8"), looks := false }, kinds := [], alts := [], laidByText := true, laidKinds := [.data, .data], laidTests := true, laidLooks := .later }
def GenOwnCardSaid : Prop := Claim7.holds Tryz.pinned (.plain (OpenSpec.ofChange genOwnSpec)) genOwnCard

/-- THE TIED CARD OF 'jacquardlaw12.GenLists'. -/
def genListsCard : Claim7 := { stood := { row := genListsRow, standIns := [], harness := (true, "7bc7591e65112e89bae2459dff1c41edf600f9b6a2c2cb4edefdf26571e4e5d8"), looks := false }, kinds := [], alts := [], laidByText := true, laidKinds := [.data, .data], laidTests := true, laidLooks := .later }
def GenListsCardSaid : Prop := Claim7.holds Tryz.pinned (.plain (OpenSpec.ofChange genListsSpec)) genListsCard

/-- THE SECOND FORM's CARD OF 'jacquardlaw12.GenNeeds'. -/
def genNeedsUptoCard : Claim7 := { stood := { row := genNeedsUptoRow, standIns := [], harness := (true, "7bc7591e65112e89bae2459dff1c41edf600f9b6a2c2cb4edefdf26571e4e5d8"), looks := false }, kinds := [], alts := [], laidByText := true, laidKinds := [.data, .data], laidTests := true, laidLooks := .later }
def GenNeedsUptoCardSaid : Prop := Claim7.holds Tryz.pinned (.plain (OpenSpec.upto genNeedsSpec)) genNeedsUptoCard

/-- THE SECOND FORM's CARD OF 'jacquardlaw12.GenOwn'. -/
def genOwnUptoCard : Claim7 := { stood := { row := genOwnUptoRow, standIns := [], harness := (true, "7bc7591e65112e89bae2459dff1c41edf600f9b6a2c2cb4edefdf26571e4e5d8"), looks := false }, kinds := [], alts := [], laidByText := true, laidKinds := [.data, .data], laidTests := true, laidLooks := .later }
def GenOwnUptoCardSaid : Prop := Claim7.holds Tryz.pinned (.plain (OpenSpec.upto genOwnSpec)) genOwnUptoCard

/-- THE SECOND FORM's CARD OF 'jacquardlaw12.GenLists'. -/
def genListsUptoCard : Claim7 := { stood := { row := genListsUptoRow, standIns := [], harness := (true, "7bc7591e65112e89bae2459dff1c41edf600f9b6a2c2cb4edefdf26571e4e5d8"), looks := false }, kinds := [], alts := [], laidByText := true, laidKinds := [.data, .data], laidTests := true, laidLooks := .later }
def GenListsUptoCardSaid : Prop := Claim7.holds Tryz.pinned (.plain (OpenSpec.upto genListsSpec)) genListsUptoCard
end Rows
end Go.Proofs.YthhcnfgeacnfiaaGreatDoor
