/-
  DERIVED. GIVEN WITH THE SEED: THE CARDS: each row of YtpcaibjkbeoemaaGreatDoorRows.lean that lists a variable, with what it lists TIED to the program's text (the seventh form; the later family's looks); each row that meets fmt, with fmt's text TOLD by the authors' own Lean function (tested against real Go, not proved from fmt's source: count such statements apart). THE CARD IS WHAT COUNTS. Prove the row's statement (the work); the ties are given (YtpcaibjkbeoemaaGreatDoorTie.lean); close each card by the builder's one call (the guide's Derived/Test/ToyasCard.lean, 'card_holds'). Laid BY PROGRAM, IN A SANDBOX (cutbox-door.mjs). By AI agents, Wed Nov 11 2026. No macro, syntax, notation, axiom, sorry.
-/
import Derived.Test.YtpcaibjkbeoemaaGreatDoorRows
import GoSem.ClaimSeven
namespace Go.Proofs.YtpcaibjkbeoemaaGreatDoor
namespace Rows

/-- THE TIED CARD OF 'jacquardlaw16.OptPlain'. -/
def optPlainCard : Claim7 := { stood := { row := optPlainRow, standIns := [], harness := (true, "e1588ee0fc0df8d7e7ff65f5c3a4b4089bde6c48626c79537368e90bb23ef610"), looks := false }, kinds := [], alts := [], laidByText := true, laidKinds := [.data, .data, .data], laidTests := true, laidLooks := .later }
def OptPlainCardSaid : Prop := Claim7.holds Tryz.pinned (.plain (OpenSpec.ofChange optPlainSpec)) optPlainCard

/-- THE TIED CARD OF 'jacquardlaw16.OptOwn'. -/
def optOwnCard : Claim7 := { stood := { row := optOwnRow, standIns := [], harness := (true, "e1588ee0fc0df8d7e7ff65f5c3a4b4089bde6c48626c79537368e90bb23ef610"), looks := false }, kinds := [], alts := [], laidByText := true, laidKinds := [.data, .data, .data], laidTests := true, laidLooks := .later }
def OptOwnCardSaid : Prop := Claim7.holds Tryz.pinned (.plain (OpenSpec.ofChange optOwnSpec)) optOwnCard

/-- THE TIED CARD OF 'jacquardlaw16.OptNils'. -/
def optNilsCard : Claim7 := { stood := { row := optNilsRow, standIns := [], harness := (true, "e1588ee0fc0df8d7e7ff65f5c3a4b4089bde6c48626c79537368e90bb23ef610"), looks := false }, kinds := [], alts := [], laidByText := true, laidKinds := [.data, .data, .data], laidTests := true, laidLooks := .later }
def OptNilsCardSaid : Prop := Claim7.holds Tryz.pinned (.plain (OpenSpec.ofChange optNilsSpec)) optNilsCard

/-- THE SECOND FORM's CARD OF 'jacquardlaw16.OptPlain'. -/
def optPlainUptoCard : Claim7 := { stood := { row := optPlainUptoRow, standIns := [], harness := (true, "e1588ee0fc0df8d7e7ff65f5c3a4b4089bde6c48626c79537368e90bb23ef610"), looks := false }, kinds := [], alts := [], laidByText := true, laidKinds := [.data, .data, .data], laidTests := true, laidLooks := .later }
def OptPlainUptoCardSaid : Prop := Claim7.holds Tryz.pinned (.plain (OpenSpec.upto optPlainSpec)) optPlainUptoCard

/-- THE SECOND FORM's CARD OF 'jacquardlaw16.OptOwn'. -/
def optOwnUptoCard : Claim7 := { stood := { row := optOwnUptoRow, standIns := [], harness := (true, "e1588ee0fc0df8d7e7ff65f5c3a4b4089bde6c48626c79537368e90bb23ef610"), looks := false }, kinds := [], alts := [], laidByText := true, laidKinds := [.data, .data, .data], laidTests := true, laidLooks := .later }
def OptOwnUptoCardSaid : Prop := Claim7.holds Tryz.pinned (.plain (OpenSpec.upto optOwnSpec)) optOwnUptoCard

/-- THE SECOND FORM's CARD OF 'jacquardlaw16.OptNils'. -/
def optNilsUptoCard : Claim7 := { stood := { row := optNilsUptoRow, standIns := [], harness := (true, "e1588ee0fc0df8d7e7ff65f5c3a4b4089bde6c48626c79537368e90bb23ef610"), looks := false }, kinds := [], alts := [], laidByText := true, laidKinds := [.data, .data, .data], laidTests := true, laidLooks := .later }
def OptNilsUptoCardSaid : Prop := Claim7.holds Tryz.pinned (.plain (OpenSpec.upto optNilsSpec)) optNilsUptoCard
end Rows
end Go.Proofs.YtpcaibjkbeoemaaGreatDoor
