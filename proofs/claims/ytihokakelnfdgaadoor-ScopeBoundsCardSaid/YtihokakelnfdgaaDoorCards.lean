/-
  DERIVED. GIVEN WITH THE SEED: THE CARDS: each row of YtihokakelnfdgaaDoorRows.lean that lists a variable, with what it lists TIED to the program's text (the seventh form; the later family's looks); each row that meets fmt, with fmt's text TOLD by the authors' own Lean function (tested against real Go, not proved from fmt's source: count such statements apart). THE CARD IS WHAT COUNTS. Prove the row's statement (the work); the ties are given (YtihokakelnfdgaaDoorTie.lean); close each card by the builder's one call (the guide's Derived/Test/ToyasCard.lean, 'card_holds'). Laid BY PROGRAM, IN A SANDBOX (cutbox-door.mjs). By AI agents, Wed Nov 11 2026. No macro, syntax, notation, axiom, sorry.
-/
import Derived.Test.YtihokakelnfdgaaDoorRows
import GoSem.ClaimSeven
namespace Go.Proofs.YtihokakelnfdgaaDoor
namespace Rows

/-- THE TIED CARD OF 'jacquardlaw08.ScopeTexts'. -/
def scopeTextsCard : Claim7 := { stood := { row := scopeTextsRow, standIns := [], harness := (true, "d3a3c1f440f1eadc61c248a54c777c8ee56868d1226286cb554edc6565c73fbe"), looks := false }, kinds := [], alts := [], laidByText := true, laidKinds := [.data], laidTests := true, laidLooks := .later }
def ScopeTextsCardSaid : Prop := Claim7.holds Tryd.pinned (.plain (OpenSpec.ofChange scopeTextsSpec)) scopeTextsCard

/-- THE TIED CARD OF 'jacquardlaw08.ScopeNames'. -/
def scopeNamesCard : Claim7 := { stood := { row := scopeNamesRow, standIns := [], harness := (true, "d3a3c1f440f1eadc61c248a54c777c8ee56868d1226286cb554edc6565c73fbe"), looks := false }, kinds := [], alts := [], laidByText := true, laidKinds := [.data], laidTests := true, laidLooks := .later }
def ScopeNamesCardSaid : Prop := Claim7.holds Tryd.pinned (.plain (OpenSpec.ofChange scopeNamesSpec)) scopeNamesCard

/-- THE TIED CARD OF 'jacquardlaw08.ScopeBounds'. -/
def scopeBoundsCard : Claim7 := { stood := { row := scopeBoundsRow, standIns := [], harness := (true, "d3a3c1f440f1eadc61c248a54c777c8ee56868d1226286cb554edc6565c73fbe"), looks := false }, kinds := [], alts := [], laidByText := true, laidKinds := [.data], laidTests := true, laidLooks := .later }
def ScopeBoundsCardSaid : Prop := Claim7.holds Tryd.pinned (.plain (OpenSpec.ofChange scopeBoundsSpec)) scopeBoundsCard

/-- THE TIED CARD OF 'jacquardlaw08.ScopeRight'. -/
def scopeRightCard : Claim7 := { stood := { row := scopeRightRow, standIns := [], harness := (true, "d3a3c1f440f1eadc61c248a54c777c8ee56868d1226286cb554edc6565c73fbe"), looks := false }, kinds := [], alts := [], laidByText := true, laidKinds := [.data], laidTests := true, laidLooks := .later }
def ScopeRightCardSaid : Prop := Claim7.holds Tryd.pinned (.plain (OpenSpec.ofChange scopeRightSpec)) scopeRightCard

/-- THE TIED CARD OF 'jacquardlaw08.ScopeGlobals'. -/
def scopeGlobalsCard : Claim7 := { stood := { row := scopeGlobalsRow, standIns := [], harness := (true, "d3a3c1f440f1eadc61c248a54c777c8ee56868d1226286cb554edc6565c73fbe"), looks := false }, kinds := [], alts := [], laidByText := true, laidKinds := [.data], laidTests := true, laidLooks := .later }
def ScopeGlobalsCardSaid : Prop := Claim7.holds Tryd.pinned (.plain (OpenSpec.ofChange scopeGlobalsSpec)) scopeGlobalsCard

/-- THE TIED CARD OF 'jacquardlaw08.ScopePrims'. -/
def scopePrimsCard : Claim7 := { stood := { row := scopePrimsRow, standIns := [], harness := (true, "d3a3c1f440f1eadc61c248a54c777c8ee56868d1226286cb554edc6565c73fbe"), looks := false }, kinds := [], alts := [], laidByText := true, laidKinds := [.data], laidTests := true, laidLooks := .later }
def ScopePrimsCardSaid : Prop := Claim7.holds Tryd.pinned (.plain (OpenSpec.ofChange scopePrimsSpec)) scopePrimsCard

/-- THE TIED CARD OF 'jacquardlaw08.ScopeNumbers'. -/
def scopeNumbersCard : Claim7 := { stood := { row := scopeNumbersRow, standIns := [], harness := (true, "d3a3c1f440f1eadc61c248a54c777c8ee56868d1226286cb554edc6565c73fbe"), looks := false }, kinds := [], alts := [], laidByText := true, laidKinds := [.data], laidTests := true, laidLooks := .later }
def ScopeNumbersCardSaid : Prop := Claim7.holds Tryd.pinned (.plain (OpenSpec.ofChange scopeNumbersSpec)) scopeNumbersCard

/-- THE SECOND FORM's CARD OF 'jacquardlaw08.ScopeTexts'. -/
def scopeTextsUptoCard : Claim7 := { stood := { row := scopeTextsUptoRow, standIns := [], harness := (true, "d3a3c1f440f1eadc61c248a54c777c8ee56868d1226286cb554edc6565c73fbe"), looks := false }, kinds := [], alts := [], laidByText := true, laidKinds := [.data], laidTests := true, laidLooks := .later }
def ScopeTextsUptoCardSaid : Prop := Claim7.holds Tryd.pinned (.plain (OpenSpec.upto scopeTextsSpec)) scopeTextsUptoCard

/-- THE SECOND FORM's CARD OF 'jacquardlaw08.ScopeNames'. -/
def scopeNamesUptoCard : Claim7 := { stood := { row := scopeNamesUptoRow, standIns := [], harness := (true, "d3a3c1f440f1eadc61c248a54c777c8ee56868d1226286cb554edc6565c73fbe"), looks := false }, kinds := [], alts := [], laidByText := true, laidKinds := [.data], laidTests := true, laidLooks := .later }
def ScopeNamesUptoCardSaid : Prop := Claim7.holds Tryd.pinned (.plain (OpenSpec.upto scopeNamesSpec)) scopeNamesUptoCard

/-- THE SECOND FORM's CARD OF 'jacquardlaw08.ScopeBounds'. -/
def scopeBoundsUptoCard : Claim7 := { stood := { row := scopeBoundsUptoRow, standIns := [], harness := (true, "d3a3c1f440f1eadc61c248a54c777c8ee56868d1226286cb554edc6565c73fbe"), looks := false }, kinds := [], alts := [], laidByText := true, laidKinds := [.data], laidTests := true, laidLooks := .later }
def ScopeBoundsUptoCardSaid : Prop := Claim7.holds Tryd.pinned (.plain (OpenSpec.upto scopeBoundsSpec)) scopeBoundsUptoCard

/-- THE SECOND FORM's CARD OF 'jacquardlaw08.ScopeRight'. -/
def scopeRightUptoCard : Claim7 := { stood := { row := scopeRightUptoRow, standIns := [], harness := (true, "d3a3c1f440f1eadc61c248a54c777c8ee56868d1226286cb554edc6565c73fbe"), looks := false }, kinds := [], alts := [], laidByText := true, laidKinds := [.data], laidTests := true, laidLooks := .later }
def ScopeRightUptoCardSaid : Prop := Claim7.holds Tryd.pinned (.plain (OpenSpec.upto scopeRightSpec)) scopeRightUptoCard

/-- THE SECOND FORM's CARD OF 'jacquardlaw08.ScopeGlobals'. -/
def scopeGlobalsUptoCard : Claim7 := { stood := { row := scopeGlobalsUptoRow, standIns := [], harness := (true, "d3a3c1f440f1eadc61c248a54c777c8ee56868d1226286cb554edc6565c73fbe"), looks := false }, kinds := [], alts := [], laidByText := true, laidKinds := [.data], laidTests := true, laidLooks := .later }
def ScopeGlobalsUptoCardSaid : Prop := Claim7.holds Tryd.pinned (.plain (OpenSpec.upto scopeGlobalsSpec)) scopeGlobalsUptoCard

/-- THE SECOND FORM's CARD OF 'jacquardlaw08.ScopePrims'. -/
def scopePrimsUptoCard : Claim7 := { stood := { row := scopePrimsUptoRow, standIns := [], harness := (true, "d3a3c1f440f1eadc61c248a54c777c8ee56868d1226286cb554edc6565c73fbe"), looks := false }, kinds := [], alts := [], laidByText := true, laidKinds := [.data], laidTests := true, laidLooks := .later }
def ScopePrimsUptoCardSaid : Prop := Claim7.holds Tryd.pinned (.plain (OpenSpec.upto scopePrimsSpec)) scopePrimsUptoCard

/-- THE SECOND FORM's CARD OF 'jacquardlaw08.ScopeNumbers'. -/
def scopeNumbersUptoCard : Claim7 := { stood := { row := scopeNumbersUptoRow, standIns := [], harness := (true, "d3a3c1f440f1eadc61c248a54c777c8ee56868d1226286cb554edc6565c73fbe"), looks := false }, kinds := [], alts := [], laidByText := true, laidKinds := [.data], laidTests := true, laidLooks := .later }
def ScopeNumbersUptoCardSaid : Prop := Claim7.holds Tryd.pinned (.plain (OpenSpec.upto scopeNumbersSpec)) scopeNumbersUptoCard
end Rows
end Go.Proofs.YtihokakelnfdgaaDoor
