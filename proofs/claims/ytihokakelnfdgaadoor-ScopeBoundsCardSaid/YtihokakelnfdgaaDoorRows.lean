/-
  NARROWER THAN 'FOR EVERY INPUT', by the rows' own cells (each row's printed sentence says how): ScopeTexts: laid · ScopeNames: laid · ScopeBounds: laid · ScopeRight: laid · ScopeGlobals: laid · ScopePrims: laid · ScopeNumbers: laid.
  DERIVED. THE GIVEN ROWS OF THIS SEAT. 7 by the template 'for every input the law returns true; each argument reads behind the call as it read before'; 0 by the template 'total and deterministic' (their statements: YtihokakelnfdgaaDoorTotals.lean).
  GIVEN WITH THE SEED: the statements are not yours to turn. If you find one false, say at which input.
  Laid BY PROGRAM, IN A SANDBOX (cutbox-rows.mjs): the forced cells as the released guide's own fill.sh prints them over the translation fb458dedf7e13299… (all of the seat's roots in one cut). By AI agents, Wed Nov 11 2026. No macro, syntax, notation, axiom, sorry.
-/
import Derived.Test.YtihokakelnfdgaaDoorChecked
import GoSem.Claim
import GoSem.ClaimJoined
import GoSem.ClaimMapViews
import Derived.JoinedTies
import Derived.KernelRfl
namespace Go.Proofs.YtihokakelnfdgaaDoor
/- THE CELL 'sum', in the pinned program and in every row, IS THE sha256 OF THE DUMP (.gsa) THAT YtihokakelnfdgaaDoorProg.lean LOADS. Nothing in Lean hashes anything: it is a label: what it is worth is what the hold of that sum in a sandbox is worth. -/
noncomputable def Tryd.pinned : Pinned := { name := "ytihokakelnfdgaadoor", sum := "fb458dedf7e132991d9173b2c37213a6ad66eceb8fd4892a4d573eb3b0647e9b", checked := Tryd.checked }
namespace Rows
def none {H : Type} : Left H := { results := [], args := [] }

/- WHAT THE LISTED PACKAGE-LEVEL VARIABLES READ AS WHEN THE CALL BEGINS. Each datum BY PROGRAM (the guide's laid-datum.mjs) off the statement by which the dump's own 'gosem.cut.vars' lays the variable. In a bare row this is a premise. The card (YtihokakelnfdgaaDoorCards.lean) ties it to the program's text. -/
def laid_jacquard_scope_names {H : Type} : DataW H := .agg [.lit (.string [112, 114, 105, 110, 116]), .lit (.string [108, 101, 110]), .lit (.string [112, 117, 115, 104]), .lit (.string [112, 111, 112]), .lit (.string [107, 101, 121, 115]), .lit (.string [104, 97, 115]), .lit (.string [103, 101, 116]), .lit (.string [112, 117, 116]), .lit (.string [115, 97, 109, 101]), .lit (.string [116, 101, 120, 116]), .lit (.string [99, 120]), .lit (.string [114, 101]), .lit (.string [105, 109]), .lit (.string [107, 105, 110, 100]), .lit (.string [121, 105, 101, 108, 100]), .lit (.string [115, 108, 101, 101, 112]), .lit (.string [110, 111, 119]), .lit (.string [114, 97, 110, 100]), .lit (.string [106, 111, 105, 110]), .lit (.string [98, 111, 120]), .lit (.string [115, 101, 110, 100]), .lit (.string [114, 101, 99, 118]), .lit (.string [109, 111, 110, 105, 116, 111, 114]), .lit (.string [108, 111, 99, 107]), .lit (.string [117, 110, 108, 111, 99, 107]), .lit (.string [119, 97, 105, 116]), .lit (.string [119, 97, 105, 116, 102, 111, 114]), .lit (.string [110, 111, 116, 105, 102, 121]), .lit (.string [110, 111, 116, 105, 102, 121, 97, 108, 108]), .lit (.string [115, 101, 108, 102])]

/-- 'jacquardlaw08.ScopeTexts': WHATEVER THE INPUT: true; the input reads as it did. -/
def scopeTextsSpec : ChangeSpec := { name := "scopeTexts", fn := fun _ => fun
  | [d] => { results := [.lit (.bool true)], args := [d] }
  | _ => none }
def scopeTextsRow : OpenClaim := { program := "ytihokakelnfdgaadoor", sum := "fb458dedf7e132991d9173b2c37213a6ad66eceb8fd4892a4d573eb3b0647e9b", func := "jacquard/jacquardlaw08.ScopeTexts", spec := "scopeTexts", unfollowed := true, recurses := true, named := ["jacquard/scope.names"], apart := false, laid := [("jacquard/scope.names", laid_jacquard_scope_names)] }
def ScopeTextsSaid : Prop := scopeTextsRow.holds Tryd.pinned (OpenSpec.ofChange scopeTextsSpec)

/-- ITS FALSE NEIGHBOUR: 'it returns false'. Refute it at one input. -/
def scopeTextsWrong : ChangeSpec := { name := "scopeTexts", fn := fun _ => fun
  | [d] => { results := [.lit (.bool false)], args := [d] }
  | _ => none }
def ScopeTextsWrongFalsely : Prop := scopeTextsRow.holds Tryd.pinned (OpenSpec.ofChange scopeTextsWrong)

/-- 'jacquardlaw08.ScopeNames': WHATEVER THE INPUT: true; the input reads as it did. -/
def scopeNamesSpec : ChangeSpec := { name := "scopeNames", fn := fun _ => fun
  | [d] => { results := [.lit (.bool true)], args := [d] }
  | _ => none }
def scopeNamesRow : OpenClaim := { program := "ytihokakelnfdgaadoor", sum := "fb458dedf7e132991d9173b2c37213a6ad66eceb8fd4892a4d573eb3b0647e9b", func := "jacquard/jacquardlaw08.ScopeNames", spec := "scopeNames", unfollowed := true, recurses := true, named := ["jacquard/scope.names"], apart := false, laid := [("jacquard/scope.names", laid_jacquard_scope_names)] }
def ScopeNamesSaid : Prop := scopeNamesRow.holds Tryd.pinned (OpenSpec.ofChange scopeNamesSpec)

/-- ITS FALSE NEIGHBOUR: 'it returns false'. Refute it at one input. -/
def scopeNamesWrong : ChangeSpec := { name := "scopeNames", fn := fun _ => fun
  | [d] => { results := [.lit (.bool false)], args := [d] }
  | _ => none }
def ScopeNamesWrongFalsely : Prop := scopeNamesRow.holds Tryd.pinned (OpenSpec.ofChange scopeNamesWrong)

/-- 'jacquardlaw08.ScopeBounds': WHATEVER THE INPUT: true; the input reads as it did. -/
def scopeBoundsSpec : ChangeSpec := { name := "scopeBounds", fn := fun _ => fun
  | [d] => { results := [.lit (.bool true)], args := [d] }
  | _ => none }
def scopeBoundsRow : OpenClaim := { program := "ytihokakelnfdgaadoor", sum := "fb458dedf7e132991d9173b2c37213a6ad66eceb8fd4892a4d573eb3b0647e9b", func := "jacquard/jacquardlaw08.ScopeBounds", spec := "scopeBounds", unfollowed := true, recurses := true, named := ["jacquard/scope.names"], apart := false, laid := [("jacquard/scope.names", laid_jacquard_scope_names)] }
def ScopeBoundsSaid : Prop := scopeBoundsRow.holds Tryd.pinned (OpenSpec.ofChange scopeBoundsSpec)

/-- ITS FALSE NEIGHBOUR: 'it returns false'. Refute it at one input. -/
def scopeBoundsWrong : ChangeSpec := { name := "scopeBounds", fn := fun _ => fun
  | [d] => { results := [.lit (.bool false)], args := [d] }
  | _ => none }
def ScopeBoundsWrongFalsely : Prop := scopeBoundsRow.holds Tryd.pinned (OpenSpec.ofChange scopeBoundsWrong)

/-- 'jacquardlaw08.ScopeRight': WHATEVER THE INPUT: true; the input reads as it did. -/
def scopeRightSpec : ChangeSpec := { name := "scopeRight", fn := fun _ => fun
  | [d] => { results := [.lit (.bool true)], args := [d] }
  | _ => none }
def scopeRightRow : OpenClaim := { program := "ytihokakelnfdgaadoor", sum := "fb458dedf7e132991d9173b2c37213a6ad66eceb8fd4892a4d573eb3b0647e9b", func := "jacquard/jacquardlaw08.ScopeRight", spec := "scopeRight", unfollowed := true, recurses := true, named := ["jacquard/scope.names"], apart := false, laid := [("jacquard/scope.names", laid_jacquard_scope_names)] }
def ScopeRightSaid : Prop := scopeRightRow.holds Tryd.pinned (OpenSpec.ofChange scopeRightSpec)

/-- ITS FALSE NEIGHBOUR: 'it returns false'. Refute it at one input. -/
def scopeRightWrong : ChangeSpec := { name := "scopeRight", fn := fun _ => fun
  | [d] => { results := [.lit (.bool false)], args := [d] }
  | _ => none }
def ScopeRightWrongFalsely : Prop := scopeRightRow.holds Tryd.pinned (OpenSpec.ofChange scopeRightWrong)

/-- 'jacquardlaw08.ScopeGlobals': WHATEVER THE INPUT: true; the input reads as it did. -/
def scopeGlobalsSpec : ChangeSpec := { name := "scopeGlobals", fn := fun _ => fun
  | [d] => { results := [.lit (.bool true)], args := [d] }
  | _ => none }
def scopeGlobalsRow : OpenClaim := { program := "ytihokakelnfdgaadoor", sum := "fb458dedf7e132991d9173b2c37213a6ad66eceb8fd4892a4d573eb3b0647e9b", func := "jacquard/jacquardlaw08.ScopeGlobals", spec := "scopeGlobals", unfollowed := true, recurses := true, named := ["jacquard/scope.names"], apart := false, laid := [("jacquard/scope.names", laid_jacquard_scope_names)] }
def ScopeGlobalsSaid : Prop := scopeGlobalsRow.holds Tryd.pinned (OpenSpec.ofChange scopeGlobalsSpec)

/-- ITS FALSE NEIGHBOUR: 'it returns false'. Refute it at one input. -/
def scopeGlobalsWrong : ChangeSpec := { name := "scopeGlobals", fn := fun _ => fun
  | [d] => { results := [.lit (.bool false)], args := [d] }
  | _ => none }
def ScopeGlobalsWrongFalsely : Prop := scopeGlobalsRow.holds Tryd.pinned (OpenSpec.ofChange scopeGlobalsWrong)

/-- 'jacquardlaw08.ScopePrims': WHATEVER THE INPUT: true; the input reads as it did. -/
def scopePrimsSpec : ChangeSpec := { name := "scopePrims", fn := fun _ => fun
  | [d1, d2] => { results := [.lit (.bool true)], args := [d1, d2] }
  | _ => none }
def scopePrimsRow : OpenClaim := { program := "ytihokakelnfdgaadoor", sum := "fb458dedf7e132991d9173b2c37213a6ad66eceb8fd4892a4d573eb3b0647e9b", func := "jacquard/jacquardlaw08.ScopePrims", spec := "scopePrims", unfollowed := true, recurses := true, named := ["jacquard/scope.names"], apart := false, laid := [("jacquard/scope.names", laid_jacquard_scope_names)] }
def ScopePrimsSaid : Prop := scopePrimsRow.holds Tryd.pinned (OpenSpec.ofChange scopePrimsSpec)

/-- ITS FALSE NEIGHBOUR: 'it returns false'. Refute it at one input. -/
def scopePrimsWrong : ChangeSpec := { name := "scopePrims", fn := fun _ => fun
  | [d1, d2] => { results := [.lit (.bool false)], args := [d1, d2] }
  | _ => none }
def ScopePrimsWrongFalsely : Prop := scopePrimsRow.holds Tryd.pinned (OpenSpec.ofChange scopePrimsWrong)

/-- 'jacquardlaw08.ScopeNumbers': WHATEVER THE INPUT: true; the input reads as it did. -/
def scopeNumbersSpec : ChangeSpec := { name := "scopeNumbers", fn := fun _ => fun
  | [d] => { results := [.lit (.bool true)], args := [d] }
  | _ => none }
def scopeNumbersRow : OpenClaim := { program := "ytihokakelnfdgaadoor", sum := "fb458dedf7e132991d9173b2c37213a6ad66eceb8fd4892a4d573eb3b0647e9b", func := "jacquard/jacquardlaw08.ScopeNumbers", spec := "scopeNumbers", unfollowed := true, recurses := true, named := ["jacquard/scope.names"], apart := false, laid := [("jacquard/scope.names", laid_jacquard_scope_names)] }
def ScopeNumbersSaid : Prop := scopeNumbersRow.holds Tryd.pinned (OpenSpec.ofChange scopeNumbersSpec)

/-- ITS FALSE NEIGHBOUR: 'it returns false'. Refute it at one input. -/
def scopeNumbersWrong : ChangeSpec := { name := "scopeNumbers", fn := fun _ => fun
  | [d] => { results := [.lit (.bool false)], args := [d] }
  | _ => none }
def ScopeNumbersWrongFalsely : Prop := scopeNumbersRow.holds Tryd.pinned (OpenSpec.ofChange scopeNumbersWrong)

/- THE SECOND FORM. 'bulk': how many values and letters a reading holds, each counted each time it is reached (what is shared counts as often as it is met; a slice's spare places count too). A statement '..UptoSaid' is the law's where the arguments, and the package variables that the reading takes, are together of bulk at most 1048576: NARROWER than '..Said'. Prove '..Said' where nothing that the law and all that it calls make is longer than what came in: it says more and counts as full. Else prove '..UptoSaid'. A law counts once. -/
mutual
def uptoBulk {H : Type} : DataW H → Nat
  | .lit (.string bytes) => bytes.length + 1
  | .lit _ => 1
  | .nil => 1
  | .ptr d => uptoBulk d + 1
  | .slice elems spare => uptoBulkAll elems + uptoBulkAll spare + 1
  | .agg parts => uptoBulkAll parts + 1
  | .iface _ d => uptoBulk d + 1
  | .map entries => uptoBulkEntries entries + 1
  | .held _ => 1
def uptoBulkAll {H : Type} : List (DataW H) → Nat
  | [] => 0
  | d :: r => uptoBulk d + uptoBulkAll r
def uptoBulkEntries {H : Type} : List (Lit × DataW H) → Nat
  | [] => 0
  | x :: r => uptoBulkEntry x + uptoBulkEntries r
def uptoBulkEntry {H : Type} : Lit × DataW H → Nat
  | (.string bytes, d) => bytes.length + uptoBulk d + 1
  | (_, d) => uptoBulk d + 1
 end
def uptoSmall : (H : Type) → List (DataW H) → Bool := fun _ ds => decide (uptoBulkAll ds ≤ 1048576)
def OpenSpec.upto (s : _root_.Go.ChangeSpec) : _root_.Go.OpenSpec := { _root_.Go.OpenSpec.ofChange s with cond := some uptoSmall }

/-- 'jacquardlaw08.ScopeTexts', WHERE WHAT IT READS IS OF BULK AT MOST 1048576: true; the input reads as it did. -/
def scopeTextsUptoRow : OpenClaim := { program := "ytihokakelnfdgaadoor", sum := "fb458dedf7e132991d9173b2c37213a6ad66eceb8fd4892a4d573eb3b0647e9b", func := "jacquard/jacquardlaw08.ScopeTexts", spec := "scopeTexts", unfollowed := true, recurses := true, named := ["jacquard/scope.names"], apart := false, laid := [("jacquard/scope.names", laid_jacquard_scope_names)], narrowed := true }
def ScopeTextsUptoSaid : Prop := scopeTextsUptoRow.holds Tryd.pinned (OpenSpec.upto scopeTextsSpec)

/-- 'jacquardlaw08.ScopeNames', WHERE WHAT IT READS IS OF BULK AT MOST 1048576: true; the input reads as it did. -/
def scopeNamesUptoRow : OpenClaim := { program := "ytihokakelnfdgaadoor", sum := "fb458dedf7e132991d9173b2c37213a6ad66eceb8fd4892a4d573eb3b0647e9b", func := "jacquard/jacquardlaw08.ScopeNames", spec := "scopeNames", unfollowed := true, recurses := true, named := ["jacquard/scope.names"], apart := false, laid := [("jacquard/scope.names", laid_jacquard_scope_names)], narrowed := true }
def ScopeNamesUptoSaid : Prop := scopeNamesUptoRow.holds Tryd.pinned (OpenSpec.upto scopeNamesSpec)

/-- 'jacquardlaw08.ScopeBounds', WHERE WHAT IT READS IS OF BULK AT MOST 1048576: true; the input reads as it did. -/
def scopeBoundsUptoRow : OpenClaim := { program := "ytihokakelnfdgaadoor", sum := "fb458dedf7e132991d9173b2c37213a6ad66eceb8fd4892a4d573eb3b0647e9b", func := "jacquard/jacquardlaw08.ScopeBounds", spec := "scopeBounds", unfollowed := true, recurses := true, named := ["jacquard/scope.names"], apart := false, laid := [("jacquard/scope.names", laid_jacquard_scope_names)], narrowed := true }
def ScopeBoundsUptoSaid : Prop := scopeBoundsUptoRow.holds Tryd.pinned (OpenSpec.upto scopeBoundsSpec)

/-- 'jacquardlaw08.ScopeRight', WHERE WHAT IT READS IS OF BULK AT MOST 1048576: true; the input reads as it did. -/
def scopeRightUptoRow : OpenClaim := { program := "ytihokakelnfdgaadoor", sum := "fb458dedf7e132991d9173b2c37213a6ad66eceb8fd4892a4d573eb3b0647e9b", func := "jacquard/jacquardlaw08.ScopeRight", spec := "scopeRight", unfollowed := true, recurses := true, named := ["jacquard/scope.names"], apart := false, laid := [("jacquard/scope.names", laid_jacquard_scope_names)], narrowed := true }
def ScopeRightUptoSaid : Prop := scopeRightUptoRow.holds Tryd.pinned (OpenSpec.upto scopeRightSpec)

/-- 'jacquardlaw08.ScopeGlobals', WHERE WHAT IT READS IS OF BULK AT MOST 1048576: true; the input reads as it did. -/
def scopeGlobalsUptoRow : OpenClaim := { program := "ytihokakelnfdgaadoor", sum := "fb458dedf7e132991d9173b2c37213a6ad66eceb8fd4892a4d573eb3b0647e9b", func := "jacquard/jacquardlaw08.ScopeGlobals", spec := "scopeGlobals", unfollowed := true, recurses := true, named := ["jacquard/scope.names"], apart := false, laid := [("jacquard/scope.names", laid_jacquard_scope_names)], narrowed := true }
def ScopeGlobalsUptoSaid : Prop := scopeGlobalsUptoRow.holds Tryd.pinned (OpenSpec.upto scopeGlobalsSpec)

/-- 'jacquardlaw08.ScopePrims', WHERE WHAT IT READS IS OF BULK AT MOST 1048576: true; the input reads as it did. -/
def scopePrimsUptoRow : OpenClaim := { program := "ytihokakelnfdgaadoor", sum := "fb458dedf7e132991d9173b2c37213a6ad66eceb8fd4892a4d573eb3b0647e9b", func := "jacquard/jacquardlaw08.ScopePrims", spec := "scopePrims", unfollowed := true, recurses := true, named := ["jacquard/scope.names"], apart := false, laid := [("jacquard/scope.names", laid_jacquard_scope_names)], narrowed := true }
def ScopePrimsUptoSaid : Prop := scopePrimsUptoRow.holds Tryd.pinned (OpenSpec.upto scopePrimsSpec)

/-- 'jacquardlaw08.ScopeNumbers', WHERE WHAT IT READS IS OF BULK AT MOST 1048576: true; the input reads as it did. -/
def scopeNumbersUptoRow : OpenClaim := { program := "ytihokakelnfdgaadoor", sum := "fb458dedf7e132991d9173b2c37213a6ad66eceb8fd4892a4d573eb3b0647e9b", func := "jacquard/jacquardlaw08.ScopeNumbers", spec := "scopeNumbers", unfollowed := true, recurses := true, named := ["jacquard/scope.names"], apart := false, laid := [("jacquard/scope.names", laid_jacquard_scope_names)], narrowed := true }
def ScopeNumbersUptoSaid : Prop := scopeNumbersUptoRow.holds Tryd.pinned (OpenSpec.upto scopeNumbersSpec)

end Rows
end Go.Proofs.YtihokakelnfdgaaDoor
