/-
  NARROWER THAN 'FOR EVERY INPUT', by the rows' own cells (each row's printed sentence says how): GenNeeds: laid · GenOwn: laid · GenLists: laid.
  DERIVED. THE GIVEN ROWS OF THIS SEAT. 3 by the template 'for every input the law returns true; each argument reads behind the call as it read before'; 0 by the template 'total and deterministic' (their statements: YthhcnfgeacnfiaaGreatDoorTotals.lean).
  GIVEN WITH THE SEED: the statements are not yours to turn. If you find one false, say at which input.
  Laid BY PROGRAM, IN A SANDBOX (cutbox-rows.mjs): the forced cells as the released guide's own fill.sh prints them over the translation ba4a6441a03ac4fb… (all of the seat's roots in one cut). By AI agents, Wed Nov 11 2026. No macro, syntax, notation, axiom, sorry.
-/
import Derived.Test.YthhcnfgeacnfiaaGreatDoorChecked
import GoSem.Claim
import GoSem.ClaimJoined
import GoSem.ClaimMapViews
import Derived.JoinedTies
import Derived.KernelRfl
namespace Go.Proofs.YthhcnfgeacnfiaaGreatDoor
/- THE CELL 'sum', in the pinned program and in every row, IS THE sha256 OF THE DUMP (.gsa) THAT YthhcnfgeacnfiaaGreatDoorProg.lean LOADS. Nothing in Lean hashes anything: it is a label: what it is worth is what the hold of that sum in a sandbox is worth. -/
noncomputable def Tryz.pinned : Pinned := { name := "ythhcnfgeacnfiaagreatdoor", sum := "ba4a6441a03ac4fbaa11386a930ff2291f74a8a87f21d1ccd73cc391b606bbd6", checked := Tryz.checked }
namespace Rows
def none {H : Type} : Left H := { results := [], args := [] }

/- WHAT THE LISTED PACKAGE-LEVEL VARIABLES READ AS WHEN THE CALL BEGINS. Each datum BY PROGRAM (the guide's laid-datum.mjs) off the statement by which the dump's own 'gosem.cut.vars' lays the variable. In a bare row this is a premise. The card (YthhcnfgeacnfiaaGreatDoorCards.lean) ties it to the program's text. -/
def laid_jacquard_prim_signs {H : Type} : DataW H := .agg [.lit (.string [43]), .lit (.string [45]), .lit (.string [42]), .lit (.string [47]), .lit (.string [37]), .lit (.string [61, 61]), .lit (.string [33, 61]), .lit (.string [60]), .lit (.string [60, 61]), .lit (.string [62]), .lit (.string [62, 61])]
def laid_jacquard_scope_names {H : Type} : DataW H := .agg [.lit (.string [112, 114, 105, 110, 116]), .lit (.string [108, 101, 110]), .lit (.string [112, 117, 115, 104]), .lit (.string [112, 111, 112]), .lit (.string [107, 101, 121, 115]), .lit (.string [104, 97, 115]), .lit (.string [103, 101, 116]), .lit (.string [112, 117, 116]), .lit (.string [115, 97, 109, 101]), .lit (.string [116, 101, 120, 116]), .lit (.string [99, 120]), .lit (.string [114, 101]), .lit (.string [105, 109]), .lit (.string [107, 105, 110, 100]), .lit (.string [121, 105, 101, 108, 100]), .lit (.string [115, 108, 101, 101, 112]), .lit (.string [110, 111, 119]), .lit (.string [114, 97, 110, 100]), .lit (.string [106, 111, 105, 110]), .lit (.string [98, 111, 120]), .lit (.string [115, 101, 110, 100]), .lit (.string [114, 101, 99, 118]), .lit (.string [109, 111, 110, 105, 116, 111, 114]), .lit (.string [108, 111, 99, 107]), .lit (.string [117, 110, 108, 111, 99, 107]), .lit (.string [119, 97, 105, 116]), .lit (.string [119, 97, 105, 116, 102, 111, 114]), .lit (.string [110, 111, 116, 105, 102, 121]), .lit (.string [110, 111, 116, 105, 102, 121, 97, 108, 108]), .lit (.string [115, 101, 108, 102])]

/-- 'jacquardlaw12.GenNeeds': WHATEVER THE INPUT: true; the input reads as it did. -/
def genNeedsSpec : ChangeSpec := { name := "genNeeds", fn := fun _ => fun
  | [d1, d2] => { results := [.lit (.bool true)], args := [d1, d2] }
  | _ => none }
def genNeedsRow : OpenClaim := { program := "ythhcnfgeacnfiaagreatdoor", sum := "ba4a6441a03ac4fbaa11386a930ff2291f74a8a87f21d1ccd73cc391b606bbd6", func := "jacquard/jacquardlaw12.GenNeeds", spec := "genNeeds", unfollowed := true, recurses := true, named := ["jacquard/scope.names", "jacquard/prim.signs"], apart := false, laid := [("jacquard/prim.signs", laid_jacquard_prim_signs), ("jacquard/scope.names", laid_jacquard_scope_names)] }
def GenNeedsSaid : Prop := genNeedsRow.holds Tryz.pinned (OpenSpec.ofChange genNeedsSpec)

/-- ITS FALSE NEIGHBOUR: 'it returns false'. Refute it at one input. -/
def genNeedsWrong : ChangeSpec := { name := "genNeeds", fn := fun _ => fun
  | [d1, d2] => { results := [.lit (.bool false)], args := [d1, d2] }
  | _ => none }
def GenNeedsWrongFalsely : Prop := genNeedsRow.holds Tryz.pinned (OpenSpec.ofChange genNeedsWrong)

/-- 'jacquardlaw12.GenOwn': WHATEVER THE INPUT: true; the input reads as it did. -/
def genOwnSpec : ChangeSpec := { name := "genOwn", fn := fun _ => fun
  | [d] => { results := [.lit (.bool true)], args := [d] }
  | _ => none }
def genOwnRow : OpenClaim := { program := "ythhcnfgeacnfiaagreatdoor", sum := "ba4a6441a03ac4fbaa11386a930ff2291f74a8a87f21d1ccd73cc391b606bbd6", func := "jacquard/jacquardlaw12.GenOwn", spec := "genOwn", unfollowed := true, recurses := true, named := ["jacquard/scope.names", "jacquard/prim.signs"], apart := false, laid := [("jacquard/prim.signs", laid_jacquard_prim_signs), ("jacquard/scope.names", laid_jacquard_scope_names)] }
def GenOwnSaid : Prop := genOwnRow.holds Tryz.pinned (OpenSpec.ofChange genOwnSpec)

/-- ITS FALSE NEIGHBOUR: 'it returns false'. Refute it at one input. -/
def genOwnWrong : ChangeSpec := { name := "genOwn", fn := fun _ => fun
  | [d] => { results := [.lit (.bool false)], args := [d] }
  | _ => none }
def GenOwnWrongFalsely : Prop := genOwnRow.holds Tryz.pinned (OpenSpec.ofChange genOwnWrong)

/-- 'jacquardlaw12.GenLists': WHATEVER THE INPUT: true; the input reads as it did. -/
def genListsSpec : ChangeSpec := { name := "genLists", fn := fun _ => fun
  | [d] => { results := [.lit (.bool true)], args := [d] }
  | _ => none }
def genListsRow : OpenClaim := { program := "ythhcnfgeacnfiaagreatdoor", sum := "ba4a6441a03ac4fbaa11386a930ff2291f74a8a87f21d1ccd73cc391b606bbd6", func := "jacquard/jacquardlaw12.GenLists", spec := "genLists", unfollowed := true, recurses := true, named := ["jacquard/scope.names", "jacquard/prim.signs"], apart := false, laid := [("jacquard/prim.signs", laid_jacquard_prim_signs), ("jacquard/scope.names", laid_jacquard_scope_names)] }
def GenListsSaid : Prop := genListsRow.holds Tryz.pinned (OpenSpec.ofChange genListsSpec)

/-- ITS FALSE NEIGHBOUR: 'it returns false'. Refute it at one input. -/
def genListsWrong : ChangeSpec := { name := "genLists", fn := fun _ => fun
  | [d] => { results := [.lit (.bool false)], args := [d] }
  | _ => none }
def GenListsWrongFalsely : Prop := genListsRow.holds Tryz.pinned (OpenSpec.ofChange genListsWrong)

/- THE SECOND FORM. 'bulk': how many values and letters a reading holds, each counted each time it is reached (what is shared counts as often as it is met; a slice's spare places count too). A statement '..UptoSaid' is the law's where the arguments, and the package variables that the reading takes, are together of bulk at most 1048576: NARROWER than '..Said'. Prove '..Said' where nothing that the law and all that it calls make is longer than what came in: it says more and counts as full. Else prove '..UptoSaid'. A law counts once. -/
mutual
def uptoBulk {H : Type} : DataW H → Nat
  | .lit (.string bytes) => bytes.length + 1
  | .lit _ => 1
  | .nil => 1
  | .ptr d => uptoBulk d + 1
  | .slice elems spare => uptoBulkAll elems + uptoBulkAll spare + 1
  | .agg parts => uptoBulkAll parts + 1
  | .iface _ d => uptoBulk d + 1
  | .map entries => uptoBulkEntries entries + 1
  | .held _ => 1
def uptoBulkAll {H : Type} : List (DataW H) → Nat
  | [] => 0
  | d :: r => uptoBulk d + uptoBulkAll r
def uptoBulkEntries {H : Type} : List (Lit × DataW H) → Nat
  | [] => 0
  | x :: r => uptoBulkEntry x + uptoBulkEntries r
def uptoBulkEntry {H : Type} : Lit × DataW H → Nat
  | (.string bytes, d) => bytes.length + uptoBulk d + 1
  | (_, d) => uptoBulk d + 1
 end
def uptoSmall : (H : Type) → List (DataW H) → Bool := fun _ ds => decide (uptoBulkAll ds ≤ 1048576)
def OpenSpec.upto (s : _root_.Go.ChangeSpec) : _root_.Go.OpenSpec := { _root_.Go.OpenSpec.ofChange s with cond := some uptoSmall }

/-- 'jacquardlaw12.GenNeeds', WHERE WHAT IT READS IS OF BULK AT MOST 1048576: true; the input reads as it did. -/
def genNeedsUptoRow : OpenClaim := { program := "ythhcnfgeacnfiaagreatdoor", sum := "ba4a6441a03ac4fbaa11386a930ff2291f74a8a87f21d1ccd73cc391b606bbd6", func := "jacquard/jacquardlaw12.GenNeeds", spec := "genNeeds", unfollowed := true, recurses := true, named := ["jacquard/scope.names", "jacquard/prim.signs"], apart := false, laid := [("jacquard/prim.signs", laid_jacquard_prim_signs), ("jacquard/scope.names", laid_jacquard_scope_names)], narrowed := true }
def GenNeedsUptoSaid : Prop := genNeedsUptoRow.holds Tryz.pinned (OpenSpec.upto genNeedsSpec)

/-- 'jacquardlaw12.GenOwn', WHERE WHAT IT READS IS OF BULK AT MOST 1048576: true; the input reads as it did. -/
def genOwnUptoRow : OpenClaim := { program := "ythhcnfgeacnfiaagreatdoor", sum := "ba4a6441a03ac4fbaa11386a930ff2291f74a8a87f21d1ccd73cc391b606bbd6", func := "jacquard/jacquardlaw12.GenOwn", spec := "genOwn", unfollowed := true, recurses := true, named := ["jacquard/scope.names", "jacquard/prim.signs"], apart := false, laid := [("jacquard/prim.signs", laid_jacquard_prim_signs), ("jacquard/scope.names", laid_jacquard_scope_names)], narrowed := true }
def GenOwnUptoSaid : Prop := genOwnUptoRow.holds Tryz.pinned (OpenSpec.upto genOwnSpec)

/-- 'jacquardlaw12.GenLists', WHERE WHAT IT READS IS OF BULK AT MOST 1048576: true; the input reads as it did. -/
def genListsUptoRow : OpenClaim := { program := "ythhcnfgeacnfiaagreatdoor", sum := "ba4a6441a03ac4fbaa11386a930ff2291f74a8a87f21d1ccd73cc391b606bbd6", func := "jacquard/jacquardlaw12.GenLists", spec := "genLists", unfollowed := true, recurses := true, named := ["jacquard/scope.names", "jacquard/prim.signs"], apart := false, laid := [("jacquard/prim.signs", laid_jacquard_prim_signs), ("jacquard/scope.names", laid_jacquard_scope_names)], narrowed := true }
def GenListsUptoSaid : Prop := genListsUptoRow.holds Tryz.pinned (OpenSpec.upto genListsSpec)

end Rows
end Go.Proofs.YthhcnfgeacnfiaaGreatDoor
