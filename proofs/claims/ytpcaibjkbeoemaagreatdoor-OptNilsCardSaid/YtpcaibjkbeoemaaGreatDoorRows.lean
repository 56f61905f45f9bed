/-
  NARROWER THAN 'FOR EVERY INPUT', by the rows' own cells (each row's printed sentence says how): OptPlain: laid · OptOwn: laid · OptNils: laid.
  DERIVED. THE GIVEN ROWS OF THIS SEAT. 3 by the template 'for every input the law returns true; each argument reads behind the call as it read before'; 0 by the template 'total and deterministic' (their statements: YtpcaibjkbeoemaaGreatDoorTotals.lean).
  GIVEN WITH THE SEED: the statements are not yours to turn. If you find one false, say at which input.
  Laid BY PROGRAM, IN A SANDBOX (cutbox-rows.mjs): the forced cells as the released guide's own fill.sh prints them over the translation 9b80a258f519389c… (all of the seat's roots in one cut). By AI agents, Wed Nov 11 2026. No macro, syntax, notation, axiom, sorry.
-/
import Derived.Test.YtpcaibjkbeoemaaGreatDoorChecked
import GoSem.Claim
import GoSem.ClaimJoined
import GoSem.ClaimMapViews
import Derived.JoinedTies
import Derived.KernelRfl
namespace Go.Proofs.YtpcaibjkbeoemaaGreatDoor
/- THE CELL 'sum', in the pinned program and in every row, IS THE sha256 OF THE DUMP (.gsa) THAT YtpcaibjkbeoemaaGreatDoorProg.lean LOADS. Nothing in Lean hashes anything: it is a label: what it is worth is what the hold of that sum in a sandbox is worth. -/
noncomputable def Tryz.pinned : Pinned := { name := "ytpcaibjkbeoemaagreatdoor", sum := "9b80a258f519389c551711eb185595d9af2e35d894b09aeb1b965ecfa913943a", checked := Tryz.checked }
namespace Rows
def none {H : Type} : Left H := { results := [], args := [] }

/- WHAT THE LISTED PACKAGE-LEVEL VARIABLES READ AS WHEN THE CALL BEGINS. Each datum BY PROGRAM (the guide's laid-datum.mjs) off the statement by which the dump's own 'gosem.cut.vars' lays the variable. In a bare row this is a premise. The card (YtpcaibjkbeoemaaGreatDoorCards.lean) ties it to the program's text. -/
def laid_jacquard_code_names {H : Type} : DataW H := .agg [.lit (.string [105, 110, 116]), .lit (.string [97, 116, 111, 109]), .lit (.string [115, 116, 114]), .lit (.string [112, 114, 105, 109]), .lit (.string [112, 111, 112]), .lit (.string [108, 111, 97, 100]), .lit (.string [115, 116, 111, 114, 101]), .lit (.string [98, 111, 120]), .lit (.string [108, 111, 97, 100, 99, 101, 108, 108]), .lit (.string [115, 116, 111, 114, 101, 99, 101, 108, 108]), .lit (.string [108, 111, 97, 100, 99, 97, 112]), .lit (.string [115, 116, 111, 114, 101, 99, 97, 112]), .lit (.string [108, 111, 97, 100, 103, 108, 111, 98, 97, 108]), .lit (.string [115, 116, 111, 114, 101, 103, 108, 111, 98, 97, 108]), .lit (.string [108, 105, 115, 116]), .lit (.string [114, 101, 99]), .lit (.string [102, 117, 110]), .lit (.string [98, 105, 110]), .lit (.string [110, 111, 116]), .lit (.string [110, 101, 103]), .lit (.string [106, 117, 109, 112]), .lit (.string [102, 97, 108, 115, 101]), .lit (.string [107, 101, 101, 112, 102, 97, 108, 115, 101]), .lit (.string [107, 101, 101, 112, 116, 114, 117, 101]), .lit (.string [108, 111, 111, 112]), .lit (.string [99, 97, 108, 108]), .lit (.string [115, 112, 97, 119, 110]), .lit (.string [114, 101, 116, 117, 114, 110]), .lit (.string [116, 104, 114, 111, 119]), .lit (.string [105, 110, 100, 101, 120]), .lit (.string [115, 101, 116, 105, 110, 100, 101, 120]), .lit (.string [102, 105, 101, 108, 100]), .lit (.string [115, 101, 116, 102, 105, 101, 108, 100])]
def laid_jacquard_code_takes {H : Type} : DataW H := .agg [.lit (.int .i64 0), .lit (.int .i64 0), .lit (.int .i64 0), .lit (.int .i64 0), .lit (.int .i64 1), .lit (.int .i64 0), .lit (.int .i64 1), .lit (.int .i64 0), .lit (.int .i64 0), .lit (.int .i64 1), .lit (.int .i64 0), .lit (.int .i64 1), .lit (.int .i64 0), .lit (.int .i64 1), .lit (.int .i64 0), .lit (.int .i64 0), .lit (.int .i64 0), .lit (.int .i64 2), .lit (.int .i64 1), .lit (.int .i64 1), .lit (.int .i64 0), .lit (.int .i64 1), .lit (.int .i64 1), .lit (.int .i64 1), .lit (.int .i64 0), .lit (.int .i64 1), .lit (.int .i64 1), .lit (.int .i64 1), .lit (.int .i64 1), .lit (.int .i64 2), .lit (.int .i64 3), .lit (.int .i64 1), .lit (.int .i64 2)]
def laid_jacquard_code_puts {H : Type} : DataW H := .agg [.lit (.int .i64 1), .lit (.int .i64 1), .lit (.int .i64 1), .lit (.int .i64 1), .lit (.int .i64 0), .lit (.int .i64 1), .lit (.int .i64 0), .lit (.int .i64 0), .lit (.int .i64 1), .lit (.int .i64 0), .lit (.int .i64 1), .lit (.int .i64 0), .lit (.int .i64 1), .lit (.int .i64 0), .lit (.int .i64 1), .lit (.int .i64 1), .lit (.int .i64 1), .lit (.int .i64 1), .lit (.int .i64 1), .lit (.int .i64 1), .lit (.int .i64 0), .lit (.int .i64 0), .lit (.int .i64 0), .lit (.int .i64 0), .lit (.int .i64 0), .lit (.int .i64 1), .lit (.int .i64 1), .lit (.int .i64 0), .lit (.int .i64 0), .lit (.int .i64 1), .lit (.int .i64 0), .lit (.int .i64 1), .lit (.int .i64 0)]

/-- 'jacquardlaw16.OptPlain': WHATEVER THE INPUT: true; the input reads as it did. -/
def optPlainSpec : ChangeSpec := { name := "optPlain", fn := fun _ => fun
  | [d1, d2, d3, d4, d5] => { results := [.lit (.bool true)], args := [d1, d2, d3, d4, d5] }
  | _ => none }
def optPlainRow : OpenClaim := { program := "ytpcaibjkbeoemaagreatdoor", sum := "9b80a258f519389c551711eb185595d9af2e35d894b09aeb1b965ecfa913943a", func := "jacquard/jacquardlaw16.OptPlain", spec := "optPlain", unfollowed := true, recurses := true, named := ["jacquard/code.names", "jacquard/code.takes", "jacquard/code.puts"], plainKeys := false, apart := false, laid := [("jacquard/code.names", laid_jacquard_code_names), ("jacquard/code.takes", laid_jacquard_code_takes), ("jacquard/code.puts", laid_jacquard_code_puts)] }
def OptPlainSaid : Prop := optPlainRow.holds Tryz.pinned (OpenSpec.ofChange optPlainSpec)

/-- ITS FALSE NEIGHBOUR: 'it returns false'. Refute it at one input. -/
def optPlainWrong : ChangeSpec := { name := "optPlain", fn := fun _ => fun
  | [d1, d2, d3, d4, d5] => { results := [.lit (.bool false)], args := [d1, d2, d3, d4, d5] }
  | _ => none }
def OptPlainWrongFalsely : Prop := optPlainRow.holds Tryz.pinned (OpenSpec.ofChange optPlainWrong)

/-- 'jacquardlaw16.OptOwn': WHATEVER THE INPUT: true; the input reads as it did. -/
def optOwnSpec : ChangeSpec := { name := "optOwn", fn := fun _ => fun
  | [d1, d2, d3, d4, d5] => { results := [.lit (.bool true)], args := [d1, d2, d3, d4, d5] }
  | _ => none }
def optOwnRow : OpenClaim := { program := "ytpcaibjkbeoemaagreatdoor", sum := "9b80a258f519389c551711eb185595d9af2e35d894b09aeb1b965ecfa913943a", func := "jacquard/jacquardlaw16.OptOwn", spec := "optOwn", unfollowed := true, recurses := true, named := ["jacquard/code.names", "jacquard/code.takes", "jacquard/code.puts"], plainKeys := false, apart := false, laid := [("jacquard/code.names", laid_jacquard_code_names), ("jacquard/code.takes", laid_jacquard_code_takes), ("jacquard/code.puts", laid_jacquard_code_puts)] }
def OptOwnSaid : Prop := optOwnRow.holds Tryz.pinned (OpenSpec.ofChange optOwnSpec)

/-- ITS FALSE NEIGHBOUR: 'it returns false'. Refute it at one input. -/
def optOwnWrong : ChangeSpec := { name := "optOwn", fn := fun _ => fun
  | [d1, d2, d3, d4, d5] => { results := [.lit (.bool false)], args := [d1, d2, d3, d4, d5] }
  | _ => none }
def OptOwnWrongFalsely : Prop := optOwnRow.holds Tryz.pinned (OpenSpec.ofChange optOwnWrong)

/-- 'jacquardlaw16.OptNils': WHATEVER THE INPUT: true; the input reads as it did. -/
def optNilsSpec : ChangeSpec := { name := "optNils", fn := fun _ => fun
  | [d] => { results := [.lit (.bool true)], args := [d] }
  | _ => none }
def optNilsRow : OpenClaim := { program := "ytpcaibjkbeoemaagreatdoor", sum := "9b80a258f519389c551711eb185595d9af2e35d894b09aeb1b965ecfa913943a", func := "jacquard/jacquardlaw16.OptNils", spec := "optNils", unfollowed := true, recurses := true, named := ["jacquard/code.names", "jacquard/code.takes", "jacquard/code.puts"], plainKeys := false, apart := false, laid := [("jacquard/code.names", laid_jacquard_code_names), ("jacquard/code.takes", laid_jacquard_code_takes), ("jacquard/code.puts", laid_jacquard_code_puts)] }
def OptNilsSaid : Prop := optNilsRow.holds Tryz.pinned (OpenSpec.ofChange optNilsSpec)

/-- ITS FALSE NEIGHBOUR: 'it returns false'. Refute it at one input. -/
def optNilsWrong : ChangeSpec := { name := "optNils", fn := fun _ => fun
  | [d] => { results := [.lit (.bool false)], args := [d] }
  | _ => none }
def OptNilsWrongFalsely : Prop := optNilsRow.holds Tryz.pinned (OpenSpec.ofChange optNilsWrong)

/- THE SECOND FORM. 'bulk': how many values and letters a reading holds, each counted each time it is reached (what is shared counts as often as it is met; a slice's spare places count too). A statement '..UptoSaid' is the law's where the arguments, and the package variables that the reading takes, are together of bulk at most 1048576: NARROWER than '..Said'. Prove '..Said' where nothing that the law and all that it calls make is longer than what came in: it says more and counts as full. Else prove '..UptoSaid'. A law counts once. -/
mutual
def uptoBulk {H : Type} : DataW H → Nat
  | .lit (.string bytes) => bytes.length + 1
  | .lit _ => 1
  | .nil => 1
  | .ptr d => uptoBulk d + 1
  | .slice elems spare => uptoBulkAll elems + uptoBulkAll spare + 1
  | .agg parts => uptoBulkAll parts + 1
  | .iface _ d => uptoBulk d + 1
  | .map entries => uptoBulkEntries entries + 1
  | .held _ => 1
def uptoBulkAll {H : Type} : List (DataW H) → Nat
  | [] => 0
  | d :: r => uptoBulk d + uptoBulkAll r
def uptoBulkEntries {H : Type} : List (Lit × DataW H) → Nat
  | [] => 0
  | x :: r => uptoBulkEntry x + uptoBulkEntries r
def uptoBulkEntry {H : Type} : Lit × DataW H → Nat
  | (.string bytes, d) => bytes.length + uptoBulk d + 1
  | (_, d) => uptoBulk d + 1
 end
def uptoSmall : (H : Type) → List (DataW H) → Bool := fun _ ds => decide (uptoBulkAll ds ≤ 1048576)
def OpenSpec.upto (s : _root_.Go.ChangeSpec) : _root_.Go.OpenSpec := { _root_.Go.OpenSpec.ofChange s with cond := some uptoSmall }

/-- 'jacquardlaw16.OptPlain', WHERE WHAT IT READS IS OF BULK AT MOST 1048576: true; the input reads as it did. -/
def optPlainUptoRow : OpenClaim := { program := "ytpcaibjkbeoemaagreatdoor", sum := "9b80a258f519389c551711eb185595d9af2e35d894b09aeb1b965ecfa913943a", func := "jacquard/jacquardlaw16.OptPlain", spec := "optPlain", unfollowed := true, recurses := true, named := ["jacquard/code.names", "jacquard/code.takes", "jacquard/code.puts"], plainKeys := false, apart := false, laid := [("jacquard/code.names", laid_jacquard_code_names), ("jacquard/code.takes", laid_jacquard_code_takes), ("jacquard/code.puts", laid_jacquard_code_puts)], narrowed := true }
def OptPlainUptoSaid : Prop := optPlainUptoRow.holds Tryz.pinned (OpenSpec.upto optPlainSpec)

/-- 'jacquardlaw16.OptOwn', WHERE WHAT IT READS IS OF BULK AT MOST 1048576: true; the input reads as it did. -/
def optOwnUptoRow : OpenClaim := { program := "ytpcaibjkbeoemaagreatdoor", sum := "9b80a258f519389c551711eb185595d9af2e35d894b09aeb1b965ecfa913943a", func := "jacquard/jacquardlaw16.OptOwn", spec := "optOwn", unfollowed := true, recurses := true, named := ["jacquard/code.names", "jacquard/code.takes", "jacquard/code.puts"], plainKeys := false, apart := false, laid := [("jacquard/code.names", laid_jacquard_code_names), ("jacquard/code.takes", laid_jacquard_code_takes), ("jacquard/code.puts", laid_jacquard_code_puts)], narrowed := true }
def OptOwnUptoSaid : Prop := optOwnUptoRow.holds Tryz.pinned (OpenSpec.upto optOwnSpec)

/-- 'jacquardlaw16.OptNils', WHERE WHAT IT READS IS OF BULK AT MOST 1048576: true; the input reads as it did. -/
def optNilsUptoRow : OpenClaim := { program := "ytpcaibjkbeoemaagreatdoor", sum := "9b80a258f519389c551711eb185595d9af2e35d894b09aeb1b965ecfa913943a", func := "jacquard/jacquardlaw16.OptNils", spec := "optNils", unfollowed := true, recurses := true, named := ["jacquard/code.names", "jacquard/code.takes", "jacquard/code.puts"], plainKeys := false, apart := false, laid := [("jacquard/code.names", laid_jacquard_code_names), ("jacquard/code.takes", laid_jacquard_code_takes), ("jacquard/code.puts", laid_jacquard_code_puts)], narrowed := true }
def OptNilsUptoSaid : Prop := optNilsUptoRow.holds Tryz.pinned (OpenSpec.upto optNilsSpec)

end Rows
end Go.Proofs.YtpcaibjkbeoemaaGreatDoor
