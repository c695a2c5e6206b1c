/-
  NARROWER THAN 'FOR EVERY INPUT', by the rows' own cells (each row's printed sentence says how): FixForms: laid · FixTwo: laid · FixNested: laid.
  DERIVED. THE GIVEN ROWS OF THIS SEAT. 3 by the template 'for every input the law returns true; each argument reads behind the call as it read before'; 0 by the template 'total and deterministic' (their statements: YtpbpmpabndgeeaaGreatDoorTotals.lean).
  GIVEN WITH THE SEED: the statements are not yours to turn. If you find one false, say at which input.
  Laid BY PROGRAM, IN A SANDBOX (cutbox-rows.mjs): the forced cells as the released guide's own fill.sh prints them over the translation 88cb0e87231dc84a… (all of the seat's roots in one cut). By AI agents, Wed Nov 11 2026. No macro, syntax, notation, axiom, sorry.
-/
import Derived.Test.YtpbpmpabndgeeaaGreatDoorChecked
import GoSem.Claim
import GoSem.ClaimJoined
import GoSem.ClaimMapViews
import Derived.JoinedTies
import Derived.KernelRfl
namespace Go.Proofs.YtpbpmpabndgeeaaGreatDoor
/- THE CELL 'sum', in the pinned program and in every row, IS THE sha256 OF THE DUMP (.gsa) THAT YtpbpmpabndgeeaaGreatDoorProg.lean LOADS. Nothing in Lean hashes anything: it is a label: what it is worth is what the hold of that sum in a sandbox is worth. -/
noncomputable def Tryz.pinned : Pinned := { name := "ytpbpmpabndgeeaagreatdoor", sum := "88cb0e87231dc84af80496acd12e37da2208c4a89eb04165cff8fc6134ee242f", checked := Tryz.checked }
namespace Rows
def none {H : Type} : Left H := { results := [], args := [] }

/- WHAT THE LISTED PACKAGE-LEVEL VARIABLES READ AS WHEN THE CALL BEGINS. Each datum BY PROGRAM (the guide's laid-datum.mjs) off the statement by which the dump's own 'gosem.cut.vars' lays the variable. In a bare row this is a premise. The card (YtpbpmpabndgeeaaGreatDoorCards.lean) ties it to the program's text. -/
def laid_errors_errorType {H : Type} : DataW H := .iface "internal/reflectlite.rtype" (.agg [.ptr (.lit (.string [101, 114, 114, 111, 114]))])

/-- 'telamonlaw15.FixForms': WHATEVER THE INPUT: true; the input reads as it did. -/
def fixFormsSpec : ChangeSpec := { name := "fixForms", fn := fun _ => fun
  | [d] => { results := [.lit (.bool true)], args := [d] }
  | _ => none }
def fixFormsRow : OpenClaim := { program := "ytpbpmpabndgeeaagreatdoor", sum := "88cb0e87231dc84af80496acd12e37da2208c4a89eb04165cff8fc6134ee242f", func := "telamon/telamonlaw15.FixForms", spec := "fixForms", inPlace := ["internal/reflectlite.ValueOf", "(internal/reflectlite.Value).Type", "(internal/reflectlite.Value).IsNil", "internal/reflectlite.TypeOf", "(internal/reflectlite.Value).Elem", "(internal/reflectlite.Value).Set"], unfollowed := true, recurses := true, named := ["errors.errorType"], plainKeys := false, apart := false, laid := [("errors.errorType", laid_errors_errorType)] }
def FixFormsSaid : Prop := fixFormsRow.holds Tryz.pinned (OpenSpec.ofChange fixFormsSpec)

/-- ITS FALSE NEIGHBOUR: 'it returns false'. Refute it at one input. -/
def fixFormsWrong : ChangeSpec := { name := "fixForms", fn := fun _ => fun
  | [d] => { results := [.lit (.bool false)], args := [d] }
  | _ => none }
def FixFormsWrongFalsely : Prop := fixFormsRow.holds Tryz.pinned (OpenSpec.ofChange fixFormsWrong)

/-- 'telamonlaw15.FixTwo': WHATEVER THE INPUT: true; the input reads as it did. -/
def fixTwoSpec : ChangeSpec := { name := "fixTwo", fn := fun _ => fun
  | [d1, d2, d3, d4] => { results := [.lit (.bool true)], args := [d1, d2, d3, d4] }
  | _ => none }
def fixTwoRow : OpenClaim := { program := "ytpbpmpabndgeeaagreatdoor", sum := "88cb0e87231dc84af80496acd12e37da2208c4a89eb04165cff8fc6134ee242f", func := "telamon/telamonlaw15.FixTwo", spec := "fixTwo", inPlace := ["internal/reflectlite.ValueOf", "(internal/reflectlite.Value).Type", "(internal/reflectlite.Value).IsNil", "internal/reflectlite.TypeOf", "(internal/reflectlite.Value).Elem", "(internal/reflectlite.Value).Set"], unfollowed := true, recurses := true, named := ["errors.errorType"], plainKeys := false, apart := false, laid := [("errors.errorType", laid_errors_errorType)] }
def FixTwoSaid : Prop := fixTwoRow.holds Tryz.pinned (OpenSpec.ofChange fixTwoSpec)

/-- ITS FALSE NEIGHBOUR: 'it returns false'. Refute it at one input. -/
def fixTwoWrong : ChangeSpec := { name := "fixTwo", fn := fun _ => fun
  | [d1, d2, d3, d4] => { results := [.lit (.bool false)], args := [d1, d2, d3, d4] }
  | _ => none }
def FixTwoWrongFalsely : Prop := fixTwoRow.holds Tryz.pinned (OpenSpec.ofChange fixTwoWrong)

/-- 'telamonlaw15.FixNested': WHATEVER THE INPUT: true; the input reads as it did. -/
def fixNestedSpec : ChangeSpec := { name := "fixNested", fn := fun _ => fun
  | [d1, d2] => { results := [.lit (.bool true)], args := [d1, d2] }
  | _ => none }
def fixNestedRow : OpenClaim := { program := "ytpbpmpabndgeeaagreatdoor", sum := "88cb0e87231dc84af80496acd12e37da2208c4a89eb04165cff8fc6134ee242f", func := "telamon/telamonlaw15.FixNested", spec := "fixNested", inPlace := ["internal/reflectlite.ValueOf", "(internal/reflectlite.Value).Type", "(internal/reflectlite.Value).IsNil", "internal/reflectlite.TypeOf", "(internal/reflectlite.Value).Elem", "(internal/reflectlite.Value).Set"], unfollowed := true, recurses := true, named := ["errors.errorType"], plainKeys := false, apart := false, laid := [("errors.errorType", laid_errors_errorType)] }
def FixNestedSaid : Prop := fixNestedRow.holds Tryz.pinned (OpenSpec.ofChange fixNestedSpec)

/-- ITS FALSE NEIGHBOUR: 'it returns false'. Refute it at one input. -/
def fixNestedWrong : ChangeSpec := { name := "fixNested", fn := fun _ => fun
  | [d1, d2] => { results := [.lit (.bool false)], args := [d1, d2] }
  | _ => none }
def FixNestedWrongFalsely : Prop := fixNestedRow.holds Tryz.pinned (OpenSpec.ofChange fixNestedWrong)

/- THE SECOND FORM. 'bulk': how many values and letters a reading holds, each counted each time it is reached (what is shared counts as often as it is met; a slice's spare places count too). A statement '..UptoSaid' is the law's where the arguments, and the package variables that the reading takes, are together of bulk at most 1048576: NARROWER than '..Said'. Prove '..Said' where nothing that the law and all that it calls make is longer than what came in: it says more and counts as full. Else prove '..UptoSaid'. A law counts once. -/
mutual
def uptoBulk {H : Type} : DataW H → Nat
  | .lit (.string bytes) => bytes.length + 1
  | .lit _ => 1
  | .nil => 1
  | .ptr d => uptoBulk d + 1
  | .slice elems spare => uptoBulkAll elems + uptoBulkAll spare + 1
  | .agg parts => uptoBulkAll parts + 1
  | .iface _ d => uptoBulk d + 1
  | .map entries => uptoBulkEntries entries + 1
  | .held _ => 1
def uptoBulkAll {H : Type} : List (DataW H) → Nat
  | [] => 0
  | d :: r => uptoBulk d + uptoBulkAll r
def uptoBulkEntries {H : Type} : List (Lit × DataW H) → Nat
  | [] => 0
  | x :: r => uptoBulkEntry x + uptoBulkEntries r
def uptoBulkEntry {H : Type} : Lit × DataW H → Nat
  | (.string bytes, d) => bytes.length + uptoBulk d + 1
  | (_, d) => uptoBulk d + 1
 end
def uptoSmall : (H : Type) → List (DataW H) → Bool := fun _ ds => decide (uptoBulkAll ds ≤ 1048576)
def OpenSpec.upto (s : _root_.Go.ChangeSpec) : _root_.Go.OpenSpec := { _root_.Go.OpenSpec.ofChange s with cond := some uptoSmall }

/-- 'telamonlaw15.FixForms', WHERE WHAT IT READS IS OF BULK AT MOST 1048576: true; the input reads as it did. -/
def fixFormsUptoRow : OpenClaim := { program := "ytpbpmpabndgeeaagreatdoor", sum := "88cb0e87231dc84af80496acd12e37da2208c4a89eb04165cff8fc6134ee242f", func := "telamon/telamonlaw15.FixForms", spec := "fixForms", inPlace := ["internal/reflectlite.ValueOf", "(internal/reflectlite.Value).Type", "(internal/reflectlite.Value).IsNil", "internal/reflectlite.TypeOf", "(internal/reflectlite.Value).Elem", "(internal/reflectlite.Value).Set"], unfollowed := true, recurses := true, named := ["errors.errorType"], plainKeys := false, apart := false, laid := [("errors.errorType", laid_errors_errorType)], narrowed := true }
def FixFormsUptoSaid : Prop := fixFormsUptoRow.holds Tryz.pinned (OpenSpec.upto fixFormsSpec)

/-- 'telamonlaw15.FixTwo', WHERE WHAT IT READS IS OF BULK AT MOST 1048576: true; the input reads as it did. -/
def fixTwoUptoRow : OpenClaim := { program := "ytpbpmpabndgeeaagreatdoor", sum := "88cb0e87231dc84af80496acd12e37da2208c4a89eb04165cff8fc6134ee242f", func := "telamon/telamonlaw15.FixTwo", spec := "fixTwo", inPlace := ["internal/reflectlite.ValueOf", "(internal/reflectlite.Value).Type", "(internal/reflectlite.Value).IsNil", "internal/reflectlite.TypeOf", "(internal/reflectlite.Value).Elem", "(internal/reflectlite.Value).Set"], unfollowed := true, recurses := true, named := ["errors.errorType"], plainKeys := false, apart := false, laid := [("errors.errorType", laid_errors_errorType)], narrowed := true }
def FixTwoUptoSaid : Prop := fixTwoUptoRow.holds Tryz.pinned (OpenSpec.upto fixTwoSpec)

/-- 'telamonlaw15.FixNested', WHERE WHAT IT READS IS OF BULK AT MOST 1048576: true; the input reads as it did. -/
def fixNestedUptoRow : OpenClaim := { program := "ytpbpmpabndgeeaagreatdoor", sum := "88cb0e87231dc84af80496acd12e37da2208c4a89eb04165cff8fc6134ee242f", func := "telamon/telamonlaw15.FixNested", spec := "fixNested", inPlace := ["internal/reflectlite.ValueOf", "(internal/reflectlite.Value).Type", "(internal/reflectlite.Value).IsNil", "internal/reflectlite.TypeOf", "(internal/reflectlite.Value).Elem", "(internal/reflectlite.Value).Set"], unfollowed := true, recurses := true, named := ["errors.errorType"], plainKeys := false, apart := false, laid := [("errors.errorType", laid_errors_errorType)], narrowed := true }
def FixNestedUptoSaid : Prop := fixNestedUptoRow.holds Tryz.pinned (OpenSpec.upto fixNestedSpec)

end Rows
end Go.Proofs.YtpbpmpabndgeeaaGreatDoor
