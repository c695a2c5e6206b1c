/-
  NARROWER THAN 'FOR EVERY INPUT', by the rows' own cells (each row's printed sentence says how): SplitRuns: loops · SplitMatches: loops.
  DERIVED. THE GIVEN ROWS OF THIS SEAT. 6 by the template 'for every input the law returns true; each argument reads behind the call as it read before'; 0 by the template 'total and deterministic' (their statements: YtknnbjoagigmgaaGreatTotals.lean).
  GIVEN WITH THE SEED: the statements are not yours to turn. If you find one false, say at which input.
  Laid BY PROGRAM, IN A SANDBOX (cutbox-rows.mjs): the forced cells as the released guide's own fill.sh prints them over the translation 8955e6edaff47036… (all of the seat's roots in one cut). By AI agents, Wed Nov 11 2026. No macro, syntax, notation, axiom, sorry.
-/
import Derived.Test.YtknnbjoagigmgaaGreatChecked
import GoSem.Claim
import GoSem.ClaimJoined
import GoSem.ClaimMapViews
import Derived.JoinedTies
import Derived.KernelRfl
namespace Go.Proofs.YtknnbjoagigmgaaGreat
/- THE CELL 'sum', in the pinned program and in every row, IS THE sha256 OF THE DUMP (.gsa) THAT YtknnbjoagigmgaaGreatProg.lean LOADS. Nothing in Lean hashes anything: it is a label: what it is worth is what the hold of that sum in a sandbox is worth. -/
noncomputable def Tryz.pinned : Pinned := { name := "ytknnbjoagigmgaagreat", sum := "8955e6edaff470362cf11b2da14c9146f45354b0e1b77945e5a94ae4114e6991", checked := Tryz.checked }
namespace Rows
def none {H : Type} : Left H := { results := [], args := [] }

/-- 'telamonlaw22.CoverNumbers': WHATEVER THE INPUT: true; the input reads as it did. -/
def coverNumbersSpec : ChangeSpec := { name := "coverNumbers", fn := fun _ => fun
  | [d1, d2] => { results := [.lit (.bool true)], args := [d1, d2] }
  | _ => none }
def coverNumbersRow : OpenClaim := { program := "ytknnbjoagigmgaagreat", sum := "8955e6edaff470362cf11b2da14c9146f45354b0e1b77945e5a94ae4114e6991", func := "telamon/telamonlaw22.CoverNumbers", spec := "coverNumbers", unfollowed := true, recurses := true, apart := false }
def CoverNumbersSaid : Prop := coverNumbersRow.holds Tryz.pinned (OpenSpec.ofChange coverNumbersSpec)

/-- ITS FALSE NEIGHBOUR: 'it returns false'. Refute it at one input. -/
def coverNumbersWrong : ChangeSpec := { name := "coverNumbers", fn := fun _ => fun
  | [d1, d2] => { results := [.lit (.bool false)], args := [d1, d2] }
  | _ => none }
def CoverNumbersWrongFalsely : Prop := coverNumbersRow.holds Tryz.pinned (OpenSpec.ofChange coverNumbersWrong)

/-- 'telamonlaw21.SplitRuns': WHATEVER THE INPUT: true; the input reads as it did. -/
def splitRunsSpec : ChangeSpec := { name := "splitRuns", fn := fun _ => fun
  | [d1, d2] => { results := [.lit (.bool true)], args := [d1, d2] }
  | _ => none }
def splitRunsRow : OpenClaim := { program := "ytknnbjoagigmgaagreat", sum := "8955e6edaff470362cf11b2da14c9146f45354b0e1b77945e5a94ae4114e6991", func := "telamon/telamonlaw21.SplitRuns", spec := "splitRuns", unfollowed := true, recurses := true, loops := true, apart := false }
def SplitRunsSaid : Prop := splitRunsRow.holds Tryz.pinned (OpenSpec.ofChange splitRunsSpec)

/-- ITS FALSE NEIGHBOUR: 'it returns false'. Refute it at one input. -/
def splitRunsWrong : ChangeSpec := { name := "splitRuns", fn := fun _ => fun
  | [d1, d2] => { results := [.lit (.bool false)], args := [d1, d2] }
  | _ => none }
def SplitRunsWrongFalsely : Prop := splitRunsRow.holds Tryz.pinned (OpenSpec.ofChange splitRunsWrong)

/-- 'telamonlaw21.SplitDeep': WHATEVER THE INPUT: true; the input reads as it did. -/
def splitDeepSpec : ChangeSpec := { name := "splitDeep", fn := fun _ => fun
  | [d1, d2] => { results := [.lit (.bool true)], args := [d1, d2] }
  | _ => none }
def splitDeepRow : OpenClaim := { program := "ytknnbjoagigmgaagreat", sum := "8955e6edaff470362cf11b2da14c9146f45354b0e1b77945e5a94ae4114e6991", func := "telamon/telamonlaw21.SplitDeep", spec := "splitDeep", unfollowed := true, recurses := true, apart := false }
def SplitDeepSaid : Prop := splitDeepRow.holds Tryz.pinned (OpenSpec.ofChange splitDeepSpec)

/-- ITS FALSE NEIGHBOUR: 'it returns false'. Refute it at one input. -/
def splitDeepWrong : ChangeSpec := { name := "splitDeep", fn := fun _ => fun
  | [d1, d2] => { results := [.lit (.bool false)], args := [d1, d2] }
  | _ => none }
def SplitDeepWrongFalsely : Prop := splitDeepRow.holds Tryz.pinned (OpenSpec.ofChange splitDeepWrong)

/-- 'telamonlaw21.SplitColumns': WHATEVER THE INPUT: true; the input reads as it did. -/
def splitColumnsSpec : ChangeSpec := { name := "splitColumns", fn := fun _ => fun
  | [d1, d2] => { results := [.lit (.bool true)], args := [d1, d2] }
  | _ => none }
def splitColumnsRow : OpenClaim := { program := "ytknnbjoagigmgaagreat", sum := "8955e6edaff470362cf11b2da14c9146f45354b0e1b77945e5a94ae4114e6991", func := "telamon/telamonlaw21.SplitColumns", spec := "splitColumns", unfollowed := true, recurses := true, apart := false }
def SplitColumnsSaid : Prop := splitColumnsRow.holds Tryz.pinned (OpenSpec.ofChange splitColumnsSpec)

/-- ITS FALSE NEIGHBOUR: 'it returns false'. Refute it at one input. -/
def splitColumnsWrong : ChangeSpec := { name := "splitColumns", fn := fun _ => fun
  | [d1, d2] => { results := [.lit (.bool false)], args := [d1, d2] }
  | _ => none }
def SplitColumnsWrongFalsely : Prop := splitColumnsRow.holds Tryz.pinned (OpenSpec.ofChange splitColumnsWrong)

/-- 'telamonlaw21.SplitFirst': WHATEVER THE INPUT: true; the input reads as it did. -/
def splitFirstSpec : ChangeSpec := { name := "splitFirst", fn := fun _ => fun
  | [d1, d2] => { results := [.lit (.bool true)], args := [d1, d2] }
  | _ => none }
def splitFirstRow : OpenClaim := { program := "ytknnbjoagigmgaagreat", sum := "8955e6edaff470362cf11b2da14c9146f45354b0e1b77945e5a94ae4114e6991", func := "telamon/telamonlaw21.SplitFirst", spec := "splitFirst", unfollowed := true, recurses := true, apart := false }
def SplitFirstSaid : Prop := splitFirstRow.holds Tryz.pinned (OpenSpec.ofChange splitFirstSpec)

/-- ITS FALSE NEIGHBOUR: 'it returns false'. Refute it at one input. -/
def splitFirstWrong : ChangeSpec := { name := "splitFirst", fn := fun _ => fun
  | [d1, d2] => { results := [.lit (.bool false)], args := [d1, d2] }
  | _ => none }
def SplitFirstWrongFalsely : Prop := splitFirstRow.holds Tryz.pinned (OpenSpec.ofChange splitFirstWrong)

/-- 'telamonlaw21.SplitMatches': WHATEVER THE INPUT: true; the input reads as it did. -/
def splitMatchesSpec : ChangeSpec := { name := "splitMatches", fn := fun _ => fun
  | [d1, d2] => { results := [.lit (.bool true)], args := [d1, d2] }
  | _ => none }
def splitMatchesRow : OpenClaim := { program := "ytknnbjoagigmgaagreat", sum := "8955e6edaff470362cf11b2da14c9146f45354b0e1b77945e5a94ae4114e6991", func := "telamon/telamonlaw21.SplitMatches", spec := "splitMatches", unfollowed := true, recurses := true, loops := true, apart := false }
def SplitMatchesSaid : Prop := splitMatchesRow.holds Tryz.pinned (OpenSpec.ofChange splitMatchesSpec)

/-- ITS FALSE NEIGHBOUR: 'it returns false'. Refute it at one input. -/
def splitMatchesWrong : ChangeSpec := { name := "splitMatches", fn := fun _ => fun
  | [d1, d2] => { results := [.lit (.bool false)], args := [d1, d2] }
  | _ => none }
def SplitMatchesWrongFalsely : Prop := splitMatchesRow.holds Tryz.pinned (OpenSpec.ofChange splitMatchesWrong)

/- THE SECOND FORM. 'bulk': how many values and letters a reading holds, each counted each time it is reached (what is shared counts as often as it is met; a slice's spare places count too). A statement '..UptoSaid' is the law's where the arguments, and the package variables that the reading takes, are together of bulk at most 1048576: NARROWER than '..Said'. Prove '..Said' where nothing that the law and all that it calls make is longer than what came in: it says more and counts as full. Else prove '..UptoSaid'. A law counts once. -/
mutual
def uptoBulk {H : Type} : DataW H → Nat
  | .lit (.string bytes) => bytes.length + 1
  | .lit _ => 1
  | .nil => 1
  | .ptr d => uptoBulk d + 1
  | .slice elems spare => uptoBulkAll elems + uptoBulkAll spare + 1
  | .agg parts => uptoBulkAll parts + 1
  | .iface _ d => uptoBulk d + 1
  | .map entries => uptoBulkEntries entries + 1
  | .held _ => 1
def uptoBulkAll {H : Type} : List (DataW H) → Nat
  | [] => 0
  | d :: r => uptoBulk d + uptoBulkAll r
def uptoBulkEntries {H : Type} : List (Lit × DataW H) → Nat
  | [] => 0
  | x :: r => uptoBulkEntry x + uptoBulkEntries r
def uptoBulkEntry {H : Type} : Lit × DataW H → Nat
  | (.string bytes, d) => bytes.length + uptoBulk d + 1
  | (_, d) => uptoBulk d + 1
 end
def uptoSmall : (H : Type) → List (DataW H) → Bool := fun _ ds => decide (uptoBulkAll ds ≤ 1048576)
def OpenSpec.upto (s : _root_.Go.ChangeSpec) : _root_.Go.OpenSpec := { _root_.Go.OpenSpec.ofChange s with cond := some uptoSmall }

/-- 'telamonlaw22.CoverNumbers', WHERE WHAT IT READS IS OF BULK AT MOST 1048576: true; the input reads as it did. -/
def coverNumbersUptoRow : OpenClaim := { program := "ytknnbjoagigmgaagreat", sum := "8955e6edaff470362cf11b2da14c9146f45354b0e1b77945e5a94ae4114e6991", func := "telamon/telamonlaw22.CoverNumbers", spec := "coverNumbers", unfollowed := true, recurses := true, apart := false, narrowed := true }
def CoverNumbersUptoSaid : Prop := coverNumbersUptoRow.holds Tryz.pinned (OpenSpec.upto coverNumbersSpec)

/-- 'telamonlaw21.SplitRuns', WHERE WHAT IT READS IS OF BULK AT MOST 1048576: true; the input reads as it did. -/
def splitRunsUptoRow : OpenClaim := { program := "ytknnbjoagigmgaagreat", sum := "8955e6edaff470362cf11b2da14c9146f45354b0e1b77945e5a94ae4114e6991", func := "telamon/telamonlaw21.SplitRuns", spec := "splitRuns", unfollowed := true, recurses := true, loops := true, apart := false, narrowed := true }
def SplitRunsUptoSaid : Prop := splitRunsUptoRow.holds Tryz.pinned (OpenSpec.upto splitRunsSpec)

/-- 'telamonlaw21.SplitDeep', WHERE WHAT IT READS IS OF BULK AT MOST 1048576: true; the input reads as it did. -/
def splitDeepUptoRow : OpenClaim := { program := "ytknnbjoagigmgaagreat", sum := "8955e6edaff470362cf11b2da14c9146f45354b0e1b77945e5a94ae4114e6991", func := "telamon/telamonlaw21.SplitDeep", spec := "splitDeep", unfollowed := true, recurses := true, apart := false, narrowed := true }
def SplitDeepUptoSaid : Prop := splitDeepUptoRow.holds Tryz.pinned (OpenSpec.upto splitDeepSpec)

/-- 'telamonlaw21.SplitColumns', WHERE WHAT IT READS IS OF BULK AT MOST 1048576: true; the input reads as it did. -/
def splitColumnsUptoRow : OpenClaim := { program := "ytknnbjoagigmgaagreat", sum := "8955e6edaff470362cf11b2da14c9146f45354b0e1b77945e5a94ae4114e6991", func := "telamon/telamonlaw21.SplitColumns", spec := "splitColumns", unfollowed := true, recurses := true, apart := false, narrowed := true }
def SplitColumnsUptoSaid : Prop := splitColumnsUptoRow.holds Tryz.pinned (OpenSpec.upto splitColumnsSpec)

/-- 'telamonlaw21.SplitFirst', WHERE WHAT IT READS IS OF BULK AT MOST 1048576: true; the input reads as it did. -/
def splitFirstUptoRow : OpenClaim := { program := "ytknnbjoagigmgaagreat", sum := "8955e6edaff470362cf11b2da14c9146f45354b0e1b77945e5a94ae4114e6991", func := "telamon/telamonlaw21.SplitFirst", spec := "splitFirst", unfollowed := true, recurses := true, apart := false, narrowed := true }
def SplitFirstUptoSaid : Prop := splitFirstUptoRow.holds Tryz.pinned (OpenSpec.upto splitFirstSpec)

/-- 'telamonlaw21.SplitMatches', WHERE WHAT IT READS IS OF BULK AT MOST 1048576: true; the input reads as it did. -/
def splitMatchesUptoRow : OpenClaim := { program := "ytknnbjoagigmgaagreat", sum := "8955e6edaff470362cf11b2da14c9146f45354b0e1b77945e5a94ae4114e6991", func := "telamon/telamonlaw21.SplitMatches", spec := "splitMatches", unfollowed := true, recurses := true, loops := true, apart := false, narrowed := true }
def SplitMatchesUptoSaid : Prop := splitMatchesUptoRow.holds Tryz.pinned (OpenSpec.upto splitMatchesSpec)

end Rows
end Go.Proofs.YtknnbjoagigmgaaGreat
