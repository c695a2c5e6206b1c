/-
  NARROWER THAN 'FOR EVERY INPUT', by the rows' own cells (each row's printed sentence says how): RecurseFinds: loops · RecurseOrders: loops.
  DERIVED. THE GIVEN ROWS OF THIS SEAT. 14 by the template 'for every input the law returns true; each argument reads behind the call as it read before'; 0 by the template 'total and deterministic' (their statements: YtjagmfgjlfkmgaaTotals.lean).
  GIVEN WITH THE SEED: the statements are not yours to turn. If you find one false, say at which input.
  Laid BY PROGRAM, IN A SANDBOX (cutbox-rows.mjs): the forced cells as the released guide's own fill.sh prints them over the translation df4a72a021f8d9fa… (all of the seat's roots in one cut). By AI agents, Wed Nov 11 2026. No macro, syntax, notation, axiom, sorry.
-/
import Derived.Test.YtjagmfgjlfkmgaaChecked
import GoSem.Claim
import GoSem.ClaimJoined
import GoSem.ClaimMapViews
import Derived.JoinedTies
import Derived.KernelRfl
namespace Go.Proofs.Ytjagmfgjlfkmgaa
/- THE CELL 'sum', in the pinned program and in every row, IS THE sha256 OF THE DUMP (.gsa) THAT YtjagmfgjlfkmgaaProg.lean LOADS. Nothing in Lean hashes anything: it is a label: what it is worth is what the hold of that sum in a sandbox is worth. -/
noncomputable def Try.pinned : Pinned := { name := "ytjagmfgjlfkmgaa", sum := "df4a72a021f8d9fabf0b2c8e04768c67b69792267a340e9ac03fa964ed2f7953", checked := Try.checked }
namespace Rows
def none {H : Type} : Left H := { results := [], args := [] }

/-- 'telamonlaw23.RecurseFinds': WHATEVER THE INPUT: true; the input reads as it did. -/
def recurseFindsSpec : ChangeSpec := { name := "recurseFinds", fn := fun _ => fun
  | [d1, d2] => { results := [.lit (.bool true)], args := [d1, d2] }
  | _ => none }
def recurseFindsRow : OpenClaim := { program := "ytjagmfgjlfkmgaa", sum := "df4a72a021f8d9fabf0b2c8e04768c67b69792267a340e9ac03fa964ed2f7953", func := "telamon/telamonlaw23.RecurseFinds", spec := "recurseFinds", unfollowed := true, recurses := true, loops := true, apart := false }
def RecurseFindsSaid : Prop := recurseFindsRow.holds Try.pinned (OpenSpec.ofChange recurseFindsSpec)

/-- ITS FALSE NEIGHBOUR: 'it returns false'. Refute it at one input. -/
def recurseFindsWrong : ChangeSpec := { name := "recurseFinds", fn := fun _ => fun
  | [d1, d2] => { results := [.lit (.bool false)], args := [d1, d2] }
  | _ => none }
def RecurseFindsWrongFalsely : Prop := recurseFindsRow.holds Try.pinned (OpenSpec.ofChange recurseFindsWrong)

/-- 'telamonlaw23.RecurseOrders': WHATEVER THE INPUT: true; the input reads as it did. -/
def recurseOrdersSpec : ChangeSpec := { name := "recurseOrders", fn := fun _ => fun
  | [d1, d2] => { results := [.lit (.bool true)], args := [d1, d2] }
  | _ => none }
def recurseOrdersRow : OpenClaim := { program := "ytjagmfgjlfkmgaa", sum := "df4a72a021f8d9fabf0b2c8e04768c67b69792267a340e9ac03fa964ed2f7953", func := "telamon/telamonlaw23.RecurseOrders", spec := "recurseOrders", unfollowed := true, recurses := true, loops := true, apart := false }
def RecurseOrdersSaid : Prop := recurseOrdersRow.holds Try.pinned (OpenSpec.ofChange recurseOrdersSpec)

/-- ITS FALSE NEIGHBOUR: 'it returns false'. Refute it at one input. -/
def recurseOrdersWrong : ChangeSpec := { name := "recurseOrders", fn := fun _ => fun
  | [d1, d2] => { results := [.lit (.bool false)], args := [d1, d2] }
  | _ => none }
def RecurseOrdersWrongFalsely : Prop := recurseOrdersRow.holds Try.pinned (OpenSpec.ofChange recurseOrdersWrong)

/-- 'telamonlaw23.RecurseDeep': WHATEVER THE INPUT: true; the input reads as it did. -/
def recurseDeepSpec : ChangeSpec := { name := "recurseDeep", fn := fun _ => fun
  | [d1, d2] => { results := [.lit (.bool true)], args := [d1, d2] }
  | _ => none }
def recurseDeepRow : OpenClaim := { program := "ytjagmfgjlfkmgaa", sum := "df4a72a021f8d9fabf0b2c8e04768c67b69792267a340e9ac03fa964ed2f7953", func := "telamon/telamonlaw23.RecurseDeep", spec := "recurseDeep", unfollowed := true, recurses := true, apart := false }
def RecurseDeepSaid : Prop := recurseDeepRow.holds Try.pinned (OpenSpec.ofChange recurseDeepSpec)

/-- ITS FALSE NEIGHBOUR: 'it returns false'. Refute it at one input. -/
def recurseDeepWrong : ChangeSpec := { name := "recurseDeep", fn := fun _ => fun
  | [d1, d2] => { results := [.lit (.bool false)], args := [d1, d2] }
  | _ => none }
def RecurseDeepWrongFalsely : Prop := recurseDeepRow.holds Try.pinned (OpenSpec.ofChange recurseDeepWrong)

/-- 'telamonlaw19.LsolveLeast': WHATEVER THE INPUT: true; the input reads as it did. -/
def lsolveLeastSpec : ChangeSpec := { name := "lsolveLeast", fn := fun _ => fun
  | [d1, d2] => { results := [.lit (.bool true)], args := [d1, d2] }
  | _ => none }
def lsolveLeastRow : OpenClaim := { program := "ytjagmfgjlfkmgaa", sum := "df4a72a021f8d9fabf0b2c8e04768c67b69792267a340e9ac03fa964ed2f7953", func := "telamon/telamonlaw19.LsolveLeast", spec := "lsolveLeast", unfollowed := true, recurses := true, apart := false }
def LsolveLeastSaid : Prop := lsolveLeastRow.holds Try.pinned (OpenSpec.ofChange lsolveLeastSpec)

/-- ITS FALSE NEIGHBOUR: 'it returns false'. Refute it at one input. -/
def lsolveLeastWrong : ChangeSpec := { name := "lsolveLeast", fn := fun _ => fun
  | [d1, d2] => { results := [.lit (.bool false)], args := [d1, d2] }
  | _ => none }
def LsolveLeastWrongFalsely : Prop := lsolveLeastRow.holds Try.pinned (OpenSpec.ofChange lsolveLeastWrong)

/-- 'telamonlaw19.LsolveHolds': WHATEVER THE INPUT: true; the input reads as it did. -/
def lsolveHoldsSpec : ChangeSpec := { name := "lsolveHolds", fn := fun _ => fun
  | [d1, d2, d3] => { results := [.lit (.bool true)], args := [d1, d2, d3] }
  | _ => none }
def lsolveHoldsRow : OpenClaim := { program := "ytjagmfgjlfkmgaa", sum := "df4a72a021f8d9fabf0b2c8e04768c67b69792267a340e9ac03fa964ed2f7953", func := "telamon/telamonlaw19.LsolveHolds", spec := "lsolveHolds", unfollowed := true, recurses := true, apart := false }
def LsolveHoldsSaid : Prop := lsolveHoldsRow.holds Try.pinned (OpenSpec.ofChange lsolveHoldsSpec)

/-- ITS FALSE NEIGHBOUR: 'it returns false'. Refute it at one input. -/
def lsolveHoldsWrong : ChangeSpec := { name := "lsolveHolds", fn := fun _ => fun
  | [d1, d2, d3] => { results := [.lit (.bool false)], args := [d1, d2, d3] }
  | _ => none }
def LsolveHoldsWrongFalsely : Prop := lsolveHoldsRow.holds Try.pinned (OpenSpec.ofChange lsolveHoldsWrong)

/-- 'telamonlaw19.LsolveRow': WHATEVER THE INPUT: true; the input reads as it did. -/
def lsolveRowSpec : ChangeSpec := { name := "lsolveRow", fn := fun _ => fun
  | [d1, d2, d3] => { results := [.lit (.bool true)], args := [d1, d2, d3] }
  | _ => none }
def lsolveRowRow : OpenClaim := { program := "ytjagmfgjlfkmgaa", sum := "df4a72a021f8d9fabf0b2c8e04768c67b69792267a340e9ac03fa964ed2f7953", func := "telamon/telamonlaw19.LsolveRow", spec := "lsolveRow", unfollowed := true, recurses := true, apart := false }
def LsolveRowSaid : Prop := lsolveRowRow.holds Try.pinned (OpenSpec.ofChange lsolveRowSpec)

/-- ITS FALSE NEIGHBOUR: 'it returns false'. Refute it at one input. -/
def lsolveRowWrong : ChangeSpec := { name := "lsolveRow", fn := fun _ => fun
  | [d1, d2, d3] => { results := [.lit (.bool false)], args := [d1, d2, d3] }
  | _ => none }
def LsolveRowWrongFalsely : Prop := lsolveRowRow.holds Try.pinned (OpenSpec.ofChange lsolveRowWrong)

/-- 'telamonlaw1.LevelNorms': WHATEVER THE INPUT: true; the input reads as it did. -/
def levelNormsSpec : ChangeSpec := { name := "levelNorms", fn := fun _ => fun
  | [d1, d2] => { results := [.lit (.bool true)], args := [d1, d2] }
  | _ => none }
def levelNormsRow : OpenClaim := { program := "ytjagmfgjlfkmgaa", sum := "df4a72a021f8d9fabf0b2c8e04768c67b69792267a340e9ac03fa964ed2f7953", func := "telamon/telamonlaw1.LevelNorms", spec := "levelNorms", unfollowed := true, recurses := true, apart := false }
def LevelNormsSaid : Prop := levelNormsRow.holds Try.pinned (OpenSpec.ofChange levelNormsSpec)

/-- ITS FALSE NEIGHBOUR: 'it returns false'. Refute it at one input. -/
def levelNormsWrong : ChangeSpec := { name := "levelNorms", fn := fun _ => fun
  | [d1, d2] => { results := [.lit (.bool false)], args := [d1, d2] }
  | _ => none }
def LevelNormsWrongFalsely : Prop := levelNormsRow.holds Try.pinned (OpenSpec.ofChange levelNormsWrong)

/-- 'telamonlaw1.LevelMakes': WHATEVER THE INPUT: true; the input reads as it did. -/
def levelMakesSpec : ChangeSpec := { name := "levelMakes", fn := fun _ => fun
  | [d1, d2, d3] => { results := [.lit (.bool true)], args := [d1, d2, d3] }
  | _ => none }
def levelMakesRow : OpenClaim := { program := "ytjagmfgjlfkmgaa", sum := "df4a72a021f8d9fabf0b2c8e04768c67b69792267a340e9ac03fa964ed2f7953", func := "telamon/telamonlaw1.LevelMakes", spec := "levelMakes", unfollowed := true, recurses := true, apart := false }
def LevelMakesSaid : Prop := levelMakesRow.holds Try.pinned (OpenSpec.ofChange levelMakesSpec)

/-- ITS FALSE NEIGHBOUR: 'it returns false'. Refute it at one input. -/
def levelMakesWrong : ChangeSpec := { name := "levelMakes", fn := fun _ => fun
  | [d1, d2, d3] => { results := [.lit (.bool false)], args := [d1, d2, d3] }
  | _ => none }
def LevelMakesWrongFalsely : Prop := levelMakesRow.holds Try.pinned (OpenSpec.ofChange levelMakesWrong)

/-- 'telamonlaw1.LevelSteps': WHATEVER THE INPUT: true; the input reads as it did. -/
def levelStepsSpec : ChangeSpec := { name := "levelSteps", fn := fun _ => fun
  | [d1, d2] => { results := [.lit (.bool true)], args := [d1, d2] }
  | _ => none }
def levelStepsRow : OpenClaim := { program := "ytjagmfgjlfkmgaa", sum := "df4a72a021f8d9fabf0b2c8e04768c67b69792267a340e9ac03fa964ed2f7953", func := "telamon/telamonlaw1.LevelSteps", spec := "levelSteps", unfollowed := true, recurses := true, apart := false }
def LevelStepsSaid : Prop := levelStepsRow.holds Try.pinned (OpenSpec.ofChange levelStepsSpec)

/-- ITS FALSE NEIGHBOUR: 'it returns false'. Refute it at one input. -/
def levelStepsWrong : ChangeSpec := { name := "levelSteps", fn := fun _ => fun
  | [d1, d2] => { results := [.lit (.bool false)], args := [d1, d2] }
  | _ => none }
def LevelStepsWrongFalsely : Prop := levelStepsRow.holds Try.pinned (OpenSpec.ofChange levelStepsWrong)

/-- 'telamonlaw1.LevelWide': WHATEVER THE INPUT: true; the input reads as it did. -/
def levelWideSpec : ChangeSpec := { name := "levelWide", fn := fun _ => fun
  | [d1, d2] => { results := [.lit (.bool true)], args := [d1, d2] }
  | _ => none }
def levelWideRow : OpenClaim := { program := "ytjagmfgjlfkmgaa", sum := "df4a72a021f8d9fabf0b2c8e04768c67b69792267a340e9ac03fa964ed2f7953", func := "telamon/telamonlaw1.LevelWide", spec := "levelWide", unfollowed := true, recurses := true, apart := false }
def LevelWideSaid : Prop := levelWideRow.holds Try.pinned (OpenSpec.ofChange levelWideSpec)

/-- ITS FALSE NEIGHBOUR: 'it returns false'. Refute it at one input. -/
def levelWideWrong : ChangeSpec := { name := "levelWide", fn := fun _ => fun
  | [d1, d2] => { results := [.lit (.bool false)], args := [d1, d2] }
  | _ => none }
def LevelWideWrongFalsely : Prop := levelWideRow.holds Try.pinned (OpenSpec.ofChange levelWideWrong)

/-- 'telamonlaw1.LevelSubsts': WHATEVER THE INPUT: true; the input reads as it did. -/
def levelSubstsSpec : ChangeSpec := { name := "levelSubsts", fn := fun _ => fun
  | [d1, d2, d3] => { results := [.lit (.bool true)], args := [d1, d2, d3] }
  | _ => none }
def levelSubstsRow : OpenClaim := { program := "ytjagmfgjlfkmgaa", sum := "df4a72a021f8d9fabf0b2c8e04768c67b69792267a340e9ac03fa964ed2f7953", func := "telamon/telamonlaw1.LevelSubsts", spec := "levelSubsts", unfollowed := true, recurses := true, apart := false }
def LevelSubstsSaid : Prop := levelSubstsRow.holds Try.pinned (OpenSpec.ofChange levelSubstsSpec)

/-- ITS FALSE NEIGHBOUR: 'it returns false'. Refute it at one input. -/
def levelSubstsWrong : ChangeSpec := { name := "levelSubsts", fn := fun _ => fun
  | [d1, d2, d3] => { results := [.lit (.bool false)], args := [d1, d2, d3] }
  | _ => none }
def LevelSubstsWrongFalsely : Prop := levelSubstsRow.holds Try.pinned (OpenSpec.ofChange levelSubstsWrong)

/-- 'telamonlaw1.LevelCompares': WHATEVER THE INPUT: true; the input reads as it did. -/
def levelComparesSpec : ChangeSpec := { name := "levelCompares", fn := fun _ => fun
  | [d1, d2] => { results := [.lit (.bool true)], args := [d1, d2] }
  | _ => none }
def levelComparesRow : OpenClaim := { program := "ytjagmfgjlfkmgaa", sum := "df4a72a021f8d9fabf0b2c8e04768c67b69792267a340e9ac03fa964ed2f7953", func := "telamon/telamonlaw1.LevelCompares", spec := "levelCompares", unfollowed := true, recurses := true, apart := false }
def LevelComparesSaid : Prop := levelComparesRow.holds Try.pinned (OpenSpec.ofChange levelComparesSpec)

/-- ITS FALSE NEIGHBOUR: 'it returns false'. Refute it at one input. -/
def levelComparesWrong : ChangeSpec := { name := "levelCompares", fn := fun _ => fun
  | [d1, d2] => { results := [.lit (.bool false)], args := [d1, d2] }
  | _ => none }
def LevelComparesWrongFalsely : Prop := levelComparesRow.holds Try.pinned (OpenSpec.ofChange levelComparesWrong)

/-- 'telamonlaw1.LevelOrder': WHATEVER THE INPUT: true; the input reads as it did. -/
def levelOrderSpec : ChangeSpec := { name := "levelOrder", fn := fun _ => fun
  | [d1, d2, d3] => { results := [.lit (.bool true)], args := [d1, d2, d3] }
  | _ => none }
def levelOrderRow : OpenClaim := { program := "ytjagmfgjlfkmgaa", sum := "df4a72a021f8d9fabf0b2c8e04768c67b69792267a340e9ac03fa964ed2f7953", func := "telamon/telamonlaw1.LevelOrder", spec := "levelOrder", unfollowed := true, recurses := true, apart := false }
def LevelOrderSaid : Prop := levelOrderRow.holds Try.pinned (OpenSpec.ofChange levelOrderSpec)

/-- ITS FALSE NEIGHBOUR: 'it returns false'. Refute it at one input. -/
def levelOrderWrong : ChangeSpec := { name := "levelOrder", fn := fun _ => fun
  | [d1, d2, d3] => { results := [.lit (.bool false)], args := [d1, d2, d3] }
  | _ => none }
def LevelOrderWrongFalsely : Prop := levelOrderRow.holds Try.pinned (OpenSpec.ofChange levelOrderWrong)

/-- 'telamonlaw1.LevelValues': WHATEVER THE INPUT: true; the input reads as it did. -/
def levelValuesSpec : ChangeSpec := { name := "levelValues", fn := fun _ => fun
  | [d1, d2, d3, d4] => { results := [.lit (.bool true)], args := [d1, d2, d3, d4] }
  | _ => none }
def levelValuesRow : OpenClaim := { program := "ytjagmfgjlfkmgaa", sum := "df4a72a021f8d9fabf0b2c8e04768c67b69792267a340e9ac03fa964ed2f7953", func := "telamon/telamonlaw1.LevelValues", spec := "levelValues", unfollowed := true, recurses := true, apart := false }
def LevelValuesSaid : Prop := levelValuesRow.holds Try.pinned (OpenSpec.ofChange levelValuesSpec)

/-- ITS FALSE NEIGHBOUR: 'it returns false'. Refute it at one input. -/
def levelValuesWrong : ChangeSpec := { name := "levelValues", fn := fun _ => fun
  | [d1, d2, d3, d4] => { results := [.lit (.bool false)], args := [d1, d2, d3, d4] }
  | _ => none }
def LevelValuesWrongFalsely : Prop := levelValuesRow.holds Try.pinned (OpenSpec.ofChange levelValuesWrong)

/- THE SECOND FORM. 'bulk': how many values and letters a reading holds, each counted each time it is reached (what is shared counts as often as it is met; a slice's spare places count too). A statement '..UptoSaid' is the law's where the arguments, and the package variables that the reading takes, are together of bulk at most 1048576: NARROWER than '..Said'. Prove '..Said' where nothing that the law and all that it calls make is longer than what came in: it says more and counts as full. Else prove '..UptoSaid'. A law counts once. -/
mutual
def uptoBulk {H : Type} : DataW H → Nat
  | .lit (.string bytes) => bytes.length + 1
  | .lit _ => 1
  | .nil => 1
  | .ptr d => uptoBulk d + 1
  | .slice elems spare => uptoBulkAll elems + uptoBulkAll spare + 1
  | .agg parts => uptoBulkAll parts + 1
  | .iface _ d => uptoBulk d + 1
  | .map entries => uptoBulkEntries entries + 1
  | .held _ => 1
def uptoBulkAll {H : Type} : List (DataW H) → Nat
  | [] => 0
  | d :: r => uptoBulk d + uptoBulkAll r
def uptoBulkEntries {H : Type} : List (Lit × DataW H) → Nat
  | [] => 0
  | x :: r => uptoBulkEntry x + uptoBulkEntries r
def uptoBulkEntry {H : Type} : Lit × DataW H → Nat
  | (.string bytes, d) => bytes.length + uptoBulk d + 1
  | (_, d) => uptoBulk d + 1
 end
def uptoSmall : (H : Type) → List (DataW H) → Bool := fun _ ds => decide (uptoBulkAll ds ≤ 1048576)
def OpenSpec.upto (s : _root_.Go.ChangeSpec) : _root_.Go.OpenSpec := { _root_.Go.OpenSpec.ofChange s with cond := some uptoSmall }

/-- 'telamonlaw23.RecurseFinds', WHERE WHAT IT READS IS OF BULK AT MOST 1048576: true; the input reads as it did. -/
def recurseFindsUptoRow : OpenClaim := { program := "ytjagmfgjlfkmgaa", sum := "df4a72a021f8d9fabf0b2c8e04768c67b69792267a340e9ac03fa964ed2f7953", func := "telamon/telamonlaw23.RecurseFinds", spec := "recurseFinds", unfollowed := true, recurses := true, loops := true, apart := false, narrowed := true }
def RecurseFindsUptoSaid : Prop := recurseFindsUptoRow.holds Try.pinned (OpenSpec.upto recurseFindsSpec)

/-- 'telamonlaw23.RecurseOrders', WHERE WHAT IT READS IS OF BULK AT MOST 1048576: true; the input reads as it did. -/
def recurseOrdersUptoRow : OpenClaim := { program := "ytjagmfgjlfkmgaa", sum := "df4a72a021f8d9fabf0b2c8e04768c67b69792267a340e9ac03fa964ed2f7953", func := "telamon/telamonlaw23.RecurseOrders", spec := "recurseOrders", unfollowed := true, recurses := true, loops := true, apart := false, narrowed := true }
def RecurseOrdersUptoSaid : Prop := recurseOrdersUptoRow.holds Try.pinned (OpenSpec.upto recurseOrdersSpec)

/-- 'telamonlaw23.RecurseDeep', WHERE WHAT IT READS IS OF BULK AT MOST 1048576: true; the input reads as it did. -/
def recurseDeepUptoRow : OpenClaim := { program := "ytjagmfgjlfkmgaa", sum := "df4a72a021f8d9fabf0b2c8e04768c67b69792267a340e9ac03fa964ed2f7953", func := "telamon/telamonlaw23.RecurseDeep", spec := "recurseDeep", unfollowed := true, recurses := true, apart := false, narrowed := true }
def RecurseDeepUptoSaid : Prop := recurseDeepUptoRow.holds Try.pinned (OpenSpec.upto recurseDeepSpec)

/-- 'telamonlaw19.LsolveLeast', WHERE WHAT IT READS IS OF BULK AT MOST 1048576: true; the input reads as it did. -/
def lsolveLeastUptoRow : OpenClaim := { program := "ytjagmfgjlfkmgaa", sum := "df4a72a021f8d9fabf0b2c8e04768c67b69792267a340e9ac03fa964ed2f7953", func := "telamon/telamonlaw19.LsolveLeast", spec := "lsolveLeast", unfollowed := true, recurses := true, apart := false, narrowed := true }
def LsolveLeastUptoSaid : Prop := lsolveLeastUptoRow.holds Try.pinned (OpenSpec.upto lsolveLeastSpec)

/-- 'telamonlaw19.LsolveHolds', WHERE WHAT IT READS IS OF BULK AT MOST 1048576: true; the input reads as it did. -/
def lsolveHoldsUptoRow : OpenClaim := { program := "ytjagmfgjlfkmgaa", sum := "df4a72a021f8d9fabf0b2c8e04768c67b69792267a340e9ac03fa964ed2f7953", func := "telamon/telamonlaw19.LsolveHolds", spec := "lsolveHolds", unfollowed := true, recurses := true, apart := false, narrowed := true }
def LsolveHoldsUptoSaid : Prop := lsolveHoldsUptoRow.holds Try.pinned (OpenSpec.upto lsolveHoldsSpec)

/-- 'telamonlaw19.LsolveRow', WHERE WHAT IT READS IS OF BULK AT MOST 1048576: true; the input reads as it did. -/
def lsolveRowUptoRow : OpenClaim := { program := "ytjagmfgjlfkmgaa", sum := "df4a72a021f8d9fabf0b2c8e04768c67b69792267a340e9ac03fa964ed2f7953", func := "telamon/telamonlaw19.LsolveRow", spec := "lsolveRow", unfollowed := true, recurses := true, apart := false, narrowed := true }
def LsolveRowUptoSaid : Prop := lsolveRowUptoRow.holds Try.pinned (OpenSpec.upto lsolveRowSpec)

/-- 'telamonlaw1.LevelNorms', WHERE WHAT IT READS IS OF BULK AT MOST 1048576: true; the input reads as it did. -/
def levelNormsUptoRow : OpenClaim := { program := "ytjagmfgjlfkmgaa", sum := "df4a72a021f8d9fabf0b2c8e04768c67b69792267a340e9ac03fa964ed2f7953", func := "telamon/telamonlaw1.LevelNorms", spec := "levelNorms", unfollowed := true, recurses := true, apart := false, narrowed := true }
def LevelNormsUptoSaid : Prop := levelNormsUptoRow.holds Try.pinned (OpenSpec.upto levelNormsSpec)

/-- 'telamonlaw1.LevelMakes', WHERE WHAT IT READS IS OF BULK AT MOST 1048576: true; the input reads as it did. -/
def levelMakesUptoRow : OpenClaim := { program := "ytjagmfgjlfkmgaa", sum := "df4a72a021f8d9fabf0b2c8e04768c67b69792267a340e9ac03fa964ed2f7953", func := "telamon/telamonlaw1.LevelMakes", spec := "levelMakes", unfollowed := true, recurses := true, apart := false, narrowed := true }
def LevelMakesUptoSaid : Prop := levelMakesUptoRow.holds Try.pinned (OpenSpec.upto levelMakesSpec)

/-- 'telamonlaw1.LevelSteps', WHERE WHAT IT READS IS OF BULK AT MOST 1048576: true; the input reads as it did. -/
def levelStepsUptoRow : OpenClaim := { program := "ytjagmfgjlfkmgaa", sum := "df4a72a021f8d9fabf0b2c8e04768c67b69792267a340e9ac03fa964ed2f7953", func := "telamon/telamonlaw1.LevelSteps", spec := "levelSteps", unfollowed := true, recurses := true, apart := false, narrowed := true }
def LevelStepsUptoSaid : Prop := levelStepsUptoRow.holds Try.pinned (OpenSpec.upto levelStepsSpec)

/-- 'telamonlaw1.LevelWide', WHERE WHAT IT READS IS OF BULK AT MOST 1048576: true; the input reads as it did. -/
def levelWideUptoRow : OpenClaim := { program := "ytjagmfgjlfkmgaa", sum := "df4a72a021f8d9fabf0b2c8e04768c67b69792267a340e9ac03fa964ed2f7953", func := "telamon/telamonlaw1.LevelWide", spec := "levelWide", unfollowed := true, recurses := true, apart := false, narrowed := true }
def LevelWideUptoSaid : Prop := levelWideUptoRow.holds Try.pinned (OpenSpec.upto levelWideSpec)

/-- 'telamonlaw1.LevelSubsts', WHERE WHAT IT READS IS OF BULK AT MOST 1048576: true; the input reads as it did. -/
def levelSubstsUptoRow : OpenClaim := { program := "ytjagmfgjlfkmgaa", sum := "df4a72a021f8d9fabf0b2c8e04768c67b69792267a340e9ac03fa964ed2f7953", func := "telamon/telamonlaw1.LevelSubsts", spec := "levelSubsts", unfollowed := true, recurses := true, apart := false, narrowed := true }
def LevelSubstsUptoSaid : Prop := levelSubstsUptoRow.holds Try.pinned (OpenSpec.upto levelSubstsSpec)

/-- 'telamonlaw1.LevelCompares', WHERE WHAT IT READS IS OF BULK AT MOST 1048576: true; the input reads as it did. -/
def levelComparesUptoRow : OpenClaim := { program := "ytjagmfgjlfkmgaa", sum := "df4a72a021f8d9fabf0b2c8e04768c67b69792267a340e9ac03fa964ed2f7953", func := "telamon/telamonlaw1.LevelCompares", spec := "levelCompares", unfollowed := true, recurses := true, apart := false, narrowed := true }
def LevelComparesUptoSaid : Prop := levelComparesUptoRow.holds Try.pinned (OpenSpec.upto levelComparesSpec)

/-- 'telamonlaw1.LevelOrder', WHERE WHAT IT READS IS OF BULK AT MOST 1048576: true; the input reads as it did. -/
def levelOrderUptoRow : OpenClaim := { program := "ytjagmfgjlfkmgaa", sum := "df4a72a021f8d9fabf0b2c8e04768c67b69792267a340e9ac03fa964ed2f7953", func := "telamon/telamonlaw1.LevelOrder", spec := "levelOrder", unfollowed := true, recurses := true, apart := false, narrowed := true }
def LevelOrderUptoSaid : Prop := levelOrderUptoRow.holds Try.pinned (OpenSpec.upto levelOrderSpec)

/-- 'telamonlaw1.LevelValues', WHERE WHAT IT READS IS OF BULK AT MOST 1048576: true; the input reads as it did. -/
def levelValuesUptoRow : OpenClaim := { program := "ytjagmfgjlfkmgaa", sum := "df4a72a021f8d9fabf0b2c8e04768c67b69792267a340e9ac03fa964ed2f7953", func := "telamon/telamonlaw1.LevelValues", spec := "levelValues", unfollowed := true, recurses := true, apart := false, narrowed := true }
def LevelValuesUptoSaid : Prop := levelValuesUptoRow.holds Try.pinned (OpenSpec.upto levelValuesSpec)

end Rows
end Go.Proofs.Ytjagmfgjlfkmgaa
