/- The functions whose results are kept, and not frozen, where LevelNorms is proved. No condition. -/
import Derived.Test.YtjagmfgjlfkmgaaA2
set_option linter.unusedSimpArgs false
set_option linter.unusedVariables false
namespace Go.Proofs.Ytjagmfgjlfkmgaa
open Go

def kN (n : Nat) : Bool := Nat.beq n 69 || (Nat.beq n 36 || Nat.beq n 74)
end Go.Proofs.Ytjagmfgjlfkmgaa
