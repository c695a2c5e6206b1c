/- The functions whose results are not frozen. No condition. -/
import Derived.Test.YtknnbjoagigmgaaA2
set_option linter.unusedSimpArgs false
set_option linter.unusedVariables false
namespace Go.Proofs.Ytknnbjoagigmgaa
open Go

def kQ (n : Nat) : Bool := Nat.beq n 22
end Go.Proofs.Ytknnbjoagigmgaa
