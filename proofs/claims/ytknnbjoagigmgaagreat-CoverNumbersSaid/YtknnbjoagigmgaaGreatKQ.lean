/- The functions whose results are not frozen. No condition. -/
import Derived.Test.YtknnbjoagigmgaaGreatA2
set_option linter.unusedSimpArgs false
set_option linter.unusedVariables false
namespace Go.Proofs.YtknnbjoagigmgaaGreat
open Go

def kQ (n : Nat) : Bool := Nat.beq n 102 || Nat.beq n 103 || Nat.beq n 119 || Nat.beq n 104 || Nat.beq n 50 || Nat.beq n 49
end Go.Proofs.YtknnbjoagigmgaaGreat
