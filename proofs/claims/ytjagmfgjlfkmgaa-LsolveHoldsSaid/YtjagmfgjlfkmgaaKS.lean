/- The function whose result is kept, and not frozen, where LsolveHolds is proved. No condition. -/
import Derived.Test.YtjagmfgjlfkmgaaA2
set_option linter.unusedSimpArgs false
set_option linter.unusedVariables false
namespace Go.Proofs.Ytjagmfgjlfkmgaa
open Go

def kS (n : Nat) : Bool := Nat.beq n 28
end Go.Proofs.Ytjagmfgjlfkmgaa
