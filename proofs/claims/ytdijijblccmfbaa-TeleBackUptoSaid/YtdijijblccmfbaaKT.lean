/- The function whose result is kept, and not frozen, where TeleSpine is proved. No condition. -/
import Derived.Test.YtdijijblccmfbaaA2
set_option linter.unusedSimpArgs false
set_option linter.unusedVariables false
namespace Go.Proofs.Ytdijijblccmfbaa
open Go

def kT (n : Nat) : Bool := Nat.beq n 71
end Go.Proofs.Ytdijijblccmfbaa
