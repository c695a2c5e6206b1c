/- The functions whose results are kept, and not frozen, where TermLifts is proved. No condition. -/
import Derived.Test.YtdijijblccmfbaaA2
set_option linter.unusedSimpArgs false
set_option linter.unusedVariables false
namespace Go.Proofs.Ytdijijblccmfbaa
open Go

def kL (n:Nat):Bool:=Nat.beq n 134 || Nat.beq n 118 || Nat.beq n 91 || Nat.beq n 59 || Nat.beq n 58 || Nat.beq n 15
end Go.Proofs.Ytdijijblccmfbaa
