/- TopNames, run. No condition. -/
import Derived.Test.YtneohijnemjffaaTN
set_option linter.unusedSimpArgs false
set_option linter.unusedVariables false
namespace Go.Proofs.Ytneohijnemjffaa
open Go
set_option maxRecDepth 100000

theorem tn_run : isB true (callFn (exec (tN.look (cF Go.Proofs.Try.prog)) 3000) 0 [] [] (tN.look (cF Go.Proofs.Try.prog) 4)) = true := by kernel_rfl
end Go.Proofs.Ytneohijnemjffaa
