/- The law's alive, run. No condition. -/
import Derived.Test.YtpbpmpabndgeeaaA41
set_option linter.unusedSimpArgs false
set_option linter.unusedVariables false
namespace Go.Proofs.Ytpbpmpabndgeeaa
open Go

theorem qAlive:callFn (LX (cF Try.prog)) 2 [] [] ((cF Try.prog) 4) = .ok (.bool true) 2 []:=by
  have h:callFn (exec (cF Try.prog) 4000) 2 [] [] ((cF Try.prog) 4) = .ok (.bool true) 2 []:=by kernel_rfl
  exact callFn_LX _ h
end Go.Proofs.Ytpbpmpabndgeeaa
