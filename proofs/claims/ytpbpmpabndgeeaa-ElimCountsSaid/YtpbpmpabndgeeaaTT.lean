/- The table of group T. No condition. -/
import Derived.Test.YtpbpmpabndgeeaaA32
import Derived.Test.YtpbpmpabndgeeaaCT
set_option linter.unusedSimpArgs false
set_option linter.unusedVariables false
namespace Go.Proofs.Ytpbpmpabndgeeaa
open Go

noncomputable def tbT:Tb := (.nd (.nd (.nd (.nd (.nd .lf 31 c31 .lf) 35 c35 (.nd .lf 40 c40 .lf)) 41 c41 (.nd (.nd .lf 61 c61 .lf) 62 c62 (.nd .lf 63 c63 .lf))) 65 c65 (.nd (.nd (.nd .lf 66 c66 .lf) 67 c67 (.nd .lf 68 c68 .lf)) 69 c69 (.nd (.nd .lf 73 c73 .lf) 82 c82 .lf))) 83 c83 (.nd (.nd (.nd (.nd .lf 84 c84 .lf) 85 c85 (.nd .lf 86 c86 .lf)) 87 c87 (.nd (.nd .lf 92 c92 .lf) 93 c93 .lf)) 95 c95 (.nd (.nd (.nd .lf 98 c98 .lf) 99 c99 (.nd .lf 100 c100 .lf)) 101 c101 (.nd (.nd .lf 102 c102 .lf) 103 c103 .lf))))
end Go.Proofs.Ytpbpmpabndgeeaa
