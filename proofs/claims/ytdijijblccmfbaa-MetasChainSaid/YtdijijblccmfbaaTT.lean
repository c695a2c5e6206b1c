/- The table of group T. No condition. -/
import Derived.Test.YtdijijblccmfbaaA32
import Derived.Test.YtdijijblccmfbaaCT
set_option linter.unusedSimpArgs false
set_option linter.unusedVariables false
namespace Go.Proofs.Ytdijijblccmfbaa
open Go

noncomputable def tbT : Tb := (.nd (.nd (.nd (.nd (.nd (.nd .lf 12 c12 .lf) 13 c13 (.nd .lf 15 c15 .lf)) 19 c19 (.nd (.nd .lf 20 c20 .lf) 21 c21 (.nd .lf 22 c22 .lf))) 23 c23 (.nd (.nd (.nd .lf 24 c24 .lf) 25 c25 (.nd .lf 27 c27 .lf)) 43 c43 (.nd (.nd .lf 50 c50 .lf) 55 c55 .lf))) 56 c56 (.nd (.nd (.nd (.nd .lf 57 c57 .lf) 58 c58 (.nd .lf 59 c59 .lf)) 60 c60 (.nd (.nd .lf 63 c63 .lf) 64 c64 .lf)) 65 c65 (.nd (.nd (.nd .lf 66 c66 .lf) 67 c67 (.nd .lf 68 c68 .lf)) 69 c69 (.nd (.nd .lf 70 c70 .lf) 81 c81 .lf)))) 91 c91 (.nd (.nd (.nd (.nd (.nd .lf 92 c92 .lf) 93 c93 (.nd .lf 94 c94 .lf)) 96 c96 (.nd (.nd .lf 97 c97 .lf) 98 c98 .lf)) 99 c99 (.nd (.nd (.nd .lf 100 c100 .lf) 111 c111 (.nd .lf 118 c118 .lf)) 119 c119 (.nd (.nd .lf 120 c120 .lf) 121 c121 .lf))) 122 c122 (.nd (.nd (.nd (.nd .lf 124 c124 .lf) 126 c126 (.nd .lf 127 c127 .lf)) 131 c131 (.nd (.nd .lf 132 c132 .lf) 134 c134 .lf)) 135 c135 (.nd (.nd (.nd .lf 136 c136 .lf) 137 c137 (.nd .lf 139 c139 .lf)) 140 c140 (.nd (.nd .lf 141 c141 .lf) 142 c142 .lf)))))
end Go.Proofs.Ytdijijblccmfbaa
