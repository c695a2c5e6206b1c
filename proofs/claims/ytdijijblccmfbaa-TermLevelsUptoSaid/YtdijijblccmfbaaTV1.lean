/- The table of group V1. No condition. -/
import Derived.Test.YtdijijblccmfbaaA32
import Derived.Test.YtdijijblccmfbaaCV1
set_option linter.unusedSimpArgs false
set_option linter.unusedVariables false
namespace Go.Proofs.Ytdijijblccmfbaa
open Go

noncomputable def tV1 : Tb := (.nd (.nd (.nd (.nd (.nd (.nd (.nd .lf 11 c11 .lf) 12 c12 .lf) 13 c13 (.nd .lf 15 c15 .lf)) 19 c19 (.nd (.nd .lf 20 c20 .lf) 21 c21 (.nd .lf 22 c22 .lf))) 23 c23 (.nd (.nd (.nd (.nd .lf 25 c25 .lf) 27 c27 .lf) 30 c30 (.nd .lf 43 c43 .lf)) 50 c50 (.nd (.nd .lf 53 c53 .lf) 54 c54 (.nd .lf 55 c55 .lf)))) 56 c56 (.nd (.nd (.nd (.nd (.nd .lf 57 c57 .lf) 58 c58 .lf) 59 c59 (.nd .lf 60 c60 .lf)) 61 c61 (.nd (.nd .lf 63 c63 .lf) 64 c64 (.nd .lf 65 c65 .lf))) 66 c66 (.nd (.nd (.nd (.nd .lf 67 c67 .lf) 68 c68 .lf) 69 c69 (.nd .lf 70 c70 .lf)) 81 c81 (.nd (.nd .lf 89 c89 .lf) 90 c90 (.nd .lf 91 c91 .lf))))) 92 c92 (.nd (.nd (.nd (.nd (.nd (.nd .lf 93 c93 .lf) 94 c94 .lf) 96 c96 (.nd .lf 97 c97 .lf)) 98 c98 (.nd (.nd .lf 99 c99 .lf) 100 c100 (.nd .lf 111 c111 .lf))) 115 c115 (.nd (.nd (.nd (.nd .lf 116 c116 .lf) 117 c117 .lf) 118 c118 (.nd .lf 119 c119 .lf)) 120 c120 (.nd (.nd .lf 121 c121 .lf) 122 c122 (.nd .lf 124 c124 .lf)))) 126 c126 (.nd (.nd (.nd (.nd (.nd .lf 127 c127 .lf) 128 c128 .lf) 129 c129 (.nd .lf 130 c130 .lf)) 131 c131 (.nd (.nd .lf 132 c132 .lf) 133 c133 (.nd .lf 134 c134 .lf))) 135 c135 (.nd (.nd (.nd .lf 136 c136 .lf) 137 c137 (.nd .lf 138 c138 .lf)) 139 c139 (.nd (.nd .lf 140 c140 .lf) 141 c141 (.nd .lf 142 c142 .lf))))))
end Go.Proofs.Ytdijijblccmfbaa
