/- The table of group M1. No condition. -/
import Derived.Test.YtdijijblccmfbaaA32
import Derived.Test.YtdijijblccmfbaaCM1
set_option linter.unusedSimpArgs false
set_option linter.unusedVariables false
namespace Go.Proofs.Ytdijijblccmfbaa
open Go

noncomputable def tM1 : Tb := (.nd (.nd (.nd (.nd (.nd (.nd .lf 10 c10 .lf) 20 c20 (.nd .lf 21 c21 .lf)) 22 c22 (.nd (.nd .lf 23 c23 .lf) 44 c44 .lf)) 45 c45 (.nd (.nd (.nd .lf 46 c46 .lf) 47 c47 (.nd .lf 48 c48 .lf)) 49 c49 (.nd (.nd .lf 50 c50 .lf) 51 c51 .lf))) 52 c52 (.nd (.nd (.nd (.nd .lf 59 c59 .lf) 63 c63 (.nd .lf 64 c64 .lf)) 65 c65 (.nd (.nd .lf 66 c66 .lf) 67 c67 .lf)) 75 c75 (.nd (.nd (.nd .lf 82 c82 .lf) 83 c83 .lf) 84 c84 (.nd (.nd .lf 85 c85 .lf) 86 c86 .lf)))) 87 c87 (.nd (.nd (.nd (.nd (.nd .lf 88 c88 .lf) 91 c91 (.nd .lf 92 c92 .lf)) 93 c93 (.nd (.nd .lf 96 c96 .lf) 97 c97 .lf)) 106 c106 (.nd (.nd (.nd .lf 107 c107 .lf) 112 c112 .lf) 113 c113 (.nd (.nd .lf 114 c114 .lf) 118 c118 .lf))) 119 c119 (.nd (.nd (.nd (.nd .lf 121 c121 .lf) 124 c124 (.nd .lf 126 c126 .lf)) 127 c127 (.nd (.nd .lf 134 c134 .lf) 135 c135 .lf)) 136 c136 (.nd (.nd (.nd .lf 137 c137 .lf) 139 c139 .lf) 140 c140 (.nd (.nd .lf 141 c141 .lf) 142 c142 .lf)))))
theorem tM1_ok : tM1.Ok (cF Try.prog) := ⟨⟨⟨⟨⟨⟨trivial,f10_eq,trivial⟩,f20_eq,⟨trivial,f21_eq,trivial⟩⟩,f22_eq,⟨⟨trivial,f23_eq,trivial⟩,f44_eq,trivial⟩⟩,f45_eq,⟨⟨⟨trivial,f46_eq,trivial⟩,f47_eq,⟨trivial,f48_eq,trivial⟩⟩,f49_eq,⟨⟨trivial,f50_eq,trivial⟩,f51_eq,trivial⟩⟩⟩,f52_eq,⟨⟨⟨⟨trivial,f59_eq,trivial⟩,f63_eq,⟨trivial,f64_eq,trivial⟩⟩,f65_eq,⟨⟨trivial,f66_eq,trivial⟩,f67_eq,trivial⟩⟩,f75_eq,⟨⟨⟨trivial,f82_eq,trivial⟩,f83_eq,trivial⟩,f84_eq,⟨⟨trivial,f85_eq,trivial⟩,f86_eq,trivial⟩⟩⟩⟩,f87_eq,⟨⟨⟨⟨⟨trivial,f88_eq,trivial⟩,f91_eq,⟨trivial,f92_eq,trivial⟩⟩,f93_eq,⟨⟨trivial,f96_eq,trivial⟩,f97_eq,trivial⟩⟩,f106_eq,⟨⟨⟨trivial,f107_eq,trivial⟩,f112_eq,trivial⟩,f113_eq,⟨⟨trivial,f114_eq,trivial⟩,f118_eq,trivial⟩⟩⟩,f119_eq,⟨⟨⟨⟨trivial,f121_eq,trivial⟩,f124_eq,⟨trivial,f126_eq,trivial⟩⟩,f127_eq,⟨⟨trivial,f134_eq,trivial⟩,f135_eq,trivial⟩⟩,f136_eq,⟨⟨⟨trivial,f137_eq,trivial⟩,f139_eq,trivial⟩,f140_eq,⟨⟨trivial,f141_eq,trivial⟩,f142_eq,trivial⟩⟩⟩⟩⟩

end Go.Proofs.Ytdijijblccmfbaa
