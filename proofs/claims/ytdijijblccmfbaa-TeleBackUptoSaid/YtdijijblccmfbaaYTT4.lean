/- The table of group T4. No condition. -/
import Derived.Test.YtdijijblccmfbaaA32
import Derived.Test.YtdijijblccmfbaaYCT4
set_option linter.unusedSimpArgs false
set_option linter.unusedVariables false
namespace Go.Proofs.Ytdijijblccmfbaa
open Go

noncomputable def tT4 : Tb := (.nd (.nd (.nd (.nd (.nd (.nd .lf 20 c20 .lf) 21 c21 .lf) 22 c22 (.nd (.nd .lf 26 c26 .lf) 33 c33 .lf)) 34 c34 (.nd (.nd (.nd .lf 35 c35 .lf) 56 c56 .lf) 59 c59 (.nd .lf 63 c63 .lf))) 64 c64 (.nd (.nd (.nd (.nd .lf 65 c65 .lf) 66 c66 .lf) 67 c67 (.nd .lf 72 c72 .lf)) 73 c73 (.nd (.nd (.nd .lf 74 c74 .lf) 91 c91 .lf) 92 c92 (.nd .lf 93 c93 .lf)))) 96 c96 (.nd (.nd (.nd (.nd (.nd .lf 97 c97 .lf) 103 c103 .lf) 104 c104 (.nd .lf 105 c105 .lf)) 118 c118 (.nd (.nd (.nd .lf 119 c119 .lf) 121 c121 .lf) 123 c123 (.nd .lf 124 c124 .lf))) 126 c126 (.nd (.nd (.nd (.nd .lf 127 c127 .lf) 134 c134 .lf) 135 c135 (.nd .lf 136 c136 .lf)) 137 c137 (.nd (.nd (.nd .lf 139 c139 .lf) 140 c140 .lf) 141 c141 (.nd .lf 142 c142 .lf)))))
theorem tT4_ok : tT4.Ok (cFk kT Try.prog) := ⟨⟨⟨⟨⟨⟨trivial,f20_eq,trivial⟩,f21_eq,trivial⟩,f22_eq,⟨⟨trivial,f26_eq,trivial⟩,f33_eq,trivial⟩⟩,f34_eq,⟨⟨⟨trivial,f35_eq,trivial⟩,f56_eq,trivial⟩,f59_eq,⟨trivial,f63_eq,trivial⟩⟩⟩,f64_eq,⟨⟨⟨⟨trivial,f65_eq,trivial⟩,f66_eq,trivial⟩,f67_eq,⟨trivial,f72_eq,trivial⟩⟩,f73_eq,⟨⟨⟨trivial,f74_eq,trivial⟩,f91_eq,trivial⟩,f92_eq,⟨trivial,f93_eq,trivial⟩⟩⟩⟩,f96_eq,⟨⟨⟨⟨⟨trivial,f97_eq,trivial⟩,f103_eq,trivial⟩,f104_eq,⟨trivial,f105_eq,trivial⟩⟩,f118_eq,⟨⟨⟨trivial,f119_eq,trivial⟩,f121_eq,trivial⟩,f123_eq,⟨trivial,f124_eq,trivial⟩⟩⟩,f126_eq,⟨⟨⟨⟨trivial,f127_eq,trivial⟩,f134_eq,trivial⟩,f135_eq,⟨trivial,f136_eq,trivial⟩⟩,f137_eq,⟨⟨⟨trivial,f139_eq,trivial⟩,f140_eq,trivial⟩,f141_eq,⟨trivial,f142_eq,trivial⟩⟩⟩⟩⟩

end Go.Proofs.Ytdijijblccmfbaa
