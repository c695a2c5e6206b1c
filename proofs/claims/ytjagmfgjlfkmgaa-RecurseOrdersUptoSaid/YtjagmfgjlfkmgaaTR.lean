/- The table of group R. No condition. -/
import Derived.Test.YtjagmfgjlfkmgaaA31
import Derived.Test.YtjagmfgjlfkmgaaCR
set_option linter.unusedSimpArgs false
set_option linter.unusedVariables false
namespace Go.Proofs.Ytjagmfgjlfkmgaa
open Go

noncomputable def tR : Tb := (.nd (.nd (.nd (.nd (.nd .lf 3 c3 .lf) 4 c4 .lf) 5 c5 (.nd (.nd .lf 17 c17 .lf) 18 c18 .lf)) 19 c19 (.nd (.nd (.nd .lf 20 c20 .lf) 21 c21 .lf) 22 c22 (.nd (.nd .lf 23 c23 .lf) 24 c24 .lf))) 25 c25 (.nd (.nd (.nd (.nd .lf 26 c26 .lf) 56 c56 .lf) 57 c57 (.nd (.nd .lf 58 c58 .lf) 59 c59 .lf)) 60 c60 (.nd (.nd (.nd .lf 61 c61 .lf) 62 c62 .lf) 63 c63 (.nd (.nd .lf 64 c64 .lf) 65 c65 .lf))))
theorem tR_ok : tR.Ok (cF Go.Proofs.Try.prog) := ⟨⟨⟨⟨⟨trivial, f3_eq, trivial⟩, f4_eq, trivial⟩, f5_eq, ⟨⟨trivial, f17_eq, trivial⟩, f18_eq, trivial⟩⟩, f19_eq, ⟨⟨⟨trivial, f20_eq, trivial⟩, f21_eq, trivial⟩, f22_eq, ⟨⟨trivial, f23_eq, trivial⟩, f24_eq, trivial⟩⟩⟩, f25_eq, ⟨⟨⟨⟨trivial, f26_eq, trivial⟩, f56_eq, trivial⟩, f57_eq, ⟨⟨trivial, f58_eq, trivial⟩, f59_eq, trivial⟩⟩, f60_eq, ⟨⟨⟨trivial, f61_eq, trivial⟩, f62_eq, trivial⟩, f63_eq, ⟨⟨trivial, f64_eq, trivial⟩, f65_eq, trivial⟩⟩⟩⟩

end Go.Proofs.Ytjagmfgjlfkmgaa
