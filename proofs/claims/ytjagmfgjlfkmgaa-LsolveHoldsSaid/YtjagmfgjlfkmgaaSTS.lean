/- The table of group S. No condition. -/
import Derived.Test.YtjagmfgjlfkmgaaA31
import Derived.Test.YtjagmfgjlfkmgaaSCS
set_option linter.unusedSimpArgs false
set_option linter.unusedVariables false
namespace Go.Proofs.Ytjagmfgjlfkmgaa
open Go

noncomputable def tS : Tb := (.nd (.nd (.nd (.nd (.nd .lf 6 c6 .lf) 7 c7 (.nd .lf 8 c8 .lf)) 27 c27 (.nd (.nd .lf 28 c28 .lf) 29 c29 .lf)) 30 c30 (.nd (.nd (.nd .lf 31 c31 .lf) 32 c32 (.nd .lf 36 c36 .lf)) 37 c37 (.nd (.nd .lf 46 c46 .lf) 49 c49 .lf))) 53 c53 (.nd (.nd (.nd (.nd .lf 54 c54 .lf) 66 c66 (.nd .lf 67 c67 .lf)) 68 c68 (.nd (.nd .lf 69 c69 .lf) 70 c70 .lf)) 71 c71 (.nd (.nd (.nd .lf 74 c74 .lf) 75 c75 .lf) 76 c76 (.nd (.nd .lf 80 c80 .lf) 81 c81 .lf))))
theorem tS_ok : tS.Ok (cFk kS Go.Proofs.Try.prog) := ⟨⟨⟨⟨⟨trivial, f6_eq, trivial⟩, f7_eq, ⟨trivial, f8_eq, trivial⟩⟩, f27_eq, ⟨⟨trivial, f28_eq, trivial⟩, f29_eq, trivial⟩⟩, f30_eq, ⟨⟨⟨trivial, f31_eq, trivial⟩, f32_eq, ⟨trivial, f36_eq, trivial⟩⟩, f37_eq, ⟨⟨trivial, f46_eq, trivial⟩, f49_eq, trivial⟩⟩⟩, f53_eq, ⟨⟨⟨⟨trivial, f54_eq, trivial⟩, f66_eq, ⟨trivial, f67_eq, trivial⟩⟩, f68_eq, ⟨⟨trivial, f69_eq, trivial⟩, f70_eq, trivial⟩⟩, f71_eq, ⟨⟨⟨trivial, f74_eq, trivial⟩, f75_eq, trivial⟩, f76_eq, ⟨⟨trivial, f80_eq, trivial⟩, f81_eq, trivial⟩⟩⟩⟩

end Go.Proofs.Ytjagmfgjlfkmgaa
