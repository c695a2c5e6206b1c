/- The table of group L. No condition. -/
import Derived.Test.YtjagmfgjlfkmgaaA32
import Derived.Test.YtjagmfgjlfkmgaaKCL
set_option linter.unusedSimpArgs false
set_option linter.unusedVariables false
namespace Go.Proofs.Ytjagmfgjlfkmgaa
open Go

noncomputable def tL : Tb := (.nd (.nd (.nd (.nd (.nd (.nd .lf 9 c9 .lf) 10 c10 .lf) 11 c11 (.nd (.nd .lf 12 c12 .lf) 13 c13 .lf)) 14 c14 (.nd (.nd (.nd .lf 15 c15 .lf) 16 c16 .lf) 32 c32 (.nd (.nd .lf 33 c33 .lf) 34 c34 .lf))) 35 c35 (.nd (.nd (.nd (.nd .lf 36 c36 .lf) 37 c37 .lf) 38 c38 (.nd (.nd .lf 39 c39 .lf) 40 c40 .lf)) 41 c41 (.nd (.nd (.nd .lf 42 c42 .lf) 43 c43 .lf) 44 c44 (.nd (.nd .lf 45 c45 .lf) 46 c46 .lf)))) 47 c47 (.nd (.nd (.nd (.nd (.nd .lf 48 c48 .lf) 49 c49 .lf) 50 c50 (.nd (.nd .lf 51 c51 .lf) 52 c52 .lf)) 53 c53 (.nd (.nd (.nd .lf 54 c54 .lf) 55 c55 .lf) 68 c68 (.nd (.nd .lf 69 c69 .lf) 70 c70 .lf))) 71 c71 (.nd (.nd (.nd (.nd .lf 72 c72 .lf) 73 c73 .lf) 74 c74 (.nd (.nd .lf 75 c75 .lf) 76 c76 .lf)) 77 c77 (.nd (.nd (.nd .lf 78 c78 .lf) 79 c79 .lf) 81 c81 (.nd .lf 82 c82 .lf)))))
theorem tL_ok : tL.Ok (cFk kN Try.prog) := ⟨⟨⟨⟨⟨⟨trivial,f9_eq,trivial⟩,f10_eq,trivial⟩,f11_eq,⟨⟨trivial,f12_eq,trivial⟩,f13_eq,trivial⟩⟩,f14_eq,⟨⟨⟨trivial,f15_eq,trivial⟩,f16_eq,trivial⟩,f32_eq,⟨⟨trivial,f33_eq,trivial⟩,f34_eq,trivial⟩⟩⟩,f35_eq,⟨⟨⟨⟨trivial,f36_eq,trivial⟩,f37_eq,trivial⟩,f38_eq,⟨⟨trivial,f39_eq,trivial⟩,f40_eq,trivial⟩⟩,f41_eq,⟨⟨⟨trivial,f42_eq,trivial⟩,f43_eq,trivial⟩,f44_eq,⟨⟨trivial,f45_eq,trivial⟩,f46_eq,trivial⟩⟩⟩⟩,f47_eq,⟨⟨⟨⟨⟨trivial,f48_eq,trivial⟩,f49_eq,trivial⟩,f50_eq,⟨⟨trivial,f51_eq,trivial⟩,f52_eq,trivial⟩⟩,f53_eq,⟨⟨⟨trivial,f54_eq,trivial⟩,f55_eq,trivial⟩,f68_eq,⟨⟨trivial,f69_eq,trivial⟩,f70_eq,trivial⟩⟩⟩,f71_eq,⟨⟨⟨⟨trivial,f72_eq,trivial⟩,f73_eq,trivial⟩,f74_eq,⟨⟨trivial,f75_eq,trivial⟩,f76_eq,trivial⟩⟩,f77_eq,⟨⟨⟨trivial,f78_eq,trivial⟩,f79_eq,trivial⟩,f81_eq,⟨trivial,f82_eq,trivial⟩⟩⟩⟩⟩

end Go.Proofs.Ytjagmfgjlfkmgaa
