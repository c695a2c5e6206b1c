/- The law's alive, run. No condition. -/
import Derived.Test.YtpbpmpabndgeeaaDoorCP
import Derived.Test.YtpbpmpabndgeeaaDoorCT
import Derived.Test.YtpbpmpabndgeeaaDoorCL
import Derived.Test.YtpbpmpabndgeeaaDoorA41
set_option linter.unusedSimpArgs false
set_option linter.unusedVariables false
namespace Go.Proofs.YtpbpmpabndgeeaaDoor
open Go

noncomputable def tD : Tb := (.nd (.nd (.nd (.nd (.nd (.nd (.nd .lf 3 c3 .lf) 4 c4 .lf) 5 c5 (.nd .lf 6 c6 .lf)) 7 c7 (.nd (.nd .lf 8 c8 .lf) 9 c9 (.nd .lf 10 c10 .lf))) 11 c11 (.nd (.nd (.nd (.nd .lf 12 c12 .lf) 13 c13 .lf) 14 c14 (.nd .lf 15 c15 .lf)) 16 c16 (.nd (.nd .lf 17 c17 .lf) 18 c18 (.nd .lf 19 c19 .lf)))) 20 c20 (.nd (.nd (.nd (.nd (.nd .lf 21 c21 .lf) 22 c22 .lf) 23 c23 (.nd .lf 24 c24 .lf)) 25 c25 (.nd (.nd .lf 26 c26 .lf) 27 c27 (.nd .lf 28 c28 .lf))) 29 c29 (.nd (.nd (.nd .lf 30 c30 .lf) 31 c31 (.nd .lf 32 c32 .lf)) 33 c33 (.nd (.nd .lf 34 c34 .lf) 35 c35 (.nd .lf 36 c36 .lf))))) 37 c37 (.nd (.nd (.nd (.nd (.nd (.nd .lf 38 c38 .lf) 39 c39 .lf) 40 c40 (.nd .lf 41 c41 .lf)) 42 c42 (.nd (.nd .lf 43 c43 .lf) 44 c44 (.nd .lf 45 c45 .lf))) 46 c46 (.nd (.nd (.nd (.nd .lf 47 c47 .lf) 48 c48 .lf) 49 c49 (.nd .lf 50 c50 .lf)) 51 c51 (.nd (.nd .lf 52 c52 .lf) 53 c53 (.nd .lf 55 c55 .lf)))) 56 c56 (.nd (.nd (.nd (.nd (.nd .lf 57 c57 .lf) 58 c58 .lf) 59 c59 (.nd .lf 60 c60 .lf)) 61 c61 (.nd (.nd .lf 62 c62 .lf) 63 c63 (.nd .lf 64 c64 .lf))) 65 c65 (.nd (.nd (.nd .lf 66 c66 .lf) 67 c67 (.nd .lf 68 c68 .lf)) 69 c69 (.nd (.nd .lf 70 c70 .lf) 71 c71 (.nd .lf 72 c72 .lf))))))
theorem tD_ok : tD.Ok (cF Tryd.prog) := ⟨⟨⟨⟨⟨⟨⟨trivial,f3_eq,trivial⟩,f4_eq,trivial⟩,f5_eq,⟨trivial,f6_eq,trivial⟩⟩,f7_eq,⟨⟨trivial,f8_eq,trivial⟩,f9_eq,⟨trivial,f10_eq,trivial⟩⟩⟩,f11_eq,⟨⟨⟨⟨trivial,f12_eq,trivial⟩,f13_eq,trivial⟩,f14_eq,⟨trivial,f15_eq,trivial⟩⟩,f16_eq,⟨⟨trivial,f17_eq,trivial⟩,f18_eq,⟨trivial,f19_eq,trivial⟩⟩⟩⟩,f20_eq,⟨⟨⟨⟨⟨trivial,f21_eq,trivial⟩,f22_eq,trivial⟩,f23_eq,⟨trivial,f24_eq,trivial⟩⟩,f25_eq,⟨⟨trivial,f26_eq,trivial⟩,f27_eq,⟨trivial,f28_eq,trivial⟩⟩⟩,f29_eq,⟨⟨⟨trivial,f30_eq,trivial⟩,f31_eq,⟨trivial,f32_eq,trivial⟩⟩,f33_eq,⟨⟨trivial,f34_eq,trivial⟩,f35_eq,⟨trivial,f36_eq,trivial⟩⟩⟩⟩⟩,f37_eq,⟨⟨⟨⟨⟨⟨trivial,f38_eq,trivial⟩,f39_eq,trivial⟩,f40_eq,⟨trivial,f41_eq,trivial⟩⟩,f42_eq,⟨⟨trivial,f43_eq,trivial⟩,f44_eq,⟨trivial,f45_eq,trivial⟩⟩⟩,f46_eq,⟨⟨⟨⟨trivial,f47_eq,trivial⟩,f48_eq,trivial⟩,f49_eq,⟨trivial,f50_eq,trivial⟩⟩,f51_eq,⟨⟨trivial,f52_eq,trivial⟩,f53_eq,⟨trivial,f55_eq,trivial⟩⟩⟩⟩,f56_eq,⟨⟨⟨⟨⟨trivial,f57_eq,trivial⟩,f58_eq,trivial⟩,f59_eq,⟨trivial,f60_eq,trivial⟩⟩,f61_eq,⟨⟨trivial,f62_eq,trivial⟩,f63_eq,⟨trivial,f64_eq,trivial⟩⟩⟩,f65_eq,⟨⟨⟨trivial,f66_eq,trivial⟩,f67_eq,⟨trivial,f68_eq,trivial⟩⟩,f69_eq,⟨⟨trivial,f70_eq,trivial⟩,f71_eq,⟨trivial,f72_eq,trivial⟩⟩⟩⟩⟩⟩
theorem qAlive : callFn (LX (cF Tryd.prog)) 2 [] [] ((cF Tryd.prog) 4) = .ok (.bool true) 2 [] := by
  have h : callFn (exec (tD.look (cF Tryd.prog)) 4000) 2 [] [] (tD.look (cF Tryd.prog) 4) = .ok (.bool true) 2 [] := by kernel_rfl
  rw [Tb.look_eq tD_ok] at h
  exact callFn_LX _ h
end Go.Proofs.YtpbpmpabndgeeaaDoor
