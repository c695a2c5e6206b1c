/- The table of group N. No condition. -/
import Derived.Test.YtneohijnemjffaaA31
import Derived.Test.YtneohijnemjffaaCN
set_option linter.unusedSimpArgs false
set_option linter.unusedVariables false
namespace Go.Proofs.Ytneohijnemjffaa
open Go

noncomputable def tN : Tb := (.nd (.nd (.nd .lf 4 c4 .lf) 24 c24 .lf) 25 c25 (.nd (.nd .lf 26 c26 .lf) 85 c85 .lf))
theorem tN_ok : tN.Ok (cF Go.Proofs.Try.prog) := ⟨⟨⟨trivial, f4_eq, trivial⟩, f24_eq, trivial⟩, f25_eq, ⟨⟨trivial, f26_eq, trivial⟩, f85_eq, trivial⟩⟩

end Go.Proofs.Ytneohijnemjffaa
