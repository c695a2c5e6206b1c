/- What calls without arguments tell, run by themselves. No condition. -/
import Derived.Test.YtknnbjoagigmgaaUN
set_option linter.unusedSimpArgs false
set_option linter.unusedVariables false
namespace Go.Proofs.Ytknnbjoagigmgaa
open Go
set_option maxRecDepth 100000

noncomputable def rEN0 : Rd := (.ok (.bool .true) 0 [])
theorem rEN0_run : runQ [] uN 100000 18 0 [] = rEN0 := by kernel_rfl

noncomputable def mEN : List ME := [⟨18,0,[],[],rEN0⟩]

theorem mEN_ok : MOk (cFk kQ Try.prog) mEN := ⟨runQ_ok (M := []) trivial uN_ok (fun h => by cases h) rEN0_run,trivial⟩

end Go.Proofs.Ytknnbjoagigmgaa
