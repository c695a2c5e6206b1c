/- Levels that are handed in. No condition. -/
import Derived.Test.YtdijijblccmfbaaYLP
set_option linter.unusedSimpArgs false
set_option linter.unusedVariables false
namespace Go.Proofs.Ytdijijblccmfbaa
open Go

theorem lvar_arg {H : Type} (f : Nat) (x : DataW H) (h : Fit Try.prog f 115 x) : ∃ p : LV,dVal Try.prog f 115 x = encV p ∧ True := by
  obtain ⟨g,a,b,rfl,rfl,h1,h2,h4⟩ := struct2 Try.underlying115 h
  obtain ⟨i,e1,_⟩ := int_arg Try.underlying3 h1
  obtain ⟨j,e2,_⟩ := int_arg Try.underlying3 h2
  refine ⟨(i,j),?_,trivial⟩
  rw [h4]
  show D.agg (cells (dVal _ g 3 a) ++ cells (dVal _ g 3 b)) = _
  rw [e1,e2]
  rfl
end Go.Proofs.Ytdijijblccmfbaa
