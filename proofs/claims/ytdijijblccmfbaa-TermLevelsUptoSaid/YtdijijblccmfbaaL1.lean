/- Levels that are handed in. No condition. -/
import Derived.Test.YtdijijblccmfbaaLP
set_option linter.unusedSimpArgs false
set_option linter.unusedVariables false
namespace Go.Proofs.Ytdijijblccmfbaa
open Go

theorem lvar_arg {H : Type} (f : Nat) (x : DataW H) (h : Fit Try.prog f 115 x) : ∃ p : LV,dVal Try.prog f 115 x = encV p ∧ True := by
  obtain ⟨g,a,b,rfl,rfl,h1,h2,h4⟩ := struct2 Try.underlying115 h
  obtain ⟨i,e1,_⟩ := int_arg Try.underlying3 h1
  obtain ⟨j,e2,_⟩ := int_arg Try.underlying3 h2
  refine ⟨(i,j),?_,trivial⟩
  rw [h4]
  show D.agg (cells (dVal _ g 3 a) ++ cells (dVal _ g 3 b)) = _
  rw [e1,e2]
  rfl
theorem lev_arg {H : Type} (f : Nat) (x : DataW H) (h : Fit Try.prog f 65 x) : ∃ l : SLev,dVal Try.prog f 65 x = encL l := by
  obtain ⟨g,a,b,rfl,rfl,h1,h2,h4⟩ := struct2 Try.underlying65 h
  obtain ⟨i,e1,_⟩ := int_arg Try.underlying3 h1
  obtain ⟨s,e2,_,_⟩ := slice_arg (k := 2) (enc := encV) (R := fun _ _ => True) Try.underlying63 (by kernel_rfl) h2 (fun g' y _ hy => lvar_arg g' y hy)
  refine ⟨⟨i,s⟩,?_⟩
  rw [h4]
  show D.agg (cells (dVal _ g 3 a) ++ cells (dVal _ g 63 b)) = _
  rw [e1,e2,cells_int,cells_slD]
  rfl
end Go.Proofs.Ytdijijblccmfbaa
