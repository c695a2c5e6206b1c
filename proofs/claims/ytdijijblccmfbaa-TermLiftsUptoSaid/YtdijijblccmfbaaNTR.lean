/- Terms that are handed in. No condition. -/
import Derived.Test.YtdijijblccmfbaaNLP
import Derived.Test.YtdijijblccmfbaaNTA
set_option linter.unusedSimpArgs false
set_option linter.unusedVariables false
namespace Go.Proofs.Ytdijijblccmfbaa
open Go

theorem lvar_arg {H:Type} (f:Nat) (x:DataW H) (h:Fit Try.prog f 115 x):∃ p:LV,dVal Try.prog f 115 x=encV p∧True:=by
  obtain ⟨g,a,b,rfl,rfl,h1,h2,h4⟩:=struct2 Try.underlying115 h
  obtain ⟨i,e1,_⟩:=int_arg Try.underlying3 h1
  obtain ⟨j,e2,_⟩:=int_arg Try.underlying3 h2
  refine ⟨(i,j),?_,trivial⟩
  rw [h4]
  show D.agg (cells (dVal _ g 3 a)++cells (dVal _ g 3 b))=_
  rw [e1,e2]
  rfl
end Go.Proofs.Ytdijijblccmfbaa
set_option linter.unusedSimpArgs false
set_option linter.unusedVariables false
namespace Go.Proofs.Ytdijijblccmfbaa
open Go

section
variable {H:Type} {P:Program}
theorem struct6 {t:Nat} {a b c d e f:Field} (hu:P.underlying t=some (.struct #[a,b,c,d,e,f])) {k:Nat} {x:DataW H} (h:Fit P k t x) :
    ∃ g y1 y2 y3 y4 y5 y6,k=g+1∧x = .agg [y1,y2,y3,y4,y5,y6]∧Fit P g a.type y1∧Fit P g b.type y2∧Fit P g c.type y3∧Fit P g d.type y4∧Fit P g e.type y5∧Fit P g f.type y6 ∧
      dVal P k t x = .agg (cells (dVal P g a.type y1) ++ (cells (dVal P g b.type y2) ++ (cells (dVal P g c.type y3) ++ (cells (dVal P g d.type y4) ++ (cells (dVal P g e.type y5)++cells (dVal P g f.type y6)))))):=by
  cases k with
  | zero=>cases h
  | succ g =>
    simp only [Fit,hu] at h
    obtain ⟨ps,rfl,h1,h2⟩:=h
    match ps,h1 with
    | [y1,y2,y3,y4,y5,y6],_ =>
      refine ⟨g,y1,y2,y3,y4,y5,y6,rfl,rfl,h2 (a,y1) (by simp),h2 (b,y2) (by simp),h2 (c,y3) (by simp),h2 (d,y4) (by simp),h2 (e,y5) (by simp),h2 (f,y6) (by simp),?_⟩
      simp only [dVal,hu]
      simp
end
end Go.Proofs.Ytdijijblccmfbaa
