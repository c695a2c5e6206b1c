/- Terms that are handed in. No condition. -/
import Derived.Test.YtdijijblccmfbaaTA
import Derived.Test.YtdijijblccmfbaaL1
set_option linter.unusedSimpArgs false
set_option linter.unusedVariables false
namespace Go.Proofs.Ytdijijblccmfbaa
open Go

section
variable {H : Type} {P : Program}
theorem struct6 {t : Nat} {a b c d e f : Field} (hu : P.underlying t = some (.struct #[a,b,c,d,e,f])) {k : Nat} {x : DataW H} (h : Fit P k t x) :
    ∃ g y1 y2 y3 y4 y5 y6,k = g + 1 ∧ x = .agg [y1,y2,y3,y4,y5,y6] ∧ Fit P g a.type y1 ∧ Fit P g b.type y2 ∧ Fit P g c.type y3 ∧ Fit P g d.type y4 ∧ Fit P g e.type y5 ∧ Fit P g f.type y6 ∧
      dVal P k t x = .agg (cells (dVal P g a.type y1) ++ (cells (dVal P g b.type y2) ++ (cells (dVal P g c.type y3) ++ (cells (dVal P g d.type y4) ++ (cells (dVal P g e.type y5) ++ cells (dVal P g f.type y6)))))) := by
  cases k with
  | zero => cases h
  | succ g =>
    simp only [Fit,hu] at h
    obtain ⟨ps,rfl,h1,h2⟩ := h
    match ps,h1 with
    | [y1,y2,y3,y4,y5,y6],_ =>
      refine ⟨g,y1,y2,y3,y4,y5,y6,rfl,rfl,h2 (a,y1) (by simp),h2 (b,y2) (by simp),h2 (c,y3) (by simp),h2 (d,y4) (by simp),h2 (e,y5) (by simp),h2 (f,y6) (by simp),?_⟩
      simp only [dVal,hu]
      simp
end
theorem tm_arg {H : Type} : ∀ (f : Nat) (x : DataW H),Fit Try.prog f 25 x → ∃ t : Tm,dVal Try.prog f 25 x = encT t ∧ saneT t.abs = true := by
  intro f
  induction f using Nat.strongRecOn with
  | _ f ih =>
  intro x h
  obtain ⟨g,a,b,c,d,e,k,rfl,rfl,h1,h2,h3,h4,h5,h6,h7⟩ := struct6 Try.underlying25 h
  obtain ⟨i,e1,_⟩ := int_arg Try.underlying3 h1
  obtain ⟨j,e2,_⟩ := int_arg Try.underlying3 h2
  obtain ⟨q,e3⟩ := bool_arg Try.underlying4 h3
  obtain ⟨l,rfl,e4,_⟩ := str_arg Try.underlying9 h4
  obtain ⟨ls,e5,m5,_⟩ := slice_arg (k := 2) (enc := encL) (R := fun _ _ => True) Try.underlying22 (by kernel_rfl) h5 (fun g' y _ hy => by
    obtain ⟨l,e⟩ := lev_arg g' y hy
    exact ⟨l,e,trivial⟩)
  obtain ⟨s,e6,m6,m7⟩ := slice_arg (k := 6) (enc := encT) (R := fun t _ => saneT t.abs = true) Try.underlying23 (by kernel_rfl) h6 (fun g' y hg hy => by
    obtain ⟨t,e,hs⟩ := ih g' (by omega) y hy
    exact ⟨t,e,hs⟩)
  refine ⟨.mk i j q (l.map UInt8.toNat) ls s.nil s.full s.el s.sp,?_,?_⟩
  rotate_left
  · refine (sane_eq _).2 ⟨?_,?_⟩
    · rw [abs_levels,abs_kids,List.length_map,List.length_map]
      show ls.el.length ≤ _ ∧ s.el.length ≤ _
      have : maxLen = 9223372036854775807 := rfl
      omega
    · rw [abs_kids]
      intro k hk
      obtain ⟨y,hy,rfl⟩ := List.mem_map.1 hk
      replace hy : y ∈ s.el := hy
      rcases m7 with ⟨_,h8,_⟩ | ⟨es,sp,_,h8,_⟩
      · rw [h8] at hy; cases hy
      · obtain ⟨_,_,h9⟩ := h8.mem y hy
        exact h9
  rw [h7,encT_eq]
  show D.agg (cells (dVal _ g 3 a) ++ (cells (dVal _ g 3 b) ++ (cells (dVal _ g 4 c) ++ (cells (dVal _ g 9 _) ++ (cells (dVal _ g 22 e) ++ cells (dVal _ g 23 k)))))) = _
  rw [e1,e2,e3,e4,e5,e6,cells_int,cells_int,cells_bool,cells_str,cells_slD,cells_slD]
  rfl
end Go.Proofs.Ytdijijblccmfbaa
