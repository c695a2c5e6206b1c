/- SplitRuns: what every tree tells of every list of values: the program's answer is the reference's, for all trees and values that hold together at most 1048576 values and letters. -/
import Derived.Test.YtknnbjoagigmgaaGreatMR
import Derived.Test.YtknnbjoagigmgaaGreatMQ
import Derived.Test.YtknnbjoagigmgaaGreatEB
import Derived.OpenShut
import Derived.JoinedCond
set_option linter.unusedSimpArgs false
set_option linter.unusedVariables false
namespace Go.Proofs.YtknnbjoagigmgaaGreat
open Go Go.ChangeShapes Go.WideShapes Go.ChangeAt Go.RowKit

section
variable {H : Type} {P : Program}
theorem struct5 {t : Nat} {a b c d e : Field} (hu : P.underlying t = some (.struct #[a,b,c,d,e])) {k : Nat} {x : DataW H} (h : Fit P k t x) :
    ∃ g y1 y2 y3 y4 y5,k = g + 1 ∧ x = .agg [y1,y2,y3,y4,y5] ∧ Fit P g a.type y1 ∧ Fit P g b.type y2 ∧ Fit P g c.type y3 ∧ Fit P g d.type y4 ∧ Fit P g e.type y5 ∧
      dVal P k t x = .agg (cells (dVal P g a.type y1) ++ (cells (dVal P g b.type y2) ++ (cells (dVal P g c.type y3) ++ (cells (dVal P g d.type y4) ++ cells (dVal P g e.type y5))))) := by
  cases k with
  | zero => cases h
  | succ g =>
    simp only [Fit,hu] at h
    obtain ⟨ps,rfl,h1,h2⟩ := h
    match ps,h1 with
    | [y1,y2,y3,y4,y5],_ =>
      refine ⟨g,y1,y2,y3,y4,y5,rfl,rfl,h2 (a,y1) (by simp),h2 (b,y2) (by simp),h2 (c,y3) (by simp),h2 (d,y4) (by simp),h2 (e,y5) (by simp),?_⟩
      simp only [dVal,hu]
      simp
end
theorem sizeRs_all {H : Type} {l : List Tre} {m : List (DataW H)} (h : All2 (fun p y => sizeR p ≤ Rows.uptoBulk y ∧ finR p) l m) : sizeRs l ≤ Rows.uptoBulkAll m := by
  induction h with
  | nil => rw [sizeRs]; exact Nat.zero_le _
  | cons h1 _ ih => rw [sizeRs_cons,bulk_cons]; have := h1.1; omega
theorem tre_arg {H : Type} : ∀ (f : Nat) (x : DataW H),Fit Tryz.prog f 43 x → ∃ t,dVal Tryz.prog f 43 x = encW t ∧ sizeR t ≤ Rows.uptoBulk x ∧ finR t := by
  intro f
  induction f using Nat.strongRecOn with
  | _ f ih =>
  intro x h
  obtain ⟨g,a,b,c,d,e,rfl,rfl,h1,h2,h3,h4,h5,h7⟩ := struct5 Tryz.underlying43 h
  obtain ⟨q,e1⟩ := bool_arg Tryz.underlying4 h1
  obtain ⟨i,e2,_⟩ := int_arg Tryz.underlying3 h2
  obtain ⟨j,e3,_⟩ := int_arg Tryz.underlying3 h3
  obtain ⟨ns,e4,m4,_⟩ := slice_arg (k := 1) (enc := encS) (R := fun _ _ => True) Tryz.underlying40 (by kernel_rfl) h4 (fun g' y _ hy => by
    obtain ⟨l,rfl,e,_⟩ := str_arg Tryz.underlying9 hy
    exact ⟨l.map UInt8.toNat,e,trivial⟩)
  obtain ⟨s,e5,m5,h6⟩ := slice_arg (k := 5) (enc := encW) (R := fun p y => sizeR p ≤ Rows.uptoBulk y ∧ finR p) Tryz.underlying41 (by kernel_rfl) h5 (fun g' y hg hy => ih g' (by omega) y hy)
  refine ⟨.mk q i j ns s.nil s.full s.el s.sp,?_,?_,?_⟩
  · rw [h7,encW_eq]
    show D.agg (cells (dVal _ g 4 a) ++ (cells (dVal _ g 3 b) ++ (cells (dVal _ g 3 c) ++ (cells (dVal _ g 40 d) ++ cells (dVal _ g 41 e))))) = _
    rw [e1,e2,e3,e4,e5,cells_int,cells_int,cells_bool,cells_slD,cells_slD]
    rfl
  · rw [sizeR_eq]
    show 1 + sizeRs s.el ≤ _
    rw [bulk_agg,bulk_cons,bulk_cons,bulk_cons,bulk_cons,bulk_cons,bulk_nil]
    rcases h6 with ⟨rfl,h6,_⟩ | ⟨es,sp,rfl,h6,_⟩
    · rw [h6,sizeRs]; have := bulk_one a; omega
    · have := sizeRs_all h6
      rw [bulk_slice]
      omega
  · rw [finR_eq]
    refine ⟨by show ns.el.length ≤ _; have : maxLen = 9223372036854775807 := rfl; omega,finRs_of (fun p hp => ?_)⟩
    replace hp : p ∈ s.el := hp
    rcases h6 with ⟨_,h6,_⟩ | ⟨es,sp,_,h6,_⟩
    · rw [h6] at hp; cases hp
    · obtain ⟨_,_,h9⟩ := h6.mem p hp
      exact h9.2

theorem sr_alive3 : runQ [] uB 100000 15 3 [] = .ok (.bool true) 3 [] := by kernel_rfl
theorem sr_alive : callFn (LX (cFk kQ Tryz.prog)) 3 [] [] ((cFk kQ Tryz.prog) 15) = .ok (.bool true) 3 [] := runQ_ok (M := []) trivial uB_ok (fun h => by cases h) sr_alive3
theorem sr_run (t : Tre) (s : Sl Pat) (hz : sizeR t ≤ 1048576) (hf : finR t) (hs : sizePs s.el ≤ 1048576) : ∃ n' h',callFn (LX (cFk kQ Tryz.prog)) 0 [] [encW t,slD 3 encP s] ((cFk kQ Tryz.prog) 4) = .ok (.bool true) n' h' := by
  have c0 := fun n => pSize _ t (Nat.le_refl _) (show sizeR t < 1000000000 by omega) n
  have c1 := fun n => pRun t s hf hs n
  have c2 := fun n => rRun t s hf hs n
  generalize runR (sizeR t) t s.el = B at c1 c2
  obtain ⟨b1,b2⟩ := B
  rw [encW_eq] at c0 c1 c2 ⊢
  have hgn : GoodAt 0 [] := good_nil
  rw [f4_eq]; unfold c4; rw [callFn_eq (by rfl)]
  by_cases h1 : ((s.el.length : Nat) : Int) > 30
  · simp (disch:=first|assumption|omega|(simp (disch:=first|assumption|omega) only [sB,Nat.reduceAdd,Nat.reduceLT,Nat.reduceLeDiff,Nat.reduceEqDiff,Nat.reduceMul,↓reduceIte];done)|fail) only [sA,↓reduceIte,Nat.reduceLT,Nat.reduceEqDiff,Nat.reduceAdd,Nat.reduceLeDiff,sr_alive,h1]
    exact ⟨_,_,rfl⟩
  · by_cases h2 : ((szR t : Nat) : Int) > 500
    · simp (disch:=first|assumption|omega|(simp (disch:=first|assumption|omega) only [sB,Nat.reduceAdd,Nat.reduceLT,Nat.reduceLeDiff,Nat.reduceEqDiff,Nat.reduceMul,↓reduceIte];done)|fail) only [sA,↓reduceIte,Nat.reduceLT,Nat.reduceEqDiff,Nat.reduceAdd,Nat.reduceLeDiff,sr_alive,h1,c0,h2]
      exact ⟨_,_,rfl⟩
    · have same : decide (b1 = b1) = true := decide_eq_true rfl
      simp (disch:=first|assumption|omega|(simp (disch:=first|assumption|omega) only [sB,Nat.reduceAdd,Nat.reduceLT,Nat.reduceLeDiff,Nat.reduceEqDiff,Nat.reduceMul,↓reduceIte];done)|fail) only [sA,↓reduceIte,Nat.reduceLT,Nat.reduceEqDiff,Nat.reduceAdd,Nat.reduceLeDiff,sr_alive,h1,c0,h2,c1,c2,same]
      exact ⟨_,_,rfl⟩

set_option maxRecDepth 100000 in
theorem sr_lifted (os : Os) (started : os.Started) (H : Type) (enc : TypeId × Value → H) (F : Stop.Interp) :
    ReturnsInHanded {} Tryz.checked os 4 .any ((Rows.OpenSpec.upto Rows.splitRunsSpec).pre6 enc Tryz.prog Tryz.f4 Rows.splitRunsUptoRow.domain false) (((Rows.OpenSpec.upto Rows.splitRunsSpec).at F).post enc Tryz.prog Tryz.f4 false true false false) := by
  refine law_cond (K := kQ) (C := Tryz.checked) (s := Rows.OpenSpec.upto Rows.splitRunsSpec) (k := Rows.uptoSmall) (tb := 4) rfl own started (by kernel_rfl) Tryz.func4
    (OpenSpec.witness (enc := enc) (C := Tryz.checked) (s := Rows.OpenSpec.upto Rows.splitRunsSpec) (k := Rows.uptoSmall) rfl false ⟨#[],#[.agg #[.bool true,.int .i64 0,.int .i64 0,.slice none 0 0,.slice none 0 0],.slice none 0 0],[]⟩ 8 (by kernel_rfl) (by kernel_rfl) (by kernel_rfl)
      (x := ([.agg [.lit (.bool true),.lit (.int .i64 0),.lit (.int .i64 0),.nil,.nil],.nil],[],[])) (by kernel_rfl) rfl (by kernel_rfl))
    mixed laidOut rowed_maps full_slices (by kernel_rfl) rfl (by kernel_rfl) rfl rfl ?_ ?_
  · intro ds hl
    match ds,hl with
    | [_,_],_ => rfl
  · intro ds gs l hk hA
    have hA : ArgsAre Tryz.prog [43,28] ds l := hA
    have hb : Rows.uptoBulkAll (ds ++ gs) ≤ 1048576 := of_decide_eq_true hk
    obtain ⟨x,xs,f,l1,rfl,rfl,h1,hA⟩ := args_cons hA
    obtain ⟨y,ys,g,l2,rfl,rfl,h2,hA⟩ := args_cons hA
    obtain ⟨rfl,rfl⟩ := args_nil hA
    rw [List.cons_append,bulk_cons,List.cons_append,bulk_cons] at hb
    obtain ⟨t,e1,z1,f1⟩ := tre_arg _ _ h1
    obtain ⟨s,e2,z2,_,_⟩ := pats_arg _ _ h2
    rw [e1,e2]
    exact sr_run t s (by omega) f1 (by omega)

theorem SplitRunsUpto_holds : Rows.SplitRunsUptoSaid :=
  OpenClaim.holds_of_cond 4 Tryz.f4 rfl rfl rfl rfl rfl rfl rfl ⟨rfl,rfl,rfl,rfl,rfl⟩ rfl rfl rfl rfl rfl (by kernel_rfl) Tryz.func4 (by kernel_rfl)
    (of_decide_eq_true (by kernel_rfl)) (by unfold Func.isWrapper; first | (rw [if_pos (by decide +kernel)]; kernel_rfl) | (rw [if_neg (by decide +kernel)]; exact ⟨rfl,rfl⟩))
    (fun os started H enc _ F => sr_lifted os started H enc F)
end Go.Proofs.YtknnbjoagigmgaaGreat
