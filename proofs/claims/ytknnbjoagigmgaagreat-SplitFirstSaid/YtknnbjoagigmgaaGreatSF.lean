/- SplitFirst: of rows that overlap the first one is told, for every n and v. No condition. -/
import Derived.Test.YtknnbjoagigmgaaGreatSF0
import Derived.Test.YtknnbjoagigmgaaGreatSF1
import Derived.Test.YtknnbjoagigmgaaGreatSF2
import Derived.Test.YtknnbjoagigmgaaGreatSF3
import Derived.Test.YtknnbjoagigmgaaGreatSF4
import Derived.Test.YtknnbjoagigmgaaGreatSF5
import Derived.Test.YtknnbjoagigmgaaGreatSF6
import Derived.Test.YtknnbjoagigmgaaGreatEB
import Derived.Test.YtknnbjoagigmgaaGreatA38
set_option linter.unusedSimpArgs false
set_option linter.unusedVariables false
namespace Go.Proofs.YtknnbjoagigmgaaGreat
open Go Go.ChangeShapes Go.WideShapes Go.ChangeAt Go.RowKit
set_option maxRecDepth 100000

theorem sf_neg (m : Nat) (x : D) : allQ mEB uF 100000 7 [[.int .i64 (.negSucc m),x]] = true := by kernel_rfl
theorem sf_big (m : Nat) (x : D) : allQ mEB uF 100000 7 [[.int .i64 (.ofNat (m + 7)),x]] = true := by kernel_rfl
theorem sf_run : ∀ n v : Int,∃ n' h',callFn (LX (cFk kQ Tryz.prog)) 0 [] [.int .i64 n,.int .i64 v] (cFk kQ Tryz.prog 7) = .ok (.bool true) n' h'
  | .ofNat 0,v => closed_runQ mEB_ok uF_ok (sf0_all v)
  | .ofNat 1,v => closed_runQ mEB_ok uF_ok (sf1_all v)
  | .ofNat 2,v => closed_runQ mEB_ok uF_ok (sf2_all v)
  | .ofNat 3,v => closed_runQ mEB_ok uF_ok (sf3_all v)
  | .ofNat 4,v => closed_runQ mEB_ok uF_ok (sf4_all v)
  | .ofNat 5,v => closed_runQ mEB_ok uF_ok (sf5_all v)
  | .ofNat 6,v => closed_runQ mEB_ok uF_ok (sf6_all v)
  | .ofNat (m + 7),v => closed_runQ mEB_ok uF_ok (allQ_ok (sf_big m _) _ (.head _))
  | .negSucc m,v => closed_runQ mEB_ok uF_ok (allQ_ok (sf_neg m _) _ (.head _))

theorem sf_lifted (os : Os) (started : os.Started) (H : Type) (enc : TypeId × Value → H) :
    ReturnsInHanded {} Tryz.checked os 7 .any (Rows.splitFirstSpec.pre6 enc Tryz.prog Tryz.f7 Rows.splitFirstRow.domain false) (Rows.splitFirstSpec.post enc Tryz.prog Tryz.f7 false true false false) := by
  refine law_lifted (K := kQ) (C := Tryz.checked) (tb := 4) own started (by kernel_rfl) Tryz.func7
    (ChangeSpec.witness6 (enc := enc) (C := Tryz.checked) false ⟨#[],#[.int .i64 0,.int .i64 0],[]⟩ 8 (by kernel_rfl) (by kernel_rfl) (by kernel_rfl) (by kernel_rfl))
    mixed laidOut rowed_maps full_slices (by kernel_rfl) rfl (by kernel_rfl) rfl ?_ ?_
  · intro ds hl
    match ds,hl with
    | [_,_],_ => rfl
  · intro ds l hA
    have hA : ArgsAre Tryz.prog [3,3] ds l := hA
    obtain ⟨x,y,f,g,rfl,h1,h2⟩ := args_two hA
    obtain ⟨n,e1,_⟩ := int_arg (k := .i64) (by kernel_rfl) h1
    obtain ⟨v,e2,_⟩ := int_arg (k := .i64) (by kernel_rfl) h2
    rw [e1,e2]
    exact sf_run n v

theorem SplitFirst_holds : Rows.SplitFirstSaid :=
  OpenClaim.holds_of_wide 7 Tryz.f7 rfl rfl rfl rfl rfl rfl rfl ⟨rfl,rfl,rfl,rfl,rfl⟩ rfl rfl rfl rfl rfl (by kernel_rfl) Tryz.func7 (by kernel_rfl)
    (of_decide_eq_true (by kernel_rfl)) (by unfold Func.isWrapper; first | (rw [if_pos (by decide +kernel)]; kernel_rfl) | (rw [if_neg (by decide +kernel)]; exact ⟨rfl,rfl⟩))
    (fun os started H enc _ => sf_lifted os started H enc)

end Go.Proofs.YtknnbjoagigmgaaGreat
