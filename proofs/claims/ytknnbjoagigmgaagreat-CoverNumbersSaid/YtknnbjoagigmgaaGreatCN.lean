/- CoverNumbers: for every n and v. No condition. -/
import Derived.Test.YtknnbjoagigmgaaGreatCN1
import Derived.Test.YtknnbjoagigmgaaGreatCN2
import Derived.Test.YtknnbjoagigmgaaGreatCN3
import Derived.Test.YtknnbjoagigmgaaGreatCN4
import Derived.Test.YtknnbjoagigmgaaGreatCN5
import Derived.Test.YtknnbjoagigmgaaGreatCN6
import Derived.Test.YtknnbjoagigmgaaGreatEV
import Derived.Test.YtknnbjoagigmgaaGreatA38
set_option linter.unusedSimpArgs false
set_option linter.unusedVariables false
namespace Go.Proofs.YtknnbjoagigmgaaGreat
open Go Go.ChangeShapes Go.WideShapes Go.ChangeAt Go.RowKit
set_option maxRecDepth 100000

theorem cn_neg (m : Nat) (x : D) : allQ mEV uV 100000 3 [[.int .i64 (.negSucc m),x]] = true := by kernel_rfl
theorem cn_z0 (x : D) : allQ mEV uV 100000 3 [[.int .i64 (.ofNat 0),x]] = true := by kernel_rfl
theorem cn_big (m : Nat) (x : D) : allQ mEV uV 100000 3 [[.int .i64 (.ofNat (m + 7)),x]] = true := by kernel_rfl
theorem cn_run : ∀ n v : Int,∃ n' h',callFn (LX (cFk kQ Tryz.prog)) 0 [] [.int .i64 n,.int .i64 v] (cFk kQ Tryz.prog 3) = .ok (.bool true) n' h'
  | .ofNat 0,v => closed_runQ mEV_ok uV_ok (allQ_ok (cn_z0 _) _ (.head _))
  | .ofNat 1,v => closed_runQ mEV_ok uV_ok (cn1_all v)
  | .ofNat 2,v => closed_runQ mEV_ok uV_ok (cn2_all v)
  | .ofNat 3,v => closed_runQ mEV_ok uV_ok (cn3_all v)
  | .ofNat 4,v => closed_runQ mEV_ok uV_ok (cn4_all v)
  | .ofNat 5,v => closed_runQ mEV_ok uV_ok (cn5_all v)
  | .ofNat 6,v => closed_runQ mEV_ok uV_ok (cn6_all v)
  | .ofNat (m + 7),v => closed_runQ mEV_ok uV_ok (allQ_ok (cn_big m _) _ (.head _))
  | .negSucc m,v => closed_runQ mEV_ok uV_ok (allQ_ok (cn_neg m _) _ (.head _))

theorem cn_lifted (os : Os) (started : os.Started) (H : Type) (enc : TypeId × Value → H) :
    ReturnsInHanded {} Tryz.checked os 3 .any (Rows.coverNumbersSpec.pre6 enc Tryz.prog Tryz.f3 Rows.coverNumbersRow.domain false) (Rows.coverNumbersSpec.post enc Tryz.prog Tryz.f3 false true false false) := by
  refine law_lifted (K := kQ) (C := Tryz.checked) (tb := 4) own started (by kernel_rfl) Tryz.func3
    (ChangeSpec.witness6 (enc := enc) (C := Tryz.checked) false ⟨#[],#[.int .i64 0,.int .i64 0],[]⟩ 8 (by kernel_rfl) (by kernel_rfl) (by kernel_rfl) (by kernel_rfl))
    mixed laidOut rowed_maps full_slices (by kernel_rfl) rfl (by kernel_rfl) rfl ?_ ?_
  · intro ds hl
    match ds,hl with
    | [_,_],_ => rfl
  · intro ds l hA
    have hA : ArgsAre Tryz.prog [3,3] ds l := hA
    obtain ⟨x,y,f,g,rfl,h1,h2⟩ := args_two hA
    obtain ⟨n,e1,_⟩ := int_arg (k := .i64) (by kernel_rfl) h1
    obtain ⟨v,e2,_⟩ := int_arg (k := .i64) (by kernel_rfl) h2
    rw [e1,e2]
    exact cn_run n v

theorem CoverNumbers_holds : Rows.CoverNumbersSaid :=
  OpenClaim.holds_of_wide 3 Tryz.f3 rfl rfl rfl rfl rfl rfl rfl ⟨rfl,rfl,rfl,rfl,rfl⟩ rfl rfl rfl rfl rfl (by kernel_rfl) Tryz.func3 (by kernel_rfl)
    (of_decide_eq_true (by kernel_rfl)) (by unfold Func.isWrapper; first | (rw [if_pos (by decide +kernel)]; kernel_rfl) | (rw [if_neg (by decide +kernel)]; exact ⟨rfl,rfl⟩))
    (fun os started H enc _ => cn_lifted os started H enc)

end Go.Proofs.YtknnbjoagigmgaaGreat
