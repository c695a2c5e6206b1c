/- SplitColumns: rows for all truths of n columns tell each vector of them, for every n and vals. No condition. -/
import Derived.Test.YtknnbjoagigmgaaGreatSC1
import Derived.Test.YtknnbjoagigmgaaGreatSC2
import Derived.Test.YtknnbjoagigmgaaGreatSC3
import Derived.Test.YtknnbjoagigmgaaGreatSC4
import Derived.Test.YtknnbjoagigmgaaGreatEB
import Derived.Test.YtknnbjoagigmgaaGreatA38
set_option linter.unusedSimpArgs false
set_option linter.unusedVariables false
namespace Go.Proofs.YtknnbjoagigmgaaGreat
open Go Go.ChangeShapes Go.WideShapes Go.ChangeAt Go.RowKit
set_option maxRecDepth 100000

theorem sc_neg (m : Nat) (x : D) : allQ mEB uC 100000 6 [[.int .i64 (.negSucc m),x]] = true := by kernel_rfl
theorem sc_z0 (x : D) : allQ mEB uC 100000 6 [[.int .i64 (.ofNat 0),x]] = true := by kernel_rfl
theorem sc_big (m : Nat) (x : D) : allQ mEB uC 100000 6 [[.int .i64 (.ofNat (m + 5)),x]] = true := by kernel_rfl
theorem sc_run : ∀ n v : Int,∃ n' h',callFn (LX (cFk kQ Tryz.prog)) 0 [] [.int .i64 n,.int .i64 v] (cFk kQ Tryz.prog 6) = .ok (.bool true) n' h'
  | .ofNat 0,v => closed_runQ mEB_ok uC_ok (allQ_ok (sc_z0 _) _ (.head _))
  | .ofNat 1,v => closed_runQ mTC1_ok uC_ok (sc1_all v)
  | .ofNat 2,v => closed_runQ mTC2_ok uC_ok (sc2_all v)
  | .ofNat 3,v => closed_runQ mTC3_ok uC_ok (sc3_all v)
  | .ofNat 4,v => closed_runQ mTC4_ok uC_ok (sc4_all v)
  | .ofNat (m + 5),v => closed_runQ mEB_ok uC_ok (allQ_ok (sc_big m _) _ (.head _))
  | .negSucc m,v => closed_runQ mEB_ok uC_ok (allQ_ok (sc_neg m _) _ (.head _))

theorem sc_lifted (os : Os) (started : os.Started) (H : Type) (enc : TypeId × Value → H) :
    ReturnsInHanded {} Tryz.checked os 6 .any (Rows.splitColumnsSpec.pre6 enc Tryz.prog Tryz.f6 Rows.splitColumnsRow.domain false) (Rows.splitColumnsSpec.post enc Tryz.prog Tryz.f6 false true false false) := by
  refine law_lifted (K := kQ) (C := Tryz.checked) (tb := 4) own started (by kernel_rfl) Tryz.func6
    (ChangeSpec.witness6 (enc := enc) (C := Tryz.checked) false ⟨#[],#[.int .i64 0,.int .i64 0],[]⟩ 8 (by kernel_rfl) (by kernel_rfl) (by kernel_rfl) (by kernel_rfl))
    mixed laidOut rowed_maps full_slices (by kernel_rfl) rfl (by kernel_rfl) rfl ?_ ?_
  · intro ds hl
    match ds,hl with
    | [_,_],_ => rfl
  · intro ds l hA
    have hA : ArgsAre Tryz.prog [3,3] ds l := hA
    obtain ⟨x,y,f,g,rfl,h1,h2⟩ := args_two hA
    obtain ⟨n,e1,_⟩ := int_arg (k := .i64) (by kernel_rfl) h1
    obtain ⟨v,e2,_⟩ := int_arg (k := .i64) (by kernel_rfl) h2
    rw [e1,e2]
    exact sc_run n v

theorem SplitColumns_holds : Rows.SplitColumnsSaid :=
  OpenClaim.holds_of_wide 6 Tryz.f6 rfl rfl rfl rfl rfl rfl rfl ⟨rfl,rfl,rfl,rfl,rfl⟩ rfl rfl rfl rfl rfl (by kernel_rfl) Tryz.func6 (by kernel_rfl)
    (of_decide_eq_true (by kernel_rfl)) (by unfold Func.isWrapper; first | (rw [if_pos (by decide +kernel)]; kernel_rfl) | (rw [if_neg (by decide +kernel)]; exact ⟨rfl,rfl⟩))
    (fun os started H enc _ => sc_lifted os started H enc)

end Go.Proofs.YtknnbjoagigmgaaGreat
