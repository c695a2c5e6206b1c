/- SplitDeep: rows that look n deep into a number tell numbers by their size, for every n and v. No condition. -/
import Derived.Test.YtknnbjoagigmgaaGreatSD1
import Derived.Test.YtknnbjoagigmgaaGreatSD2
import Derived.Test.YtknnbjoagigmgaaGreatSD3
import Derived.Test.YtknnbjoagigmgaaGreatSD4
import Derived.Test.YtknnbjoagigmgaaGreatSD5
import Derived.Test.YtknnbjoagigmgaaGreatSD6
import Derived.Test.YtknnbjoagigmgaaGreatSD7
import Derived.Test.YtknnbjoagigmgaaGreatSD8
import Derived.Test.YtknnbjoagigmgaaGreatSD9
import Derived.Test.YtknnbjoagigmgaaGreatSD10
import Derived.Test.YtknnbjoagigmgaaGreatSD11
import Derived.Test.YtknnbjoagigmgaaGreatSD12
import Derived.Test.YtknnbjoagigmgaaGreatEB
import Derived.Test.YtknnbjoagigmgaaGreatA38
set_option linter.unusedSimpArgs false
set_option linter.unusedVariables false
namespace Go.Proofs.YtknnbjoagigmgaaGreat
open Go Go.ChangeShapes Go.WideShapes Go.ChangeAt Go.RowKit
set_option maxRecDepth 100000

theorem sd_neg (m : Nat) (x : D) : allQ mEB uD 100000 5 [[.int .i64 (.negSucc m),x]] = true := by kernel_rfl
theorem sd_z0 (x : D) : allQ mEB uD 100000 5 [[.int .i64 (.ofNat 0),x]] = true := by kernel_rfl
theorem sd_big (m : Nat) (x : D) : allQ mEB uD 100000 5 [[.int .i64 (.ofNat (m + 13)),x]] = true := by kernel_rfl
theorem sd_run : ∀ n v : Int,∃ n' h',callFn (LX (cFk kQ Tryz.prog)) 0 [] [.int .i64 n,.int .i64 v] (cFk kQ Tryz.prog 5) = .ok (.bool true) n' h'
  | .ofNat 0,v => closed_runQ mEB_ok uD_ok (allQ_ok (sd_z0 _) _ (.head _))
  | .ofNat 1,v => closed_runQ mTD1_ok uD_ok (sd1_all v)
  | .ofNat 2,v => closed_runQ mTD2_ok uD_ok (sd2_all v)
  | .ofNat 3,v => closed_runQ mTD3_ok uD_ok (sd3_all v)
  | .ofNat 4,v => closed_runQ mTD4_ok uD_ok (sd4_all v)
  | .ofNat 5,v => closed_runQ mTD5_ok uD_ok (sd5_all v)
  | .ofNat 6,v => closed_runQ mTD6_ok uD_ok (sd6_all v)
  | .ofNat 7,v => closed_runQ mTD7_ok uD_ok (sd7_all v)
  | .ofNat 8,v => closed_runQ mTD8_ok uD_ok (sd8_all v)
  | .ofNat 9,v => closed_runQ mTD9_ok uD_ok (sd9_all v)
  | .ofNat 10,v => closed_runQ mTD10_ok uD_ok (sd10_all v)
  | .ofNat 11,v => closed_runQ mTD11_ok uD_ok (sd11_all v)
  | .ofNat 12,v => closed_runQ mTD12_ok uD_ok (sd12_all v)
  | .ofNat (m + 13),v => closed_runQ mEB_ok uD_ok (allQ_ok (sd_big m _) _ (.head _))
  | .negSucc m,v => closed_runQ mEB_ok uD_ok (allQ_ok (sd_neg m _) _ (.head _))

theorem sd_lifted (os : Os) (started : os.Started) (H : Type) (enc : TypeId × Value → H) :
    ReturnsInHanded {} Tryz.checked os 5 .any (Rows.splitDeepSpec.pre6 enc Tryz.prog Tryz.f5 Rows.splitDeepRow.domain false) (Rows.splitDeepSpec.post enc Tryz.prog Tryz.f5 false true false false) := by
  refine law_lifted (K := kQ) (C := Tryz.checked) (tb := 4) own started (by kernel_rfl) Tryz.func5
    (ChangeSpec.witness6 (enc := enc) (C := Tryz.checked) false ⟨#[],#[.int .i64 0,.int .i64 0],[]⟩ 8 (by kernel_rfl) (by kernel_rfl) (by kernel_rfl) (by kernel_rfl))
    mixed laidOut rowed_maps full_slices (by kernel_rfl) rfl (by kernel_rfl) rfl ?_ ?_
  · intro ds hl
    match ds,hl with
    | [_,_],_ => rfl
  · intro ds l hA
    have hA : ArgsAre Tryz.prog [3,3] ds l := hA
    obtain ⟨x,y,f,g,rfl,h1,h2⟩ := args_two hA
    obtain ⟨n,e1,_⟩ := int_arg (k := .i64) (by kernel_rfl) h1
    obtain ⟨v,e2,_⟩ := int_arg (k := .i64) (by kernel_rfl) h2
    rw [e1,e2]
    exact sd_run n v

theorem SplitDeep_holds : Rows.SplitDeepSaid :=
  OpenClaim.holds_of_wide 5 Tryz.f5 rfl rfl rfl rfl rfl rfl rfl ⟨rfl,rfl,rfl,rfl,rfl⟩ rfl rfl rfl rfl rfl (by kernel_rfl) Tryz.func5 (by kernel_rfl)
    (of_decide_eq_true (by kernel_rfl)) (by unfold Func.isWrapper; first | (rw [if_pos (by decide +kernel)]; kernel_rfl) | (rw [if_neg (by decide +kernel)]; exact ⟨rfl,rfl⟩))
    (fun os started H enc _ => sd_lifted os started H enc)

end Go.Proofs.YtknnbjoagigmgaaGreat
