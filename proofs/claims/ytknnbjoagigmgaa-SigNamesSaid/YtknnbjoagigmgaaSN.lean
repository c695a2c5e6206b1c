/- SigNames: each of a family's names means what it is, and no name is let in twice, for every n and twice. No condition. -/
import Derived.Test.YtknnbjoagigmgaaSM1
import Derived.Test.YtknnbjoagigmgaaSM4
import Derived.Test.YtknnbjoagigmgaaSM7
import Derived.Test.YtknnbjoagigmgaaSM10
import Derived.Test.YtknnbjoagigmgaaSM13
import Derived.Test.YtknnbjoagigmgaaSM16
import Derived.Test.YtknnbjoagigmgaaSM19
import Derived.Test.YtknnbjoagigmgaaSM22
import Derived.Test.YtknnbjoagigmgaaSM25
import Derived.Test.YtknnbjoagigmgaaSM28
import Derived.Test.YtknnbjoagigmgaaA38
set_option linter.unusedSimpArgs false
set_option linter.unusedVariables false
namespace Go.Proofs.Ytknnbjoagigmgaa
open Go Go.ChangeShapes Go.WideShapes Go.ChangeAt Go.RowKit
set_option maxRecDepth 100000

theorem sn_neg (m : Nat) (x : D) : allQ mEN uN 100000 4 [[.int .i64 (.negSucc m),x]] = true := by kernel_rfl
theorem sn_z0 (x : D) : allQ mEN uN 100000 4 [[.int .i64 (.ofNat 0),x]] = true := by kernel_rfl
theorem sn_big (m : Nat) (x : D) : allQ mEN uN 100000 4 [[.int .i64 (.ofNat (m + 31)),x]] = true := by kernel_rfl
theorem sn_run : ∀ n v : Int,∃ n' h',callFn (LX (cFk kQ Try.prog)) 0 [] [.int .i64 n,.int .i64 v] (cFk kQ Try.prog 4) = .ok (.bool true) n' h'
  | .ofNat 0,v => closed_runQ mEN_ok uN_ok (allQ_ok (sn_z0 _) _ (.head _))
  | .ofNat 1,v => closed_runQ mEN_ok uN_ok (s1_all v)
  | .ofNat 2,v => closed_runQ mEN_ok uN_ok (s2_all v)
  | .ofNat 3,v => closed_runQ mEN_ok uN_ok (s3_all v)
  | .ofNat 4,v => closed_runQ mEN_ok uN_ok (s4_all v)
  | .ofNat 5,v => closed_runQ mEN_ok uN_ok (s5_all v)
  | .ofNat 6,v => closed_runQ mEN_ok uN_ok (s6_all v)
  | .ofNat 7,v => closed_runQ mEN_ok uN_ok (s7_all v)
  | .ofNat 8,v => closed_runQ mEN_ok uN_ok (s8_all v)
  | .ofNat 9,v => closed_runQ mEN_ok uN_ok (s9_all v)
  | .ofNat 10,v => closed_runQ mEN_ok uN_ok (s10_all v)
  | .ofNat 11,v => closed_runQ mEN_ok uN_ok (s11_all v)
  | .ofNat 12,v => closed_runQ mEN_ok uN_ok (s12_all v)
  | .ofNat 13,v => closed_runQ mEN_ok uN_ok (s13_all v)
  | .ofNat 14,v => closed_runQ mEN_ok uN_ok (s14_all v)
  | .ofNat 15,v => closed_runQ mEN_ok uN_ok (s15_all v)
  | .ofNat 16,v => closed_runQ mEN_ok uN_ok (s16_all v)
  | .ofNat 17,v => closed_runQ mEN_ok uN_ok (s17_all v)
  | .ofNat 18,v => closed_runQ mEN_ok uN_ok (s18_all v)
  | .ofNat 19,v => closed_runQ mEN_ok uN_ok (s19_all v)
  | .ofNat 20,v => closed_runQ mEN_ok uN_ok (s20_all v)
  | .ofNat 21,v => closed_runQ mEN_ok uN_ok (s21_all v)
  | .ofNat 22,v => closed_runQ mEN_ok uN_ok (s22_all v)
  | .ofNat 23,v => closed_runQ mEN_ok uN_ok (s23_all v)
  | .ofNat 24,v => closed_runQ mEN_ok uN_ok (s24_all v)
  | .ofNat 25,v => closed_runQ mEN_ok uN_ok (s25_all v)
  | .ofNat 26,v => closed_runQ mEN_ok uN_ok (s26_all v)
  | .ofNat 27,v => closed_runQ mEN_ok uN_ok (s27_all v)
  | .ofNat 28,v => closed_runQ mEN_ok uN_ok (s28_all v)
  | .ofNat 29,v => closed_runQ mEN_ok uN_ok (s29_all v)
  | .ofNat 30,v => closed_runQ mEN_ok uN_ok (s30_all v)
  | .ofNat (m + 31),v => closed_runQ mEN_ok uN_ok (allQ_ok (sn_big m _) _ (.head _))
  | .negSucc m,v => closed_runQ mEN_ok uN_ok (allQ_ok (sn_neg m _) _ (.head _))

theorem sn_lifted (os : Os) (started : os.Started) (H : Type) (enc : TypeId × Value → H) :
    ReturnsInHanded {} Try.checked os 4 .any (Rows.sigNamesSpec.pre6 enc Try.prog Try.f4 Rows.sigNamesRow.domain false) (Rows.sigNamesSpec.post enc Try.prog Try.f4 false true false false) := by
  refine law_lifted (K := kQ) (C := Try.checked) (tb := 4) own started (by kernel_rfl) Try.func4
    (ChangeSpec.witness6 (enc := enc) (C := Try.checked) false ⟨#[],#[.int .i64 0,.int .i64 0],[]⟩ 8 (by kernel_rfl) (by kernel_rfl) (by kernel_rfl) (by kernel_rfl))
    mixed laidOut rowed_maps full_slices (by kernel_rfl) rfl (by kernel_rfl) rfl ?_ ?_
  · intro ds hl
    match ds,hl with
    | [_,_],_ => rfl
  · intro ds l hA
    have hA : ArgsAre Try.prog [3,3] ds l := hA
    obtain ⟨x,y,f,g,rfl,h1,h2⟩ := args_two hA
    obtain ⟨n,e1,_⟩ := int_arg (k := .i64) (by kernel_rfl) h1
    obtain ⟨v,e2,_⟩ := int_arg (k := .i64) (by kernel_rfl) h2
    rw [e1,e2]
    exact sn_run n v

theorem SigNames_holds : Rows.SigNamesSaid :=
  OpenClaim.holds_of_wide 4 Try.f4 rfl rfl rfl rfl rfl rfl rfl ⟨rfl,rfl,rfl,rfl,rfl⟩ rfl rfl rfl rfl rfl (by kernel_rfl) Try.func4 (by kernel_rfl)
    (of_decide_eq_true (by kernel_rfl)) (by unfold Func.isWrapper; first | (rw [if_pos (by decide +kernel)]; kernel_rfl) | (rw [if_neg (by decide +kernel)]; exact ⟨rfl,rfl⟩))
    (fun os started H enc _ => sn_lifted os started H enc)

end Go.Proofs.Ytknnbjoagigmgaa
