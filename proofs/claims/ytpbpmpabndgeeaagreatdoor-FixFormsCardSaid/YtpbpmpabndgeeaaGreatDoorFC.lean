/- What the laid variable gives: its cell; a world that meets the condition. No condition. -/
import Derived.Test.YtpbpmpabndgeeaaGreatDoorA38
import Derived.RowKitTokens
import Derived.ChangeVars
set_option linter.unusedSimpArgs false
set_option linter.unusedVariables false
namespace Go.Proofs.YtpbpmpabndgeeaaGreatDoor
open Go Go.ChangeShapes Go.WideShapes Go.RowKit

def laidRow : List (String × DataW Unit) := [("errors.errorType",Rows.laid_errors_errorType)]
theorem fc_et : Tryz.prog.globalNamed "errors.errorType" = some 0 := by kernel_rfl
theorem fc_rt : (Tryz.prog.cutTypes.find? (·.1 == "internal/reflectlite.rtype")).map (·.2) = some 144 := by kernel_rfl
theorem fc_size : Tryz.prog.types.size = 204 := by kernel_rfl
theorem fc_one : ((List.range 204).filter fun t => Tryz.prog.rowNamed t [101,114,114,111,114]) = [57] := by kernel_rfl
theorem handle_of_laid {W : World} (h : laidMetH Tryz.prog laidRow W) : W.cell? ⟨0,0,none⟩ = some g0 := by
  have h' : laidMet Tryz.prog [] W ∧ handlesMet Tryz.prog laidRow W := h
  obtain ⟨name,u,ty,e1,e2,e3,e4,e5⟩ := h'.2 _ (List.mem_singleton.2 rfl)
  have en : name = [101,114,114,111,114] := (Option.some.inj e1).symm
  subst en
  obtain rfl := Option.some.inj (fc_rt.symm.trans e2)
  have hm : ty ∈ (List.range 204).filter fun t => Tryz.prog.rowNamed t [101,114,114,111,114] := List.mem_filter.2 ⟨List.mem_range.2 (by rw [← fc_size]; exact e3),e4⟩
  rw [fc_one] at hm
  obtain rfl := List.mem_singleton.1 hm
  have hh : typeHandle Tryz.prog 57 = .pointer (some ⟨1,57,none⟩) := by kernel_rfl
  rw [hh] at e5
  simpa [g0] using World.var?_cell fc_et e5 0
noncomputable def laidWorld (os : Os) (i : Input) : World :=
  let w0 := World.holding Tryz.prog os i
  { w0 with heap := w0.heap.modify 0 fun
      | .cells _ t frozen => .cells #[g0] t frozen
      | o => o }
theorem laidWorld_met (os : Os) (args : Array Value) : laidMetH Tryz.prog laidRow ((laidWorld os ⟨#[],#[],[]⟩).forCall (fun _ _ => 0) ⟨#[],args,[]⟩).memory :=
  laidMetH_of_parts (laidMet_nil _ _) (by kernel_rfl)
end Go.Proofs.YtpbpmpabndgeeaaGreatDoor
