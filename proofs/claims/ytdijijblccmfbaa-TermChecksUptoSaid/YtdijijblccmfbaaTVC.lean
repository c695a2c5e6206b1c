/- TermChecks: whether every term is one, how many parts it has, which of its variables are free, and whether a name stands in it. Condition: what is handed in is of bulk at most 1048576. -/
import Derived.Test.YtdijijblccmfbaaTVB
set_option linter.unusedSimpArgs false
set_option linter.unusedVariables false
namespace Go.Proofs.Ytdijijblccmfbaa
open Go Go.ChangeShapes Go.WideShapes Go.ChangeAt Go.RowKit

set_option maxRecDepth 100000 in
theorem tc_lifted (os : Os) (started : os.Started) (H : Type) (enc : TypeId × Value → H) (F : Stop.Interp) :
    ReturnsInHanded {} Try.checked os 7 .any ((Rows.OpenSpec.upto Rows.termChecksSpec).pre6 enc Try.prog Try.f7 Rows.termChecksUptoRow.domain false) (((Rows.OpenSpec.upto Rows.termChecksSpec).at F).post enc Try.prog Try.f7 false true false false) := by
  refine law_cond (K := noK) (C := Try.checked) (s := Rows.OpenSpec.upto Rows.termChecksSpec) (k := Rows.uptoSmall) (tb := 4) rfl own started (by kernel_rfl) Try.func7
    (OpenSpec.witness (enc := enc) (C := Try.checked) (s := Rows.OpenSpec.upto Rows.termChecksSpec) (k := Rows.uptoSmall) rfl false ⟨#[],#[.agg #[.int .i64 0,.int .i64 0,.bool false,.string ByteArray.empty,.slice none 0 0,.slice none 0 0],.string ByteArray.empty],[]⟩ 8 (by kernel_rfl) (by kernel_rfl) (by kernel_rfl)
      (x := ([.agg [.lit (.int .i64 0),.lit (.int .i64 0),.lit (.bool false),.lit (.string []),.nil,.nil],.lit (.string [])],[],[])) (by kernel_rfl) rfl (by kernel_rfl))
    mixed laidOut rowed_maps full_slices (by kernel_rfl) rfl (by kernel_rfl) rfl rfl ?_ ?_
  · intro ds hl
    match ds,hl with
    | [_,_],_ => rfl
  · intro ds gs l hk hA
    have hA : ArgsAre Try.prog [25,9] ds l := hA
    have hb : Rows.uptoBulkAll (ds ++ gs) ≤ 1048576 := of_decide_eq_true hk
    obtain ⟨x,xs,f1,l1,rfl,rfl,h1,hA⟩ := args_cons hA
    obtain ⟨y,ys,f2,l2,rfl,rfl,h2,hA⟩ := args_cons hA
    obtain ⟨rfl,rfl⟩ := args_nil hA
    rw [List.cons_append,bulk_cons] at hb
    obtain ⟨a,e1,sa,wa⟩ := tmc_arg _ _ h1
    obtain ⟨b,_,e2,_⟩ := str_arg Try.underlying9 h2
    rw [e1,e2,encT_eq]
    exact tc_run a _ sa (wa (by omega)).1 (wa (by omega)).2

theorem TermChecksUpto_holds : Rows.TermChecksUptoSaid :=
  OpenClaim.holds_of_cond 7 Try.f7 rfl rfl rfl rfl rfl rfl rfl ⟨rfl,rfl,rfl,rfl,rfl⟩ rfl rfl rfl rfl rfl (by kernel_rfl) Try.func7 (by kernel_rfl)
    (of_decide_eq_true (by kernel_rfl)) (by unfold Func.isWrapper; first | (rw [if_pos (by decide +kernel)]; kernel_rfl) | (rw [if_neg (by decide +kernel)]; exact ⟨rfl,rfl⟩))
    (fun os started H enc _ F => tc_lifted os started H enc F)
end Go.Proofs.Ytdijijblccmfbaa
