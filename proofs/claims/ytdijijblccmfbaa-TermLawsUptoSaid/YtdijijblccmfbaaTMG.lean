/- TermLaws: what is lifted is not touched by a replacement at the place where it was lifted; two replacements may be made in either order. Condition: what is handed in is of bulk at most 1048576. -/
import Derived.Test.YtdijijblccmfbaaTMF
set_option linter.unusedSimpArgs false
set_option linter.unusedVariables false
namespace Go.Proofs.Ytdijijblccmfbaa
open Go Go.ChangeShapes Go.WideShapes Go.ChangeAt Go.RowKit

set_option maxRecDepth 100000 in
theorem tl_lifted (os : Os) (started : os.Started) (H : Type) (enc : TypeId × Value → H) (F : Stop.Interp) :
    ReturnsInHanded {} Try.checked os 9 .any ((Rows.OpenSpec.upto Rows.termLawsSpec).pre6 enc Try.prog Try.f9 Rows.termLawsUptoRow.domain false) (((Rows.OpenSpec.upto Rows.termLawsSpec).at F).post enc Try.prog Try.f9 false true false false) := by
  refine law_cond (K := noK) (C := Try.checked) (s := Rows.OpenSpec.upto Rows.termLawsSpec) (k := Rows.uptoSmall) (tb := 4) rfl own started (by kernel_rfl) Try.func9
    (OpenSpec.witness (enc := enc) (C := Try.checked) (s := Rows.OpenSpec.upto Rows.termLawsSpec) (k := Rows.uptoSmall) rfl false ⟨#[],#[.agg #[.int .i64 0,.int .i64 0,.bool false,.string ByteArray.empty,.slice none 0 0,.slice none 0 0],.agg #[.int .i64 0,.int .i64 0,.bool false,.string ByteArray.empty,.slice none 0 0,.slice none 0 0],.agg #[.int .i64 0,.int .i64 0,.bool false,.string ByteArray.empty,.slice none 0 0,.slice none 0 0]],[]⟩ 8 (by kernel_rfl) (by kernel_rfl) (by kernel_rfl)
      (x := ([.agg [.lit (.int .i64 0),.lit (.int .i64 0),.lit (.bool false),.lit (.string []),.nil,.nil],.agg [.lit (.int .i64 0),.lit (.int .i64 0),.lit (.bool false),.lit (.string []),.nil,.nil],.agg [.lit (.int .i64 0),.lit (.int .i64 0),.lit (.bool false),.lit (.string []),.nil,.nil]],[],[])) (by kernel_rfl) rfl (by kernel_rfl))
    mixed laidOut rowed_maps full_slices (by kernel_rfl) rfl (by kernel_rfl) rfl rfl ?_ ?_
  · intro ds hl
    match ds,hl with
    | [_,_,_],_ => rfl
  · intro ds gs l hk hA
    have hA : ArgsAre Try.prog [25,25,25] ds l := hA
    have hb : Rows.uptoBulkAll (ds ++ gs) ≤ 1048576 := of_decide_eq_true hk
    obtain ⟨x,xs,f1,l1,rfl,rfl,h1,hA⟩ := args_cons hA
    obtain ⟨y,ys,f2,l2,rfl,rfl,h2,hA⟩ := args_cons hA
    obtain ⟨z,zs,f3,l3,rfl,rfl,h3,hA⟩ := args_cons hA
    obtain ⟨rfl,rfl⟩ := args_nil hA
    rw [List.cons_append,bulk_cons,List.cons_append,bulk_cons,List.cons_append,bulk_cons] at hb
    obtain ⟨a,e1,sa,wa⟩ := tmb_arg _ _ h1
    obtain ⟨b,e2,sb,wb⟩ := tmb_arg _ _ h2
    obtain ⟨c,e3,sc,wc⟩ := tmb_arg _ _ h3
    rw [e1,e2,e3,encT_eq,encT_eq,encT_eq]
    exact tl_run a b c sa sb sc (wa (by omega)) (wb (by omega)) (wc (by omega))

theorem TermLawsUpto_holds : Rows.TermLawsUptoSaid :=
  OpenClaim.holds_of_cond 9 Try.f9 rfl rfl rfl rfl rfl rfl rfl ⟨rfl,rfl,rfl,rfl,rfl⟩ rfl rfl rfl rfl rfl (by kernel_rfl) Try.func9 (by kernel_rfl)
    (of_decide_eq_true (by kernel_rfl)) (by unfold Func.isWrapper; first | (rw [if_pos (by decide +kernel)]; kernel_rfl) | (rw [if_neg (by decide +kernel)]; exact ⟨rfl,rfl⟩))
    (fun os started H enc _ F => tl_lifted os started H enc F)
end Go.Proofs.Ytdijijblccmfbaa
