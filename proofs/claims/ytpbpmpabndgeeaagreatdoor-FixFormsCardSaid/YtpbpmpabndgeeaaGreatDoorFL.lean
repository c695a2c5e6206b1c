/- FixForms: the statement and the card, from the runs. No condition. -/
import Derived.Test.YtpbpmpabndgeeaaGreatDoorFB
import Derived.Test.YtpbpmpabndgeeaaGreatDoorFC
import Derived.Test.YtpbpmpabndgeeaaGreatDoorTie
import Derived.Test.YtpbpmpabndgeeaaGreatDoorCards
import Derived.SevenTiedAt
set_option linter.unusedSimpArgs false
set_option linter.unusedVariables false
namespace Go.Proofs.YtpbpmpabndgeeaaGreatDoor
open Go Go.ChangeShapes Go.WideShapes Go.ChangeAt Go.RowKit
set_option maxRecDepth 100000

theorem ff_lifted (run : ∀ n : Int,∃ n' h',callFn (LX (cF Tryz.prog)) 0 [] [.int .i64 n] (cF Tryz.prog 3) = .ok (.bool true) n' h') (os : Os) (started : os.Started) (H : Type) (enc : TypeId × Value → H) :
    ReturnsInHanded {} Tryz.checked os 3 .any (fun w args => (Rows.fixFormsSpec.pre enc Tryz.prog Tryz.f3 [] false w args ∧ laidMetH Tryz.prog laidRow w) ∧ sizedMet enc Tryz.prog Tryz.f3 (OpenSpec.ofChange Rows.fixFormsSpec) false w args)
      (Rows.fixFormsSpec.post enc Tryz.prog Tryz.f3 false true false false) := by
  refine law_laid (K := noK) (C := Tryz.checked) (tb := 4) own started (by kernel_rfl) Tryz.func3
    (ChangeSpec.witness_at (enc := enc) (C := Tryz.checked) (os := os) (X := fun w _ => laidMetH Tryz.prog laidRow w) false (laidWorld os ⟨#[],#[],[]⟩) #[.int .i64 0] 8 rfl (by kernel_rfl) (by kernel_rfl) (by kernel_rfl) (by kernel_rfl) (by kernel_rfl) (laidWorld_met os _))
    as_prog (fun W h => handle_of_laid h) mixed laidOut rowed_maps full_slices (by kernel_rfl) rfl (by kernel_rfl) rfl ?_ ?_
  · intro ds hl
    match ds,hl with
    | [_],_ => rfl
  · intro ds l hA
    have hA : ArgsAre Tryz.prog [3] ds l := hA
    obtain ⟨x,f,rfl,h1⟩ := args_one hA
    obtain ⟨n,e1,_⟩ := int_arg (k := .i64) (by kernel_rfl) h1
    rw [e1]
    exact run n
theorem ff_holds (run : ∀ n : Int,∃ n' h',callFn (LX (cF Tryz.prog)) 0 [] [.int .i64 n] (cF Tryz.prog 3) = .ok (.bool true) n' h') : Rows.FixFormsSaid :=
  OpenClaim.holds_of_wide 3 Tryz.f3 rfl rfl rfl rfl rfl rfl rfl ⟨rfl,rfl,rfl,rfl,rfl⟩ rfl rfl rfl rfl rfl (by kernel_rfl) Tryz.func3 (by kernel_rfl)
    (of_decide_eq_true (by kernel_rfl)) (by unfold Func.isWrapper; first | (rw [if_pos (by decide +kernel)]; kernel_rfl) | (rw [if_neg (by decide +kernel)]; exact ⟨rfl,rfl⟩))
    (fun os started H enc _ => ff_lifted run os started H enc)
theorem ff_card (run : ∀ n : Int,∃ n' h',callFn (LX (cF Tryz.prog)) 0 [] [.int .i64 n] (cF Tryz.prog 3) = .ok (.bool true) n' h') : Rows.FixFormsCardSaid :=
  Claim7.holds_tied_plain_at .later [] [.handle] true (true,"a873482e49a23e6ce602218b8e91893bd9e83890a0e41257ee0d58a7642b40a8") true
    (ff_holds run) (fun _ h => by cases h) (by kernel_rfl) (fun _ h => by cases h) fixForms_row_tie rfl ⟨rfl,rfl⟩ (by kernel_rfl) rfl
    (fun f fn hf hfn => by
      obtain rfl : f = 3 := Option.some.inj ((show Tryz.prog.funcNamed "telamon/telamonlaw15.FixForms" = some 3 by kernel_rfl).symm.trans hf) |>.symm
      obtain rfl : fn = Tryz.f3 := (Option.some.inj (Tryz.func3.symm.trans hfn)).symm
      exact ⟨by kernel_rfl,fun j t ht => by
        have h3 : t = 3 := by
          rcases j with _ | j
          · simpa [Tryz.params3] using ht.symm
          · simp [Tryz.params3] at ht
        subst h3
        exact (show Tryz.prog.wantsStandIn 3 = false by kernel_rfl)⟩)
    (by kernel_rfl)
end Go.Proofs.YtpbpmpabndgeeaaGreatDoor
