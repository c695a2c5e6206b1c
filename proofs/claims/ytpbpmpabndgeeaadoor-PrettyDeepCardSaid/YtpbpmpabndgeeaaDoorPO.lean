/- PrettyDeep: the statement and the card. No condition. -/
import Derived.Test.YtpbpmpabndgeeaaDoorPN
import Derived.Test.YtpbpmpabndgeeaaDoorBA
import Derived.Test.YtpbpmpabndgeeaaDoorA38
import Derived.Test.YtpbpmpabndgeeaaDoorTie
import Derived.Test.YtpbpmpabndgeeaaDoorCards
import Derived.SevenTiedAt
import Derived.RowKitTokens
import Derived.ChangeVars
import Derived.Lay
set_option linter.unusedSimpArgs false
set_option linter.unusedVariables false
namespace Go.Proofs.YtpbpmpabndgeeaaDoor
open Go Go.ChangeShapes Go.WideShapes Go.ChangeAt Go.RowKit
set_option maxRecDepth 100000

def laidRow : List (String × DataW Unit) := Rows.prettyDeepRow.laid
theorem pd_lifted (os : Os) (started : os.Started) (H : Type) (enc : TypeId × Value → H) :
    ReturnsInHanded {} Tryd.checked os 3 .any (fun w args => (Rows.prettyDeepSpec.pre enc Tryd.prog Tryd.f3 [] false w args ∧ laidMetH Tryd.prog laidRow w) ∧ sizedMet enc Tryd.prog Tryd.f3 (OpenSpec.ofChange Rows.prettyDeepSpec) false w args)
      (Rows.prettyDeepSpec.post enc Tryd.prog Tryd.f3 false true false false) := by
  refine law_laid (K := noK) (C := Tryd.checked) (tb := 4) own started (by kernel_rfl) Tryd.func3
    (ChangeSpec.witness_shaped (enc := enc) (C := Tryd.checked) (os := os) (X := fun w _ => laidMetH Tryd.prog laidRow w) false (World.laidAll Tryd.prog os laidRow) #[.int .i64 0,.int .i64 0,.bool false] 8 (World.laidAll_os _ _ _)
      (World.shaped_of_ZipB (by kernel_rfl) (by kernel_rfl)) (by kernel_rfl) (by kernel_rfl) (by kernel_rfl)
      (laidMetH_of_parts (laidMet_laidAll (laid := laidRow) _ (by kernel_rfl) (by kernel_rfl)) (by kernel_rfl)))
    bld_ok mixed laidOut rowed_maps full_slices (by kernel_rfl) rfl (by kernel_rfl) rfl ?_ ?_
  · intro ds hl
    match ds,hl with
    | [_,_,_],_ => rfl
  · intro ds l hA
    have hA : ArgsAre Tryd.prog [3,3,4] ds l := hA
    obtain ⟨x,y,z,f,g,k,rfl,h1,h2,h3⟩ := args_three hA
    obtain ⟨n,e1,_⟩ := int_arg (k := .i64) (by kernel_rfl) h1
    obtain ⟨m,e2,_⟩ := int_arg (k := .i64) (by kernel_rfl) h2
    obtain ⟨b,e3⟩ := bool_arg (by kernel_rfl) h3
    rw [e1,e2,e3]
    exact qAll n m b
theorem pd_holds : Rows.PrettyDeepSaid :=
  OpenClaim.holds_of_wide 3 Tryd.f3 rfl rfl rfl rfl rfl rfl rfl ⟨rfl,rfl,rfl,rfl,rfl⟩ rfl rfl rfl rfl rfl (by kernel_rfl) Tryd.func3 (by kernel_rfl)
    (of_decide_eq_true (by kernel_rfl)) (by unfold Func.isWrapper; first | (rw [if_pos (by decide +kernel)]; kernel_rfl) | (rw [if_neg (by decide +kernel)]; exact ⟨rfl,rfl⟩))
    (fun os started H enc _ => pd_lifted os started H enc)
theorem PrettyDeep_card : Rows.PrettyDeepCardSaid :=
  Claim7.holds_tied_plain_at .later [] [.data,.data,.data] true (true,"2f1748a506eb75b58a2f9db195cab0288857b8c287e529567833ff7c5e5a2156") false
    pd_holds (fun _ h => by cases h) (by kernel_rfl) (fun _ h => by cases h) prettyDeep_row_tie rfl ⟨rfl,rfl⟩ (by kernel_rfl) rfl
    (fun f fn hf hfn => by
      obtain rfl : f = 3 := Option.some.inj ((show Tryd.prog.funcNamed "telamon/telamonlaw25.PrettyDeep" = some 3 by kernel_rfl).symm.trans hf) |>.symm
      obtain rfl : fn = Tryd.f3 := (Option.some.inj (Tryd.func3.symm.trans hfn)).symm
      exact ⟨by kernel_rfl,fun j t ht => by
        have h3 : t = 3 ∨ t = 4 := by
          rcases j with _ | _ | _ | j
          · exact .inl (by simpa [Tryd.params3] using ht.symm)
          · exact .inl (by simpa [Tryd.params3] using ht.symm)
          · exact .inr (by simpa [Tryd.params3] using ht.symm)
          · simp [Tryd.params3] at ht
        rcases h3 with rfl | rfl
        · exact (show Tryd.prog.wantsStandIn 3 = false by kernel_rfl)
        · exact (show Tryd.prog.wantsStandIn 4 = false by kernel_rfl)⟩)
    (by kernel_rfl)
end Go.Proofs.YtpbpmpabndgeeaaDoor
