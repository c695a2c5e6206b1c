/- RecurseDeep: a call by a variable that stands n constructors deep is smaller, and by one of another argument is not: for every n and every answer. No condition. -/
import Derived.Test.YtjagmfgjlfkmgaaRD0
import Derived.Test.YtjagmfgjlfkmgaaRD1
import Derived.Test.YtjagmfgjlfkmgaaRD2
import Derived.Test.YtjagmfgjlfkmgaaRD3
import Derived.Test.YtjagmfgjlfkmgaaRD4
import Derived.Test.YtjagmfgjlfkmgaaRD5
import Derived.Test.YtjagmfgjlfkmgaaA32
import Derived.Test.YtjagmfgjlfkmgaaRows
namespace Go.Proofs.Ytjagmfgjlfkmgaa
open Go Go.ChangeShapes Go.WideShapes Go.ChangeAt Go.RowKit

theorem rd_run (n : Int) (b : Bool) : ∃ n' h', callFn (LX (cF Go.Proofs.Try.prog)) 0 [] [.int .i64 n, .bool b] (cF Go.Proofs.Try.prog 5) = .ok (.bool true) n' h' := by
  rcases n with n | m
  · by_cases h : n < 31
    · rcases n with _ | n
      · cases b
        · exact closed_run tR_ok rd_zero_false
        · exact closed_run tR_ok rd_zero_true
      rcases n with _ | n
      · cases b
        · exact closed_run tR_ok rd_1_false
        · exact closed_run tR_ok rd_1_true
      rcases n with _ | n
      · cases b
        · exact closed_run tR_ok rd_2_false
        · exact closed_run tR_ok rd_2_true
      rcases n with _ | n
      · cases b
        · exact closed_run tR_ok rd_3_false
        · exact closed_run tR_ok rd_3_true
      rcases n with _ | n
      · cases b
        · exact closed_run tR_ok rd_4_false
        · exact closed_run tR_ok rd_4_true
      rcases n with _ | n
      · cases b
        · exact closed_run tR_ok rd_5_false
        · exact closed_run tR_ok rd_5_true
      rcases n with _ | n
      · cases b
        · exact closed_run tR_ok rd_6_false
        · exact closed_run tR_ok rd_6_true
      rcases n with _ | n
      · cases b
        · exact closed_run tR_ok rd_7_false
        · exact closed_run tR_ok rd_7_true
      rcases n with _ | n
      · cases b
        · exact closed_run tR_ok rd_8_false
        · exact closed_run tR_ok rd_8_true
      rcases n with _ | n
      · cases b
        · exact closed_run tR_ok rd_9_false
        · exact closed_run tR_ok rd_9_true
      rcases n with _ | n
      · cases b
        · exact closed_run tR_ok rd_10_false
        · exact closed_run tR_ok rd_10_true
      rcases n with _ | n
      · cases b
        · exact closed_run tR_ok rd_11_false
        · exact closed_run tR_ok rd_11_true
      rcases n with _ | n
      · cases b
        · exact closed_run tR_ok rd_12_false
        · exact closed_run tR_ok rd_12_true
      rcases n with _ | n
      · cases b
        · exact closed_run tR_ok rd_13_false
        · exact closed_run tR_ok rd_13_true
      rcases n with _ | n
      · cases b
        · exact closed_run tR_ok rd_14_false
        · exact closed_run tR_ok rd_14_true
      rcases n with _ | n
      · cases b
        · exact closed_run tR_ok rd_15_false
        · exact closed_run tR_ok rd_15_true
      rcases n with _ | n
      · cases b
        · exact closed_run tR_ok rd_16_false
        · exact closed_run tR_ok rd_16_true
      rcases n with _ | n
      · cases b
        · exact closed_run tR_ok rd_17_false
        · exact closed_run tR_ok rd_17_true
      rcases n with _ | n
      · cases b
        · exact closed_run tR_ok rd_18_false
        · exact closed_run tR_ok rd_18_true
      rcases n with _ | n
      · cases b
        · exact closed_run tR_ok rd_19_false
        · exact closed_run tR_ok rd_19_true
      rcases n with _ | n
      · cases b
        · exact closed_run tR_ok rd_20_false
        · exact closed_run tR_ok rd_20_true
      rcases n with _ | n
      · cases b
        · exact closed_run tR_ok rd_21_false
        · exact closed_run tR_ok rd_21_true
      rcases n with _ | n
      · cases b
        · exact closed_run tR_ok rd_22_false
        · exact closed_run tR_ok rd_22_true
      rcases n with _ | n
      · cases b
        · exact closed_run tR_ok rd_23_false
        · exact closed_run tR_ok rd_23_true
      rcases n with _ | n
      · cases b
        · exact closed_run tR_ok rd_24_false
        · exact closed_run tR_ok rd_24_true
      rcases n with _ | n
      · cases b
        · exact closed_run tR_ok rd_25_false
        · exact closed_run tR_ok rd_25_true
      rcases n with _ | n
      · cases b
        · exact closed_run tR_ok rd_26_false
        · exact closed_run tR_ok rd_26_true
      rcases n with _ | n
      · cases b
        · exact closed_run tR_ok rd_27_false
        · exact closed_run tR_ok rd_27_true
      rcases n with _ | n
      · cases b
        · exact closed_run tR_ok rd_28_false
        · exact closed_run tR_ok rd_28_true
      rcases n with _ | n
      · cases b
        · exact closed_run tR_ok rd_29_false
        · exact closed_run tR_ok rd_29_true
      rcases n with _ | n
      · cases b
        · exact closed_run tR_ok rd_30_false
        · exact closed_run tR_ok rd_30_true
      omega
    · obtain ⟨m, rfl⟩ : ∃ m, n = m + 31 := ⟨n - 31, by omega⟩
      cases b
      · exact closed_run tR_ok (rd_big_false m)
      · exact closed_run tR_ok (rd_big_true m)
  · cases b
    · exact closed_run tR_ok (rd_neg_false m)
    · exact closed_run tR_ok (rd_neg_true m)

theorem own : ownKnob Go.Proofs.Try.prog.godebug = none := by kernel_rfl
theorem laidOut : laidOutB Go.Proofs.Try.prog = true := by kernel_rfl
theorem rowed_maps : mapsRowed Go.Proofs.Try.prog = true := by kernel_rfl
theorem mixed : Go.Proofs.Try.prog.follows .mixedOrders = true := by kernel_rfl
theorem full_slices : ((List.range Go.Proofs.Try.prog.types.size).all fun t => match Go.Proofs.Try.prog.underlying t with | some (.slice e) => decide (0 < Go.Proofs.Try.prog.cellsOf e) | _ => true) = true := by kernel_rfl

set_option maxRecDepth 100000 in
theorem rd_lifted (os : Os) (started : os.Started) (H : Type) (enc : TypeId × Value → H) :
    ReturnsInHanded {} Go.Proofs.Try.checked os 5 .any (Rows.recurseDeepSpec.pre6 enc Go.Proofs.Try.prog Go.Proofs.Try.f5 Rows.recurseDeepRow.domain false) (Rows.recurseDeepSpec.post enc Go.Proofs.Try.prog Go.Proofs.Try.f5 false true false false) := by
  refine law_lifted (C := Go.Proofs.Try.checked) (tb := 4) own started (by kernel_rfl) Go.Proofs.Try.func5
    (ChangeSpec.witness6 (enc := enc) (C := Go.Proofs.Try.checked) false ⟨#[], #[.int .i64 0, .bool false], []⟩ 8 (by kernel_rfl) (by kernel_rfl) (by kernel_rfl) (by kernel_rfl))
    mixed laidOut rowed_maps full_slices (by kernel_rfl) rfl (by kernel_rfl) rfl ?_ ?_
  · intro ds hl
    match ds, hl with
    | [_, _], _ => rfl
  · intro ds l hA
    have hA : ArgsAre Go.Proofs.Try.prog [3, 4] ds l := hA
    obtain ⟨x, y, f, g, rfl, h1, h2⟩ := args_two hA
    obtain ⟨n, e1, _⟩ := int_arg (k := .i64) (by kernel_rfl) h1
    obtain ⟨b, e2⟩ := bool_arg (by kernel_rfl) h2
    rw [e1, e2]
    exact rd_run n b

theorem RecurseDeep_holds : Rows.RecurseDeepSaid :=
  OpenClaim.holds_of_wide 5 Go.Proofs.Try.f5 rfl rfl rfl rfl rfl rfl rfl ⟨rfl, rfl, rfl, rfl, rfl⟩ rfl rfl rfl rfl rfl (by kernel_rfl) Go.Proofs.Try.func5 (by kernel_rfl)
    (of_decide_eq_true (by kernel_rfl)) (by unfold Func.isWrapper; first | (rw [if_pos (by decide +kernel)]; kernel_rfl) | (rw [if_neg (by decide +kernel)]; exact ⟨rfl, rfl⟩))
    (fun os started H enc _ => rd_lifted os started H enc)

end Go.Proofs.Ytjagmfgjlfkmgaa
