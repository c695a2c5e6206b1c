/- FixForms shows what rows mean, one by one, for every number. No condition. -/
import Derived.Test.YtpbpmpabndgeeaaGreatDoorFR
import Derived.Test.YtpbpmpabndgeeaaGreatDoorFL
set_option linter.unusedSimpArgs false
set_option linter.unusedVariables false
namespace Go.Proofs.YtpbpmpabndgeeaaGreatDoor
open Go
set_option maxRecDepth 100000

theorem mN_ok : MOk (cF Tryz.prog) [⟨6,2,[],[],.ok (.bool true) 2 []⟩] := ⟨rEA_ok,trivial⟩
theorem ff_neg (m : Nat) : allQ [⟨6,2,[],[],.ok (.bool true) 2 []⟩] uF 100000 3 [[.int .i64 (.negSucc m)]] = true := by kernel_rfl
theorem ff_big (m : Nat) : allQ [⟨6,2,[],[],.ok (.bool true) 2 []⟩] uF 100000 3 [[.int .i64 (.ofNat (m + 34))]] = true := by kernel_rfl
theorem ff_run : ∀ n : Int,∃ n' h',callFn (LX (cF Tryz.prog)) 0 [] [.int .i64 n] (cF Tryz.prog 3) = .ok (.bool true) n' h'
  | .ofNat 0 => closed_runQ mF0_ok uF_ok (allQ_ok ff_0 _ (.head _))
  | .ofNat 1 => closed_runQ mF1_ok uF_ok (allQ_ok ff_1 _ (.head _))
  | .ofNat 2 => closed_runQ mF2_ok uF_ok (allQ_ok ff_2 _ (.head _))
  | .ofNat 3 => closed_runQ mF3_ok uF_ok (allQ_ok ff_3 _ (.head _))
  | .ofNat 4 => closed_runQ mF4_ok uF_ok (allQ_ok ff_4 _ (.head _))
  | .ofNat 5 => closed_runQ mF5_ok uF_ok (allQ_ok ff_5 _ (.head _))
  | .ofNat 6 => closed_runQ mF6_ok uF_ok (allQ_ok ff_6 _ (.head _))
  | .ofNat 7 => closed_runQ mF7_ok uF_ok (allQ_ok ff_7 _ (.head _))
  | .ofNat 8 => closed_runQ mF8_ok uF_ok (allQ_ok ff_8 _ (.head _))
  | .ofNat 9 => closed_runQ mF9_ok uF_ok (allQ_ok ff_9 _ (.head _))
  | .ofNat 10 => closed_runQ mF10_ok uF_ok (allQ_ok ff_10 _ (.head _))
  | .ofNat 11 => closed_runQ mF11_ok uF_ok (allQ_ok ff_11 _ (.head _))
  | .ofNat 12 => closed_runQ mF12_ok uF_ok (allQ_ok ff_12 _ (.head _))
  | .ofNat 13 => closed_runQ mF13_ok uF_ok (allQ_ok ff_13 _ (.head _))
  | .ofNat 14 => closed_runQ mF14_ok uF_ok (allQ_ok ff_14 _ (.head _))
  | .ofNat 15 => closed_runQ mF15_ok uF_ok (allQ_ok ff_15 _ (.head _))
  | .ofNat 16 => closed_runQ mF16_ok uF_ok (allQ_ok ff_16 _ (.head _))
  | .ofNat 17 => closed_runQ mF17_ok uF_ok (allQ_ok ff_17 _ (.head _))
  | .ofNat 18 => closed_runQ mF18_ok uF_ok (allQ_ok ff_18 _ (.head _))
  | .ofNat 19 => closed_runQ mF19_ok uF_ok (allQ_ok ff_19 _ (.head _))
  | .ofNat 20 => closed_runQ mF20_ok uF_ok (allQ_ok ff_20 _ (.head _))
  | .ofNat 21 => closed_runQ mF21_ok uF_ok (allQ_ok ff_21 _ (.head _))
  | .ofNat 22 => closed_runQ mF22_ok uF_ok (allQ_ok ff_22 _ (.head _))
  | .ofNat 23 => closed_runQ mF23_ok uF_ok (allQ_ok ff_23 _ (.head _))
  | .ofNat 24 => closed_runQ mF24_ok uF_ok (allQ_ok ff_24 _ (.head _))
  | .ofNat 25 => closed_runQ mF25_ok uF_ok (allQ_ok ff_25 _ (.head _))
  | .ofNat 26 => closed_runQ mF26_ok uF_ok (allQ_ok ff_26 _ (.head _))
  | .ofNat 27 => closed_runQ mF27_ok uF_ok (allQ_ok ff_27 _ (.head _))
  | .ofNat 28 => closed_runQ mF28_ok uF_ok (allQ_ok ff_28 _ (.head _))
  | .ofNat 29 => closed_runQ mF29_ok uF_ok (allQ_ok ff_29 _ (.head _))
  | .ofNat 30 => closed_runQ mF30_ok uF_ok (allQ_ok ff_30 _ (.head _))
  | .ofNat 31 => closed_runQ mF31_ok uF_ok (allQ_ok ff_31 _ (.head _))
  | .ofNat 32 => closed_runQ mF32_ok uF_ok (allQ_ok ff_32 _ (.head _))
  | .ofNat 33 => closed_runQ mF33_ok uF_ok (allQ_ok ff_33 _ (.head _))
  | .ofNat (m + 34) => closed_runQ mN_ok uF_ok (allQ_ok (ff_big m) _ (.head _))
  | .negSucc m => closed_runQ mN_ok uF_ok (allQ_ok (ff_neg m) _ (.head _))
theorem FixForms_card : Rows.FixFormsCardSaid := ff_card ff_run
end Go.Proofs.YtpbpmpabndgeeaaGreatDoor
