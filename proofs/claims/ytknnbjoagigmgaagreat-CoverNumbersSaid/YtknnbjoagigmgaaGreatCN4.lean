/- CoverNumbers, run at its inputs, n = 4. No condition. -/
import Derived.Test.YtknnbjoagigmgaaGreatUV
import Derived.Test.YtknnbjoagigmgaaGreatEV
set_option linter.unusedSimpArgs false
set_option linter.unusedVariables false
namespace Go.Proofs.YtknnbjoagigmgaaGreat
open Go
set_option maxRecDepth 100000

theorem cn4_0 : allQ mEV uV 100000 3 [[.int .i64 (.ofNat 4),.int .i64 (.ofNat 0)]] = true := by kernel_rfl
theorem cn4_1 : allQ mEV uV 100000 3 [[.int .i64 (.ofNat 4),.int .i64 (.ofNat 1)]] = true := by kernel_rfl
theorem cn4_2 : allQ mEV uV 100000 3 [[.int .i64 (.ofNat 4),.int .i64 (.ofNat 2)]] = true := by kernel_rfl
theorem cn4_3 : allQ mEV uV 100000 3 [[.int .i64 (.ofNat 4),.int .i64 (.ofNat 3)]] = true := by kernel_rfl
theorem cn4_4 : allQ mEV uV 100000 3 [[.int .i64 (.ofNat 4),.int .i64 (.ofNat 4)]] = true := by kernel_rfl
theorem cn4_5 : allQ mEV uV 100000 3 [[.int .i64 (.ofNat 4),.int .i64 (.ofNat 5)]] = true := by kernel_rfl
theorem cn4_6 : allQ mEV uV 100000 3 [[.int .i64 (.ofNat 4),.int .i64 (.ofNat 6)]] = true := by kernel_rfl
theorem cn4_neg (m : Nat) : allQ mEV uV 100000 3 [[.int .i64 (.ofNat 4),.int .i64 (.negSucc m)]] = true := by kernel_rfl
theorem cn4_big (m : Nat) : allQ mEV uV 100000 3 [[.int .i64 (.ofNat 4),.int .i64 (.ofNat (m + 7))]] = true := by kernel_rfl
theorem cn4_all : ∀ v : Int,isB true (runQ mEV uV 100000 3 0 [.int .i64 (.ofNat 4),.int .i64 v]) = true
  | .ofNat 0 => allQ_ok cn4_0 _ (.head _)
  | .ofNat 1 => allQ_ok cn4_1 _ (.head _)
  | .ofNat 2 => allQ_ok cn4_2 _ (.head _)
  | .ofNat 3 => allQ_ok cn4_3 _ (.head _)
  | .ofNat 4 => allQ_ok cn4_4 _ (.head _)
  | .ofNat 5 => allQ_ok cn4_5 _ (.head _)
  | .ofNat 6 => allQ_ok cn4_6 _ (.head _)
  | .ofNat (m + 7) => allQ_ok (cn4_big m) _ (.head _)
  | .negSucc m => allQ_ok (cn4_neg m) _ (.head _)

end Go.Proofs.YtknnbjoagigmgaaGreat
