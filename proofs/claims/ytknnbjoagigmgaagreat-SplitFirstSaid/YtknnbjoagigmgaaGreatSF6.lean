/- SplitFirst, run at its inputs, n = 6. No condition. -/
import Derived.Test.YtknnbjoagigmgaaGreatUF
import Derived.Test.YtknnbjoagigmgaaGreatEB
set_option linter.unusedSimpArgs false
set_option linter.unusedVariables false
namespace Go.Proofs.YtknnbjoagigmgaaGreat
open Go
set_option maxRecDepth 100000

theorem sf6_0 : allQ mEB uF 100000 7 [[.int .i64 (.ofNat 6),.int .i64 (.ofNat 0)],[.int .i64 (.ofNat 6),.int .i64 (.ofNat 1)],[.int .i64 (.ofNat 6),.int .i64 (.ofNat 2)]] = true := by kernel_rfl
theorem sf6_1 : allQ mEB uF 100000 7 [[.int .i64 (.ofNat 6),.int .i64 (.ofNat 3)],[.int .i64 (.ofNat 6),.int .i64 (.ofNat 4)],[.int .i64 (.ofNat 6),.int .i64 (.ofNat 5)]] = true := by kernel_rfl
theorem sf6_2 : allQ mEB uF 100000 7 [[.int .i64 (.ofNat 6),.int .i64 (.ofNat 6)],[.int .i64 (.ofNat 6),.int .i64 (.ofNat 7)],[.int .i64 (.ofNat 6),.int .i64 (.ofNat 8)]] = true := by kernel_rfl
theorem sf6_3 : allQ mEB uF 100000 7 [[.int .i64 (.ofNat 6),.int .i64 (.ofNat 9)],[.int .i64 (.ofNat 6),.int .i64 (.ofNat 10)],[.int .i64 (.ofNat 6),.int .i64 (.ofNat 11)]] = true := by kernel_rfl
theorem sf6_4 : allQ mEB uF 100000 7 [[.int .i64 (.ofNat 6),.int .i64 (.ofNat 12)],[.int .i64 (.ofNat 6),.int .i64 (.ofNat 13)],[.int .i64 (.ofNat 6),.int .i64 (.ofNat 14)]] = true := by kernel_rfl
theorem sf6_5 : allQ mEB uF 100000 7 [[.int .i64 (.ofNat 6),.int .i64 (.ofNat 15)],[.int .i64 (.ofNat 6),.int .i64 (.ofNat 16)],[.int .i64 (.ofNat 6),.int .i64 (.ofNat 17)]] = true := by kernel_rfl
theorem sf6_6 : allQ mEB uF 100000 7 [[.int .i64 (.ofNat 6),.int .i64 (.ofNat 18)],[.int .i64 (.ofNat 6),.int .i64 (.ofNat 19)],[.int .i64 (.ofNat 6),.int .i64 (.ofNat 20)]] = true := by kernel_rfl
theorem sf6_neg (m : Nat) : allQ mEB uF 100000 7 [[.int .i64 (.ofNat 6),.int .i64 (.negSucc m)]] = true := by kernel_rfl
theorem sf6_big (m : Nat) : allQ mEB uF 100000 7 [[.int .i64 (.ofNat 6),.int .i64 (.ofNat (m + 21))]] = true := by kernel_rfl
theorem sf6_all : ∀ v : Int,isB true (runQ mEB uF 100000 7 0 [.int .i64 (.ofNat 6),.int .i64 v]) = true
  | .ofNat 0 => allQ_ok sf6_0 _ (.head _)
  | .ofNat 1 => allQ_ok sf6_0 _ (.tail _ (.head _))
  | .ofNat 2 => allQ_ok sf6_0 _ (.tail _ (.tail _ (.head _)))
  | .ofNat 3 => allQ_ok sf6_1 _ (.head _)
  | .ofNat 4 => allQ_ok sf6_1 _ (.tail _ (.head _))
  | .ofNat 5 => allQ_ok sf6_1 _ (.tail _ (.tail _ (.head _)))
  | .ofNat 6 => allQ_ok sf6_2 _ (.head _)
  | .ofNat 7 => allQ_ok sf6_2 _ (.tail _ (.head _))
  | .ofNat 8 => allQ_ok sf6_2 _ (.tail _ (.tail _ (.head _)))
  | .ofNat 9 => allQ_ok sf6_3 _ (.head _)
  | .ofNat 10 => allQ_ok sf6_3 _ (.tail _ (.head _))
  | .ofNat 11 => allQ_ok sf6_3 _ (.tail _ (.tail _ (.head _)))
  | .ofNat 12 => allQ_ok sf6_4 _ (.head _)
  | .ofNat 13 => allQ_ok sf6_4 _ (.tail _ (.head _))
  | .ofNat 14 => allQ_ok sf6_4 _ (.tail _ (.tail _ (.head _)))
  | .ofNat 15 => allQ_ok sf6_5 _ (.head _)
  | .ofNat 16 => allQ_ok sf6_5 _ (.tail _ (.head _))
  | .ofNat 17 => allQ_ok sf6_5 _ (.tail _ (.tail _ (.head _)))
  | .ofNat 18 => allQ_ok sf6_6 _ (.head _)
  | .ofNat 19 => allQ_ok sf6_6 _ (.tail _ (.head _))
  | .ofNat 20 => allQ_ok sf6_6 _ (.tail _ (.tail _ (.head _)))
  | .ofNat (m + 21) => allQ_ok (sf6_big m) _ (.head _)
  | .negSucc m => allQ_ok (sf6_neg m) _ (.head _)

end Go.Proofs.YtknnbjoagigmgaaGreat
