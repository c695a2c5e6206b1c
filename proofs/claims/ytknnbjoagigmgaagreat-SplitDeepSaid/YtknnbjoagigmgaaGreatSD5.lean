/- SplitDeep, run at its inputs, n = 5. No condition. -/
import Derived.Test.YtknnbjoagigmgaaGreatUD
import Derived.Test.YtknnbjoagigmgaaGreatTD5
set_option linter.unusedSimpArgs false
set_option linter.unusedVariables false
namespace Go.Proofs.YtknnbjoagigmgaaGreat
open Go
set_option maxRecDepth 100000

theorem sd5_0 : allQ mTD5 uD 100000 5 [[.int .i64 (.ofNat 5),.int .i64 (.ofNat 0)],[.int .i64 (.ofNat 5),.int .i64 (.ofNat 1)],[.int .i64 (.ofNat 5),.int .i64 (.ofNat 2)],[.int .i64 (.ofNat 5),.int .i64 (.ofNat 3)],[.int .i64 (.ofNat 5),.int .i64 (.ofNat 4)],[.int .i64 (.ofNat 5),.int .i64 (.ofNat 5)],[.int .i64 (.ofNat 5),.int .i64 (.ofNat 6)],[.int .i64 (.ofNat 5),.int .i64 (.ofNat 7)],[.int .i64 (.ofNat 5),.int .i64 (.ofNat 8)],[.int .i64 (.ofNat 5),.int .i64 (.ofNat 9)],[.int .i64 (.ofNat 5),.int .i64 (.ofNat 10)],[.int .i64 (.ofNat 5),.int .i64 (.ofNat 11)],[.int .i64 (.ofNat 5),.int .i64 (.ofNat 12)],[.int .i64 (.ofNat 5),.int .i64 (.ofNat 13)],[.int .i64 (.ofNat 5),.int .i64 (.ofNat 14)],[.int .i64 (.ofNat 5),.int .i64 (.ofNat 15)],[.int .i64 (.ofNat 5),.int .i64 (.ofNat 16)],[.int .i64 (.ofNat 5),.int .i64 (.ofNat 17)],[.int .i64 (.ofNat 5),.int .i64 (.ofNat 18)],[.int .i64 (.ofNat 5),.int .i64 (.ofNat 19)],[.int .i64 (.ofNat 5),.int .i64 (.ofNat 20)],[.int .i64 (.ofNat 5),.int .i64 (.ofNat 21)],[.int .i64 (.ofNat 5),.int .i64 (.ofNat 22)],[.int .i64 (.ofNat 5),.int .i64 (.ofNat 23)],[.int .i64 (.ofNat 5),.int .i64 (.ofNat 24)],[.int .i64 (.ofNat 5),.int .i64 (.ofNat 25)],[.int .i64 (.ofNat 5),.int .i64 (.ofNat 26)],[.int .i64 (.ofNat 5),.int .i64 (.ofNat 27)],[.int .i64 (.ofNat 5),.int .i64 (.ofNat 28)],[.int .i64 (.ofNat 5),.int .i64 (.ofNat 29)],[.int .i64 (.ofNat 5),.int .i64 (.ofNat 30)]] = true := by kernel_rfl
theorem sd5_neg (m : Nat) : allQ mTD5 uD 100000 5 [[.int .i64 (.ofNat 5),.int .i64 (.negSucc m)]] = true := by kernel_rfl
theorem sd5_big (m : Nat) : allQ mTD5 uD 100000 5 [[.int .i64 (.ofNat 5),.int .i64 (.ofNat (m + 31))]] = true := by kernel_rfl
theorem sd5_all : ∀ v : Int,isB true (runQ mTD5 uD 100000 5 0 [.int .i64 (.ofNat 5),.int .i64 v]) = true
  | .ofNat 0 => allQ_ok sd5_0 _ (.head _)
  | .ofNat 1 => allQ_ok sd5_0 _ (.tail _ (.head _))
  | .ofNat 2 => allQ_ok sd5_0 _ (.tail _ (.tail _ (.head _)))
  | .ofNat 3 => allQ_ok sd5_0 _ (.tail _ (.tail _ (.tail _ (.head _))))
  | .ofNat 4 => allQ_ok sd5_0 _ (.tail _ (.tail _ (.tail _ (.tail _ (.head _)))))
  | .ofNat 5 => allQ_ok sd5_0 _ (.tail _ (.tail _ (.tail _ (.tail _ (.tail _ (.head _))))))
  | .ofNat 6 => allQ_ok sd5_0 _ (.tail _ (.tail _ (.tail _ (.tail _ (.tail _ (.tail _ (.head _)))))))
  | .ofNat 7 => allQ_ok sd5_0 _ (.tail _ (.tail _ (.tail _ (.tail _ (.tail _ (.tail _ (.tail _ (.head _))))))))
  | .ofNat 8 => allQ_ok sd5_0 _ (.tail _ (.tail _ (.tail _ (.tail _ (.tail _ (.tail _ (.tail _ (.tail _ (.head _)))))))))
  | .ofNat 9 => allQ_ok sd5_0 _ (.tail _ (.tail _ (.tail _ (.tail _ (.tail _ (.tail _ (.tail _ (.tail _ (.tail _ (.head _))))))))))
  | .ofNat 10 => allQ_ok sd5_0 _ (.tail _ (.tail _ (.tail _ (.tail _ (.tail _ (.tail _ (.tail _ (.tail _ (.tail _ (.tail _ (.head _)))))))))))
  | .ofNat 11 => allQ_ok sd5_0 _ (.tail _ (.tail _ (.tail _ (.tail _ (.tail _ (.tail _ (.tail _ (.tail _ (.tail _ (.tail _ (.tail _ (.head _))))))))))))
  | .ofNat 12 => allQ_ok sd5_0 _ (.tail _ (.tail _ (.tail _ (.tail _ (.tail _ (.tail _ (.tail _ (.tail _ (.tail _ (.tail _ (.tail _ (.tail _ (.head _)))))))))))))
  | .ofNat 13 => allQ_ok sd5_0 _ (.tail _ (.tail _ (.tail _ (.tail _ (.tail _ (.tail _ (.tail _ (.tail _ (.tail _ (.tail _ (.tail _ (.tail _ (.tail _ (.head _))))))))))))))
  | .ofNat 14 => allQ_ok sd5_0 _ (.tail _ (.tail _ (.tail _ (.tail _ (.tail _ (.tail _ (.tail _ (.tail _ (.tail _ (.tail _ (.tail _ (.tail _ (.tail _ (.tail _ (.head _)))))))))))))))
  | .ofNat 15 => allQ_ok sd5_0 _ (.tail _ (.tail _ (.tail _ (.tail _ (.tail _ (.tail _ (.tail _ (.tail _ (.tail _ (.tail _ (.tail _ (.tail _ (.tail _ (.tail _ (.tail _ (.head _))))))))))))))))
  | .ofNat 16 => allQ_ok sd5_0 _ (.tail _ (.tail _ (.tail _ (.tail _ (.tail _ (.tail _ (.tail _ (.tail _ (.tail _ (.tail _ (.tail _ (.tail _ (.tail _ (.tail _ (.tail _ (.tail _ (.head _)))))))))))))))))
  | .ofNat 17 => allQ_ok sd5_0 _ (.tail _ (.tail _ (.tail _ (.tail _ (.tail _ (.tail _ (.tail _ (.tail _ (.tail _ (.tail _ (.tail _ (.tail _ (.tail _ (.tail _ (.tail _ (.tail _ (.tail _ (.head _))))))))))))))))))
  | .ofNat 18 => allQ_ok sd5_0 _ (.tail _ (.tail _ (.tail _ (.tail _ (.tail _ (.tail _ (.tail _ (.tail _ (.tail _ (.tail _ (.tail _ (.tail _ (.tail _ (.tail _ (.tail _ (.tail _ (.tail _ (.tail _ (.head _)))))))))))))))))))
  | .ofNat 19 => allQ_ok sd5_0 _ (.tail _ (.tail _ (.tail _ (.tail _ (.tail _ (.tail _ (.tail _ (.tail _ (.tail _ (.tail _ (.tail _ (.tail _ (.tail _ (.tail _ (.tail _ (.tail _ (.tail _ (.tail _ (.tail _ (.head _))))))))))))))))))))
  | .ofNat 20 => allQ_ok sd5_0 _ (.tail _ (.tail _ (.tail _ (.tail _ (.tail _ (.tail _ (.tail _ (.tail _ (.tail _ (.tail _ (.tail _ (.tail _ (.tail _ (.tail _ (.tail _ (.tail _ (.tail _ (.tail _ (.tail _ (.tail _ (.head _)))))))))))))))))))))
  | .ofNat 21 => allQ_ok sd5_0 _ (.tail _ (.tail _ (.tail _ (.tail _ (.tail _ (.tail _ (.tail _ (.tail _ (.tail _ (.tail _ (.tail _ (.tail _ (.tail _ (.tail _ (.tail _ (.tail _ (.tail _ (.tail _ (.tail _ (.tail _ (.tail _ (.head _))))))))))))))))))))))
  | .ofNat 22 => allQ_ok sd5_0 _ (.tail _ (.tail _ (.tail _ (.tail _ (.tail _ (.tail _ (.tail _ (.tail _ (.tail _ (.tail _ (.tail _ (.tail _ (.tail _ (.tail _ (.tail _ (.tail _ (.tail _ (.tail _ (.tail _ (.tail _ (.tail _ (.tail _ (.head _)))))))))))))))))))))))
  | .ofNat 23 => allQ_ok sd5_0 _ (.tail _ (.tail _ (.tail _ (.tail _ (.tail _ (.tail _ (.tail _ (.tail _ (.tail _ (.tail _ (.tail _ (.tail _ (.tail _ (.tail _ (.tail _ (.tail _ (.tail _ (.tail _ (.tail _ (.tail _ (.tail _ (.tail _ (.tail _ (.head _))))))))))))))))))))))))
  | .ofNat 24 => allQ_ok sd5_0 _ (.tail _ (.tail _ (.tail _ (.tail _ (.tail _ (.tail _ (.tail _ (.tail _ (.tail _ (.tail _ (.tail _ (.tail _ (.tail _ (.tail _ (.tail _ (.tail _ (.tail _ (.tail _ (.tail _ (.tail _ (.tail _ (.tail _ (.tail _ (.tail _ (.head _)))))))))))))))))))))))))
  | .ofNat 25 => allQ_ok sd5_0 _ (.tail _ (.tail _ (.tail _ (.tail _ (.tail _ (.tail _ (.tail _ (.tail _ (.tail _ (.tail _ (.tail _ (.tail _ (.tail _ (.tail _ (.tail _ (.tail _ (.tail _ (.tail _ (.tail _ (.tail _ (.tail _ (.tail _ (.tail _ (.tail _ (.tail _ (.head _))))))))))))))))))))))))))
  | .ofNat 26 => allQ_ok sd5_0 _ (.tail _ (.tail _ (.tail _ (.tail _ (.tail _ (.tail _ (.tail _ (.tail _ (.tail _ (.tail _ (.tail _ (.tail _ (.tail _ (.tail _ (.tail _ (.tail _ (.tail _ (.tail _ (.tail _ (.tail _ (.tail _ (.tail _ (.tail _ (.tail _ (.tail _ (.tail _ (.head _)))))))))))))))))))))))))))
  | .ofNat 27 => allQ_ok sd5_0 _ (.tail _ (.tail _ (.tail _ (.tail _ (.tail _ (.tail _ (.tail _ (.tail _ (.tail _ (.tail _ (.tail _ (.tail _ (.tail _ (.tail _ (.tail _ (.tail _ (.tail _ (.tail _ (.tail _ (.tail _ (.tail _ (.tail _ (.tail _ (.tail _ (.tail _ (.tail _ (.tail _ (.head _))))))))))))))))))))))))))))
  | .ofNat 28 => allQ_ok sd5_0 _ (.tail _ (.tail _ (.tail _ (.tail _ (.tail _ (.tail _ (.tail _ (.tail _ (.tail _ (.tail _ (.tail _ (.tail _ (.tail _ (.tail _ (.tail _ (.tail _ (.tail _ (.tail _ (.tail _ (.tail _ (.tail _ (.tail _ (.tail _ (.tail _ (.tail _ (.tail _ (.tail _ (.tail _ (.head _)))))))))))))))))))))))))))))
  | .ofNat 29 => allQ_ok sd5_0 _ (.tail _ (.tail _ (.tail _ (.tail _ (.tail _ (.tail _ (.tail _ (.tail _ (.tail _ (.tail _ (.tail _ (.tail _ (.tail _ (.tail _ (.tail _ (.tail _ (.tail _ (.tail _ (.tail _ (.tail _ (.tail _ (.tail _ (.tail _ (.tail _ (.tail _ (.tail _ (.tail _ (.tail _ (.tail _ (.head _))))))))))))))))))))))))))))))
  | .ofNat 30 => allQ_ok sd5_0 _ (.tail _ (.tail _ (.tail _ (.tail _ (.tail _ (.tail _ (.tail _ (.tail _ (.tail _ (.tail _ (.tail _ (.tail _ (.tail _ (.tail _ (.tail _ (.tail _ (.tail _ (.tail _ (.tail _ (.tail _ (.tail _ (.tail _ (.tail _ (.tail _ (.tail _ (.tail _ (.tail _ (.tail _ (.tail _ (.tail _ (.head _)))))))))))))))))))))))))))))))
  | .ofNat (m + 31) => allQ_ok (sd5_big m) _ (.head _)
  | .negSucc m => allQ_ok (sd5_neg m) _ (.head _)

end Go.Proofs.YtknnbjoagigmgaaGreat
