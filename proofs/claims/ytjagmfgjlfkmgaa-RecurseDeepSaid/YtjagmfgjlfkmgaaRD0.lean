/- RecurseDeep, run at its inputs, part 0. No condition. -/
import Derived.Test.YtjagmfgjlfkmgaaTR
namespace Go.Proofs.Ytjagmfgjlfkmgaa
open Go
set_option maxRecDepth 100000

theorem rd_6_false : isB true (callFn (exec (tR.look (cF Go.Proofs.Try.prog)) 1000) 0 [] [.int .i64 (.ofNat 6), .bool .false] (tR.look (cF Go.Proofs.Try.prog) 5)) = true := by kernel_rfl
theorem rd_6_true : isB true (callFn (exec (tR.look (cF Go.Proofs.Try.prog)) 1000) 0 [] [.int .i64 (.ofNat 6), .bool .true] (tR.look (cF Go.Proofs.Try.prog) 5)) = true := by kernel_rfl
theorem rd_12_false : isB true (callFn (exec (tR.look (cF Go.Proofs.Try.prog)) 1000) 0 [] [.int .i64 (.ofNat 12), .bool .false] (tR.look (cF Go.Proofs.Try.prog) 5)) = true := by kernel_rfl
theorem rd_12_true : isB true (callFn (exec (tR.look (cF Go.Proofs.Try.prog)) 1000) 0 [] [.int .i64 (.ofNat 12), .bool .true] (tR.look (cF Go.Proofs.Try.prog) 5)) = true := by kernel_rfl
theorem rd_18_false : isB true (callFn (exec (tR.look (cF Go.Proofs.Try.prog)) 1000) 0 [] [.int .i64 (.ofNat 18), .bool .false] (tR.look (cF Go.Proofs.Try.prog) 5)) = true := by kernel_rfl
theorem rd_18_true : isB true (callFn (exec (tR.look (cF Go.Proofs.Try.prog)) 1000) 0 [] [.int .i64 (.ofNat 18), .bool .true] (tR.look (cF Go.Proofs.Try.prog) 5)) = true := by kernel_rfl
theorem rd_24_false : isB true (callFn (exec (tR.look (cF Go.Proofs.Try.prog)) 1000) 0 [] [.int .i64 (.ofNat 24), .bool .false] (tR.look (cF Go.Proofs.Try.prog) 5)) = true := by kernel_rfl
theorem rd_24_true : isB true (callFn (exec (tR.look (cF Go.Proofs.Try.prog)) 1000) 0 [] [.int .i64 (.ofNat 24), .bool .true] (tR.look (cF Go.Proofs.Try.prog) 5)) = true := by kernel_rfl
theorem rd_30_false : isB true (callFn (exec (tR.look (cF Go.Proofs.Try.prog)) 1000) 0 [] [.int .i64 (.ofNat 30), .bool .false] (tR.look (cF Go.Proofs.Try.prog) 5)) = true := by kernel_rfl
theorem rd_30_true : isB true (callFn (exec (tR.look (cF Go.Proofs.Try.prog)) 1000) 0 [] [.int .i64 (.ofNat 30), .bool .true] (tR.look (cF Go.Proofs.Try.prog) 5)) = true := by kernel_rfl
theorem rd_zero_false : isB true (callFn (exec (tR.look (cF Go.Proofs.Try.prog)) 1000) 0 [] [.int .i64 (.ofNat 0), .bool .false] (tR.look (cF Go.Proofs.Try.prog) 5)) = true := by kernel_rfl
theorem rd_neg_false (m : Nat) : isB true (callFn (exec (tR.look (cF Go.Proofs.Try.prog)) 1000) 0 [] [.int .i64 (.negSucc m), .bool .false] (tR.look (cF Go.Proofs.Try.prog) 5)) = true := by kernel_rfl
theorem rd_big_false (m : Nat) : isB true (callFn (exec (tR.look (cF Go.Proofs.Try.prog)) 1000) 0 [] [.int .i64 (.ofNat (m + 31)), .bool .false] (tR.look (cF Go.Proofs.Try.prog) 5)) = true := by kernel_rfl
theorem rd_zero_true : isB true (callFn (exec (tR.look (cF Go.Proofs.Try.prog)) 1000) 0 [] [.int .i64 (.ofNat 0), .bool .true] (tR.look (cF Go.Proofs.Try.prog) 5)) = true := by kernel_rfl
theorem rd_neg_true (m : Nat) : isB true (callFn (exec (tR.look (cF Go.Proofs.Try.prog)) 1000) 0 [] [.int .i64 (.negSucc m), .bool .true] (tR.look (cF Go.Proofs.Try.prog) 5)) = true := by kernel_rfl
theorem rd_big_true (m : Nat) : isB true (callFn (exec (tR.look (cF Go.Proofs.Try.prog)) 1000) 0 [] [.int .i64 (.ofNat (m + 31)), .bool .true] (tR.look (cF Go.Proofs.Try.prog) 5)) = true := by kernel_rfl

end Go.Proofs.Ytjagmfgjlfkmgaa
