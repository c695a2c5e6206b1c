/- RecurseDeep, run at its inputs, part 3. No condition. -/
import Derived.Test.YtjagmfgjlfkmgaaTR
namespace Go.Proofs.Ytjagmfgjlfkmgaa
open Go
set_option maxRecDepth 100000

theorem rd_3_false : isB true (callFn (exec (tR.look (cF Go.Proofs.Try.prog)) 1000) 0 [] [.int .i64 (.ofNat 3), .bool .false] (tR.look (cF Go.Proofs.Try.prog) 5)) = true := by kernel_rfl
theorem rd_3_true : isB true (callFn (exec (tR.look (cF Go.Proofs.Try.prog)) 1000) 0 [] [.int .i64 (.ofNat 3), .bool .true] (tR.look (cF Go.Proofs.Try.prog) 5)) = true := by kernel_rfl
theorem rd_9_false : isB true (callFn (exec (tR.look (cF Go.Proofs.Try.prog)) 1000) 0 [] [.int .i64 (.ofNat 9), .bool .false] (tR.look (cF Go.Proofs.Try.prog) 5)) = true := by kernel_rfl
theorem rd_9_true : isB true (callFn (exec (tR.look (cF Go.Proofs.Try.prog)) 1000) 0 [] [.int .i64 (.ofNat 9), .bool .true] (tR.look (cF Go.Proofs.Try.prog) 5)) = true := by kernel_rfl
theorem rd_15_false : isB true (callFn (exec (tR.look (cF Go.Proofs.Try.prog)) 1000) 0 [] [.int .i64 (.ofNat 15), .bool .false] (tR.look (cF Go.Proofs.Try.prog) 5)) = true := by kernel_rfl
theorem rd_15_true : isB true (callFn (exec (tR.look (cF Go.Proofs.Try.prog)) 1000) 0 [] [.int .i64 (.ofNat 15), .bool .true] (tR.look (cF Go.Proofs.Try.prog) 5)) = true := by kernel_rfl
theorem rd_21_false : isB true (callFn (exec (tR.look (cF Go.Proofs.Try.prog)) 1000) 0 [] [.int .i64 (.ofNat 21), .bool .false] (tR.look (cF Go.Proofs.Try.prog) 5)) = true := by kernel_rfl
theorem rd_21_true : isB true (callFn (exec (tR.look (cF Go.Proofs.Try.prog)) 1000) 0 [] [.int .i64 (.ofNat 21), .bool .true] (tR.look (cF Go.Proofs.Try.prog) 5)) = true := by kernel_rfl
theorem rd_27_false : isB true (callFn (exec (tR.look (cF Go.Proofs.Try.prog)) 1000) 0 [] [.int .i64 (.ofNat 27), .bool .false] (tR.look (cF Go.Proofs.Try.prog) 5)) = true := by kernel_rfl
theorem rd_27_true : isB true (callFn (exec (tR.look (cF Go.Proofs.Try.prog)) 1000) 0 [] [.int .i64 (.ofNat 27), .bool .true] (tR.look (cF Go.Proofs.Try.prog) 5)) = true := by kernel_rfl

end Go.Proofs.Ytjagmfgjlfkmgaa
