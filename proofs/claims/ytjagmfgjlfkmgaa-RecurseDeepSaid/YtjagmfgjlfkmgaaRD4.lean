/- RecurseDeep, run at its inputs, part 4. No condition. -/
import Derived.Test.YtjagmfgjlfkmgaaTR
namespace Go.Proofs.Ytjagmfgjlfkmgaa
open Go
set_option maxRecDepth 100000

theorem rd_4_false : isB true (callFn (exec (tR.look (cF Go.Proofs.Try.prog)) 1000) 0 [] [.int .i64 (.ofNat 4), .bool .false] (tR.look (cF Go.Proofs.Try.prog) 5)) = true := by kernel_rfl
theorem rd_4_true : isB true (callFn (exec (tR.look (cF Go.Proofs.Try.prog)) 1000) 0 [] [.int .i64 (.ofNat 4), .bool .true] (tR.look (cF Go.Proofs.Try.prog) 5)) = true := by kernel_rfl
theorem rd_10_false : isB true (callFn (exec (tR.look (cF Go.Proofs.Try.prog)) 1000) 0 [] [.int .i64 (.ofNat 10), .bool .false] (tR.look (cF Go.Proofs.Try.prog) 5)) = true := by kernel_rfl
theorem rd_10_true : isB true (callFn (exec (tR.look (cF Go.Proofs.Try.prog)) 1000) 0 [] [.int .i64 (.ofNat 10), .bool .true] (tR.look (cF Go.Proofs.Try.prog) 5)) = true := by kernel_rfl
theorem rd_16_false : isB true (callFn (exec (tR.look (cF Go.Proofs.Try.prog)) 1000) 0 [] [.int .i64 (.ofNat 16), .bool .false] (tR.look (cF Go.Proofs.Try.prog) 5)) = true := by kernel_rfl
theorem rd_16_true : isB true (callFn (exec (tR.look (cF Go.Proofs.Try.prog)) 1000) 0 [] [.int .i64 (.ofNat 16), .bool .true] (tR.look (cF Go.Proofs.Try.prog) 5)) = true := by kernel_rfl
theorem rd_22_false : isB true (callFn (exec (tR.look (cF Go.Proofs.Try.prog)) 1000) 0 [] [.int .i64 (.ofNat 22), .bool .false] (tR.look (cF Go.Proofs.Try.prog) 5)) = true := by kernel_rfl
theorem rd_22_true : isB true (callFn (exec (tR.look (cF Go.Proofs.Try.prog)) 1000) 0 [] [.int .i64 (.ofNat 22), .bool .true] (tR.look (cF Go.Proofs.Try.prog) 5)) = true := by kernel_rfl
theorem rd_28_false : isB true (callFn (exec (tR.look (cF Go.Proofs.Try.prog)) 1000) 0 [] [.int .i64 (.ofNat 28), .bool .false] (tR.look (cF Go.Proofs.Try.prog) 5)) = true := by kernel_rfl
theorem rd_28_true : isB true (callFn (exec (tR.look (cF Go.Proofs.Try.prog)) 1000) 0 [] [.int .i64 (.ofNat 28), .bool .true] (tR.look (cF Go.Proofs.Try.prog) 5)) = true := by kernel_rfl

end Go.Proofs.Ytjagmfgjlfkmgaa
