/- RecurseDeep, run at its inputs, part 5. No condition. -/
import Derived.Test.YtjagmfgjlfkmgaaTR
namespace Go.Proofs.Ytjagmfgjlfkmgaa
open Go
set_option maxRecDepth 100000

theorem rd_5_false : isB true (callFn (exec (tR.look (cF Go.Proofs.Try.prog)) 1000) 0 [] [.int .i64 (.ofNat 5), .bool .false] (tR.look (cF Go.Proofs.Try.prog) 5)) = true := by kernel_rfl
theorem rd_5_true : isB true (callFn (exec (tR.look (cF Go.Proofs.Try.prog)) 1000) 0 [] [.int .i64 (.ofNat 5), .bool .true] (tR.look (cF Go.Proofs.Try.prog) 5)) = true := by kernel_rfl
theorem rd_11_false : isB true (callFn (exec (tR.look (cF Go.Proofs.Try.prog)) 1000) 0 [] [.int .i64 (.ofNat 11), .bool .false] (tR.look (cF Go.Proofs.Try.prog) 5)) = true := by kernel_rfl
theorem rd_11_true : isB true (callFn (exec (tR.look (cF Go.Proofs.Try.prog)) 1000) 0 [] [.int .i64 (.ofNat 11), .bool .true] (tR.look (cF Go.Proofs.Try.prog) 5)) = true := by kernel_rfl
theorem rd_17_false : isB true (callFn (exec (tR.look (cF Go.Proofs.Try.prog)) 1000) 0 [] [.int .i64 (.ofNat 17), .bool .false] (tR.look (cF Go.Proofs.Try.prog) 5)) = true := by kernel_rfl
theorem rd_17_true : isB true (callFn (exec (tR.look (cF Go.Proofs.Try.prog)) 1000) 0 [] [.int .i64 (.ofNat 17), .bool .true] (tR.look (cF Go.Proofs.Try.prog) 5)) = true := by kernel_rfl
theorem rd_23_false : isB true (callFn (exec (tR.look (cF Go.Proofs.Try.prog)) 1000) 0 [] [.int .i64 (.ofNat 23), .bool .false] (tR.look (cF Go.Proofs.Try.prog) 5)) = true := by kernel_rfl
theorem rd_23_true : isB true (callFn (exec (tR.look (cF Go.Proofs.Try.prog)) 1000) 0 [] [.int .i64 (.ofNat 23), .bool .true] (tR.look (cF Go.Proofs.Try.prog) 5)) = true := by kernel_rfl
theorem rd_29_false : isB true (callFn (exec (tR.look (cF Go.Proofs.Try.prog)) 1000) 0 [] [.int .i64 (.ofNat 29), .bool .false] (tR.look (cF Go.Proofs.Try.prog) 5)) = true := by kernel_rfl
theorem rd_29_true : isB true (callFn (exec (tR.look (cF Go.Proofs.Try.prog)) 1000) 0 [] [.int .i64 (.ofNat 29), .bool .true] (tR.look (cF Go.Proofs.Try.prog) 5)) = true := by kernel_rfl

end Go.Proofs.Ytjagmfgjlfkmgaa
