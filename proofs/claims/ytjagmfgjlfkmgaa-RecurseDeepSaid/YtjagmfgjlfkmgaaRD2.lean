/- RecurseDeep, run at its inputs, part 2. No condition. -/
import Derived.Test.YtjagmfgjlfkmgaaTR
namespace Go.Proofs.Ytjagmfgjlfkmgaa
open Go
set_option maxRecDepth 100000

theorem rd_2_false : isB true (callFn (exec (tR.look (cF Go.Proofs.Try.prog)) 1000) 0 [] [.int .i64 (.ofNat 2), .bool .false] (tR.look (cF Go.Proofs.Try.prog) 5)) = true := by kernel_rfl
theorem rd_2_true : isB true (callFn (exec (tR.look (cF Go.Proofs.Try.prog)) 1000) 0 [] [.int .i64 (.ofNat 2), .bool .true] (tR.look (cF Go.Proofs.Try.prog) 5)) = true := by kernel_rfl
theorem rd_8_false : isB true (callFn (exec (tR.look (cF Go.Proofs.Try.prog)) 1000) 0 [] [.int .i64 (.ofNat 8), .bool .false] (tR.look (cF Go.Proofs.Try.prog) 5)) = true := by kernel_rfl
theorem rd_8_true : isB true (callFn (exec (tR.look (cF Go.Proofs.Try.prog)) 1000) 0 [] [.int .i64 (.ofNat 8), .bool .true] (tR.look (cF Go.Proofs.Try.prog) 5)) = true := by kernel_rfl
theorem rd_14_false : isB true (callFn (exec (tR.look (cF Go.Proofs.Try.prog)) 1000) 0 [] [.int .i64 (.ofNat 14), .bool .false] (tR.look (cF Go.Proofs.Try.prog) 5)) = true := by kernel_rfl
theorem rd_14_true : isB true (callFn (exec (tR.look (cF Go.Proofs.Try.prog)) 1000) 0 [] [.int .i64 (.ofNat 14), .bool .true] (tR.look (cF Go.Proofs.Try.prog) 5)) = true := by kernel_rfl
theorem rd_20_false : isB true (callFn (exec (tR.look (cF Go.Proofs.Try.prog)) 1000) 0 [] [.int .i64 (.ofNat 20), .bool .false] (tR.look (cF Go.Proofs.Try.prog) 5)) = true := by kernel_rfl
theorem rd_20_true : isB true (callFn (exec (tR.look (cF Go.Proofs.Try.prog)) 1000) 0 [] [.int .i64 (.ofNat 20), .bool .true] (tR.look (cF Go.Proofs.Try.prog) 5)) = true := by kernel_rfl
theorem rd_26_false : isB true (callFn (exec (tR.look (cF Go.Proofs.Try.prog)) 1000) 0 [] [.int .i64 (.ofNat 26), .bool .false] (tR.look (cF Go.Proofs.Try.prog) 5)) = true := by kernel_rfl
theorem rd_26_true : isB true (callFn (exec (tR.look (cF Go.Proofs.Try.prog)) 1000) 0 [] [.int .i64 (.ofNat 26), .bool .true] (tR.look (cF Go.Proofs.Try.prog) 5)) = true := by kernel_rfl

end Go.Proofs.Ytjagmfgjlfkmgaa
