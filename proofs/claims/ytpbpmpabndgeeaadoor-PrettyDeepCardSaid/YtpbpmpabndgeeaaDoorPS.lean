/- The text of a row of lambdas. -/
import Derived.Test.YtpbpmpabndgeeaaDoorPR
set_option linter.unusedSimpArgs false
set_option linter.unusedVariables false
namespace Go.Proofs.YtpbpmpabndgeeaaDoor
open Go

theorem lam_ok : ∀ hid : Bool,∀ m,m < 31 → ∀ k,k < 41 → checkT (lamN hid ((k : Nat) : Int) m).abs = 0 ∧ saneT (lamN hid ((k : Nat) : Int) m).abs = true := by decide +kernel
end Go.Proofs.YtpbpmpabndgeeaaDoor
