/- Contracts: what is inside a range. -/
import Derived.Test.YtacgcmegjomjjaaDoorBase
namespace Go.Proofs.YtacgcmegjomjjaaDoor
set_option linter.unusedVariables false
set_option linter.unusedSimpArgs false
open Go.RowKit
def insideB (n lo hi : Int) : Bool := decide (lo ≤ n) && decide (n ≤ hi)
theorem insideB_iff {n lo hi : Int} : insideB n lo hi = true ↔ lo ≤ n ∧ n ≤ hi := by simp [insideB]
theorem insideB_not {n lo hi : Int} : insideB n lo hi = false ↔ n < lo ∨ hi < n := by simp [insideB]; omega
end Go.Proofs.YtacgcmegjomjjaaDoor
