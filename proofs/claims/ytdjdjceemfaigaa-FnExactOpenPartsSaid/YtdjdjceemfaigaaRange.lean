/- Contracts: what is inside a range. -/
import Derived.Test.YtdjdjceemfaigaaBase
namespace Go.Proofs.Ytdjdjceemfaigaa
set_option linter.unusedVariables false
set_option linter.unusedSimpArgs false
open Go.RowKit
def insideB (n lo hi : Int) : Bool := decide (lo ≤ n) && decide (n ≤ hi)
theorem insideB_iff {n lo hi : Int} : insideB n lo hi = true ↔ lo ≤ n ∧ n ≤ hi := by simp [insideB]
theorem insideB_not {n lo hi : Int} : insideB n lo hi = false ↔ n < lo ∨ hi < n := by simp [insideB]; omega
theorem inside_any (n lo hi : Int) (w : World) : Calls Try.prog 27 #[.int .i64 n, .int .i64 lo, .int .i64 hi] w fun e w' => e = .returned (.bool (insideB n lo hi)) ∧ w = w' := by
  by_cases h1 : lo ≤ n <;> by_cases h2 : n ≤ hi
  all_goals
    go_enter Try.func27, Try.ntmps27
    go_wp2
    go_ret
    exact ⟨ret_bool (by simp [insideB]; omega), rfl⟩
theorem l1In_any (n lo hi : Int) (w : World) : Calls Try.prog 23 #[.int .i64 n, .int .i64 lo, .int .i64 hi] w fun e w' => e = .returned (.bool (insideB n lo hi)) ∧ w = w' := by
  by_cases h1 : lo ≤ n <;> by_cases h2 : n ≤ hi
  all_goals
    go_enter Try.func23, Try.ntmps23
    go_wp2
    go_ret
    exact ⟨ret_bool (by simp [insideB]; omega), rfl⟩
end Go.Proofs.Ytdjdjceemfaigaa
