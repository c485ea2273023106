/- Contracts: which cells a Map has, and which are open; a step's time in the reference. -/
import Derived.Test.YtdjdjceemfaigaaCells
namespace Go.Proofs.Ytdjdjceemfaigaa
set_option linter.unusedVariables false
set_option linter.unusedSimpArgs false
open Go.RowKit
def inM (m : Mp) (c : Int) : Bool := insideB c 0 (m.co.length - 1)
def opM (m : Mp) (c : Int) : Bool := inM m c && decide (0 < coA m c)
theorem inM_iff {m : Mp} {c : Int} : inM m c = true ↔ 0 ≤ c ∧ c < m.co.length := by
  unfold inM; rw [insideB_iff]; omega
theorem opM_iff {m : Mp} {c : Int} : opM m c = true ↔ (0 ≤ c ∧ c < m.co.length) ∧ 0 < coA m c := by
  unfold opM; rw [Bool.and_eq_true, inM_iff, decide_eq_true_eq]
end Go.Proofs.Ytdjdjceemfaigaa
