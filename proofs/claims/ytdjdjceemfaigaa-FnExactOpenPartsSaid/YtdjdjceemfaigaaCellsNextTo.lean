/- Contracts: CellsNextTo and StepTime of the program and of the reference. -/
import Derived.Test.YtdjdjceemfaigaaL2Next
namespace Go.Proofs.Ytdjdjceemfaigaa
set_option linter.unusedVariables false
set_option linter.unusedSimpArgs false
open Go.RowKit
def cntOk (m : Mp) (c : Int) : Bool := okM m && inM m c
def cntR (m : Mp) (c : Int) : List Int := if cntOk m c then nextI m c else []
theorem cntR_36 (m : Mp) (c : Int) : (cntR m c).length ≤ 36 := by
  unfold cntR cntOk
  split
  · next h =>
    rw [Bool.and_eq_true, valid_iff] at h
    unfold nextI; rw [cast_len]; exact nextN_len h.1 _
  · simp
theorem cntR_b (m : Mp) (c : Int) : (cntR m c).length ≤ 1000 := by have := cntR_36 m c; omega
end Go.Proofs.Ytdjdjceemfaigaa
