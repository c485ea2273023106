/- Contracts: the marks that a law lays into a list of runners, and whether they are held. -/
import Derived.Test.YtmmpcchjalgokaaGreatDoorRns
import Derived.Test.YtmmpcchjalgokaaGreatDoorMkt
import Derived.Deep.DeepCutAuto
namespace Go.Proofs.YtmmpcchjalgokaaGreatDoor
set_option linter.unusedVariables false
set_option linter.unusedSimpArgs false
open Go.RowKit
def mkR (k j : Nat) : Rn := ⟨((k + j * 6 : Nat) : Int), mt (k + j * 6 + 1), mt (k + j * 6 + 2), ((k + j * 6 + 3 : Nat) : Int), (((k + j * 6 + 4 : Nat) : Int) % 3 == 0), ((k + j * 6 + 5 : Nat) : Int)⟩
def mksR (k n : Nat) : List Rn := (List.range n).map (mkR k)
theorem mksR_len (k n : Nat) : (mksR k n).length = n := by simp [mksR]
theorem mksR_get {k n j : Nat} (h : j < n) : (mksR k n)[j]'(by rw [mksR_len]; exact h) = mkR k j := by simp [mksR]
end Go.Proofs.YtmmpcchjalgokaaGreatDoor
