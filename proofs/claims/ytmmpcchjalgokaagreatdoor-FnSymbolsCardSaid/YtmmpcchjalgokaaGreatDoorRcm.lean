/- Contracts: rBig, rTexts, rInts. -/
import Derived.Test.YtmmpcchjalgokaaGreatDoorCh
import Derived.Test.YtmmpcchjalgokaaGreatDoorStrs
import Derived.Deep.RegionWith
namespace Go.Proofs.YtmmpcchjalgokaaGreatDoor
set_option linter.unusedVariables false
set_option linter.unusedSimpArgs false
open Go.RowKit
theorem rBig_any {A : Option Addr} {n c : Nat} {w : World} (hn : n ≤ maxLen) : Calls Tryz.prog 5 #[.slice A n c] w fun e w' => e = .returned (.bool (decide ((65536 : Int) < (n : Int)))) ∧ Below w.heap.size w w' := by
  by_cases h : (65536 : Int) < (n : Int)
  · have hd : decide ((65536 : Int) < (n : Int)) = true := by simpa using h
    rw [hd]
    go_enter Tryz.func5, Tryz.ntmps5
    go_wp2_with fail
    go_ret
    exact ⟨by first | rfl | (rw [← hd]; rfl) | (simp; omega), Below.refl _ _⟩
  · have hd : decide ((65536 : Int) < (n : Int)) = false := by simpa using h
    rw [hd]
    go_enter Tryz.func5, Tryz.ntmps5
    go_wp2_with fail
    go_ret
    exact ⟨by first | rfl | (rw [← hd]; rfl) | (simp; omega), Below.refl _ _⟩
end Go.Proofs.YtmmpcchjalgokaaGreatDoor
