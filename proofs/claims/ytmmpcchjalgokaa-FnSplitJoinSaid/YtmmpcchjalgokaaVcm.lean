/- Contracts: vBig, vInts, vMap, vAt. -/
import Derived.Test.YtmmpcchjalgokaaCh
import Derived.Test.YtmmpcchjalgokaaStrs
import Derived.Deep.RegionWith
namespace Go.Proofs.Ytmmpcchjalgokaa
set_option linter.unusedVariables false
set_option linter.unusedSimpArgs false
open Go.RowKit
theorem vBig_any {A : Option Addr} {n c : Nat} {w : World} (hn : n ≤ maxLen) : Calls Try.prog 5 #[.slice A n c] w fun e w' => e = .returned (.bool (decide ((65536 : Int) < (n : Int)))) ∧ Below w.heap.size w w' := by
  by_cases h : (65536 : Int) < (n : Int)
  · have hd : decide ((65536 : Int) < (n : Int)) = true := by simpa using h
    rw [hd]
    go_enter Try.func5, Try.ntmps5
    go_wp2_with fail
    go_ret
    exact ⟨by first | rfl | (rw [← hd]; rfl) | (simp; omega), Below.refl _ _⟩
  · have hd : decide ((65536 : Int) < (n : Int)) = false := by simpa using h
    rw [hd]
    go_enter Try.func5, Try.ntmps5
    go_wp2_with fail
    go_ret
    exact ⟨by first | rfl | (rw [← hd]; rfl) | (simp; omega), Below.refl _ _⟩
end Go.Proofs.Ytmmpcchjalgokaa
