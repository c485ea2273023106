/- The copies of a slice, in the form that other walks use. -/
import Derived.Test.YtdjdjceemfaigaaCh
namespace Go.Proofs.Ytdjdjceemfaigaa
set_option linter.unusedVariables false
set_option linter.unusedSimpArgs false
open Go.RowKit
theorem toIntS_b {A : Option Addr} {n c : Nat} {xs : List Int} {w : World} (hA : Rd w w.heap.size 1 A n (ints xs)) (hn : n ≤ 1048576) :
    Calls Try.prog 16 #[.slice A n c] w fun e w' => ∃ g, e = .returned (.slice (some ⟨g, 0, none⟩) n n) ∧ Blk w' g 3 (ints xs) ∧ w.heap.size ≤ g ∧ Below w.heap.size w w' := by
  refine (toIntS_any A n c w.heap.size xs w hA (Nat.le_refl _) hn).mono ?_
  rintro e w' ⟨rfl, rfl⟩
  exact ⟨_, rfl, Blk.new w _ _, Nat.le_refl _, Below.alloc (Below.refl _ _) (Nat.le_refl _) _⟩
end Go.Proofs.Ytdjdjceemfaigaa
