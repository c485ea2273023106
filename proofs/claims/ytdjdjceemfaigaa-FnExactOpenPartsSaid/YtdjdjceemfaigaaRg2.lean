/- Steps through a region that draws its order: more is held from some step on. -/
import Derived.Test.YtdjdjceemfaigaaRg
namespace Go.Proofs.Ytdjdjceemfaigaa
set_option linter.unusedVariables false
set_option linter.unusedSimpArgs false
open Go.RowKit
theorem rgMore {P : Program} {ops : Array Oper} {Q : Exit → Act → World → Prop} {md : Region.Mode} {S S2 : World → Prop} (hs : ∀ w, S2 w → S w) : ∀ (fuel : Nat) (listed : Array Bool) (a : Act) (w : World), wpAnyH P md ops Q S2 fuel listed a w → wpAnyH P md ops Q S fuel listed a w
  | 0, _, _, _, h => h
  | fuel + 1, _, _, _, h => ⟨h.1, fun i hi => wpOp_mono (fun a' w' h' => ⟨hs _ h'.1, rgMore hs fuel _ a' w' h'.2⟩) (h.2 i hi)⟩
/-- From here on more is held. -/
theorem rgAnd {P : Program} {ops : Array Oper} {Q : Exit → Act → World → Prop} {md : Region.Mode} {S : World → Prop} (T : World → Prop) {fuel : Nat} {listed : Array Bool} {a : Act} {w : World} (hS : S w) (hT : T w)
    (h : (S w ∧ T w) → wpAnyH P md ops Q (fun w => S w ∧ T w) fuel listed a w) : wpAnyH P md ops Q S fuel listed a w :=
  rgMore (fun _ h => h.1) fuel listed a w (h ⟨hS, hT⟩)
end Go.Proofs.Ytdjdjceemfaigaa
