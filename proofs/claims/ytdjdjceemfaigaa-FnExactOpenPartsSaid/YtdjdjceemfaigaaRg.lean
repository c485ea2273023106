/- Steps through a region that draws its order: laws. -/
import Derived.Deep.RegionHeld3
import Derived.Test.YtdjdjceemfaigaaBase
namespace Go.Proofs.Ytdjdjceemfaigaa
set_option linter.unusedVariables false
set_option linter.unusedSimpArgs false
open Go.RowKit
theorem rgSkip {P : Program} {ops : Array Oper} {Q : Exit → Act → World → Prop} {md : Region.Mode} {S : World → Prop} {i d : Nat} {oi : Oper} {fuel : Nat} {listed : Array Bool} {a : Act} {w : World} (hi : ops[i]? = some oi) (hd : oi.dst = some d)
    (hs : Region.noSelect ops = true) (hf : Region.free md ops listed i = true) (hr : (Region.ready md ops listed).contains i = true)
    (hQ : ∀ c a w, Q (.panic c) (a.put (some d) undef) w → Q (.panic c) a w) (hw : Region.wanted oi (yielded ops a.tmps) = false) (hS : S w)
    (h : wpAnyH P md ops Q S fuel (listed.setIfInBounds i true) (a.put (some d) undef) w) : wpAnyH P md ops Q S (fuel + 1) listed a w := by
  have hQ' : ∀ c a w, Q (.panic c) (a.put oi.dst undef) w → Q (.panic c) a w := by rw [hd]; exact hQ
  have h' : wpAnyH P md ops Q S fuel (listed.setIfInBounds i true) (a.put oi.dst undef) w := by rw [hd]; exact h
  exact wpAnyH_take hi hs hf hr hQ' (Or.inr ⟨hw, rfl⟩) hS h'
theorem rgTake {P : Program} {ops : Array Oper} {Q : Exit → Act → World → Prop} {md : Region.Mode} {S : World → Prop} {i d : Nat} {oi : Oper} {v : Value} {fuel : Nat} {listed : Array Bool} {a : Act} {w : World} (hi : ops[i]? = some oi) (hd : oi.dst = some d)
    (hs : Region.noSelect ops = true) (hf : Region.free md ops listed i = true) (hr : (Region.ready md ops listed).contains i = true)
    (hQ : ∀ c a w, Q (.panic c) (a.put (some d) v) w → Q (.panic c) a w) (hw : Region.wanted oi (yielded ops a.tmps) = true) (hy : ∀ w, S w → (execOp a.eval oi).run P w = .ok (.value v) w) (hS : S w)
    (h : wpAnyH P md ops Q S fuel (listed.setIfInBounds i true) (a.put (some d) v) w) : wpAnyH P md ops Q S (fuel + 1) listed a w := by
  have hQ' : ∀ c a w, Q (.panic c) (a.put oi.dst v) w → Q (.panic c) a w := by rw [hd]; exact hQ
  have h' : wpAnyH P md ops Q S fuel (listed.setIfInBounds i true) (a.put oi.dst v) w := by rw [hd]; exact h
  exact wpAnyH_take hi hs hf hr hQ' (Or.inl ⟨hw, hy⟩) hS h'
end Go.Proofs.Ytdjdjceemfaigaa
