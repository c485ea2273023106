/- What the listed variable 'families' gives the walks. -/
import Derived.Test.YtmmpcchjalgokaaDoorFmo
import Derived.Lib.LaidTab
import Derived.MakeChecks
import Derived.OpenShut
namespace Go.Proofs.YtmmpcchjalgokaaDoor
set_option linter.unusedVariables false
set_option linter.unusedSimpArgs false
open Go.RowKit
theorem str_of {s : ByteArray} {l : Bs} (h : s.data.toList = l) : s = mk l := by
  subst h
  rfl
theorem fams_of {rest : List (String × DataW Unit)} {W : World} (h : laidMet Tryd.prog (("loop.example/g00938/impl.families", Rows.laid_loop_example_g00938_impl_families) :: rest) W) : Fams W := by
  obtain ⟨ps, ⟨g', t', cs, fuel, p, q, hg', ht', hvar, hd, _, _⟩, _⟩ := h
  obtain rfl := Option.some.inj ((show Tryd.prog.globalNamed "loop.example/g00938/impl.families" = some 0 by kernel_rfl).symm.trans hg')
  obtain rfl := Option.some.inj ((show (Tryd.prog.globals[0]?).map (·.type) = some 85 by kernel_rfl).symm.trans ht')
  have hg : Tryd.prog.globalNamed "loop.example/g00938/impl.families" = some 0 := by kernel_rfl
  have c1 : Tryd.prog.cellsOf 9 = 1 := by kernel_rfl
  have c5 : Tryd.prog.cellsOf 85 = 5 := by kernel_rfl
  obtain ⟨xs, m1, rfl, hx, hlen, hn, hel⟩ := DataW.trod_array Tryd.underlying85 hd
  rw [c5] at hlen
  have hx1 : [DataW.lit (.string (FN 0)), .lit (.string (FN 1)), .lit (.string (FN 2)), .lit (.string (FN 3)), .lit (.string (FN 4))] = xs.map (·.1) := by
    have := congrArg Prod.fst hx
    injection this
  have key : ∀ (k : Nat), k < 5 → W.cell? ⟨0, k, none⟩ = some (.string (mk (FN k))) := by
    intro k hk
    have h0 := hel k hk
    rw [c1, Nat.mul_one] at h0
    obtain ⟨x, hxk⟩ : ∃ x, xs[k]? = some x := ⟨xs[k]'(by omega), List.getElem?_eq_getElem _⟩
    rw [hxk] at h0
    obtain ⟨s, e1, e2, _⟩ := DataW.trod_string Tryd.underlying9 h0
    have h3 : (xs.map (·.1))[k]? = some x.1 := by rw [List.getElem?_map, hxk]; rfl
    rw [← hx1, e2] at h3
    have h4 : s.data.toList = FN k := by
      rcases (show k = 0 ∨ k = 1 ∨ k = 2 ∨ k = 3 ∨ k = 4 by omega) with rfl | rfl | rfl | rfl | rfl <;> (simp at h3; exact h3.symm)
    have h5 : cs.toList[k]? = some (.string s) := by
      have := congrArg (fun l => l[0]?) e1
      simpa [List.getElem?_take, List.getElem?_drop] using this
    rw [World.var?_cell hg hvar k, ← Array.getElem?_toList, h5, str_of h4]
  exact ⟨key 0 (by decide), key 1 (by decide), key 2 (by decide), key 3 (by decide), key 4 (by decide)⟩
end Go.Proofs.YtmmpcchjalgokaaDoor
