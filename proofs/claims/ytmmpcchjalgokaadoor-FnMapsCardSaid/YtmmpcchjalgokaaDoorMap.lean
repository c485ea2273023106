/- Contracts: what is inside a range, and a Map made, compared, measured. -/
import Derived.Test.YtmmpcchjalgokaaDoorInts
import Derived.Test.YtmmpcchjalgokaaDoorRange
namespace Go.Proofs.YtmmpcchjalgokaaDoor
set_option linter.unusedVariables false
set_option linter.unusedSimpArgs false
open Go.RowKit
/-- Two Maps of the same data are found equal. -/
theorem eqMap_same {wd ht : Int} {A : Option Addr} {n c : Nat} {B : Option Addr} {m d : Nat} {ri co : List Int} {A' : Option Addr} {c' : Nat} {B' : Option Addr} {d' : Nat} {w : World}
    (hA : Rd w w.heap.size 1 A n (ints ri)) (hB : Rd w w.heap.size 1 B m (ints co)) (hn : n ≤ maxLen) (hm : m ≤ maxLen) (hA' : Rd w w.heap.size 1 A' n (ints ri)) (hB' : Rd w w.heap.size 1 B' m (ints co)) :
    Calls Tryd.prog 29 #[.agg #[.int .i64 wd, .int .i64 ht, .slice A n c, .slice B m d], .agg #[.int .i64 wd, .int .i64 ht, .slice A' n c', .slice B' m d']] w fun e w' =>
      e = .returned (.bool true) ∧ Below w.heap.size w w' := by
  have e1 : (wd != wd) = false := by simp
  have e2 : (ht != ht) = false := by simp
  go_enter Tryd.func29, Tryd.ntmps29
  go_wp2_with fail
  refine (eqIntS_any _ _ _ _ _ _ w.heap.size w.heap.size _ _ _ (by exact hA.below (by repeat (first | exact Below.refl _ _ | refine below_drewN ?_ _ | refine Below.drew ?_ | refine Below.alloc ?_ (by first | omega | (simp; done) | (simp; omega)) _ | refine Below.setCell ?_ (by first | omega | (simp; done) | (simp; omega)) _))) (by exact hA'.below (by repeat (first | exact Below.refl _ _ | refine below_drewN ?_ _ | refine Below.drew ?_ | refine Below.alloc ?_ (by first | omega | (simp; done) | (simp; omega)) _ | refine Below.setCell ?_ (by first | omega | (simp; done) | (simp; omega)) _))) hn hn).mono ?_
  rintro e w1 ⟨rfl, q1, rfl⟩
  simp only [decide_true]
  go_wp2_with fail
  refine (eqIntS_any _ _ _ _ _ _ w.heap.size w.heap.size _ _ _ (by exact hB.below (by repeat (first | exact Below.refl _ _ | refine below_drewN ?_ _ | refine Below.drew ?_ | refine Below.alloc ?_ (by first | omega | (simp; done) | (simp; omega)) _ | refine Below.setCell ?_ (by first | omega | (simp; done) | (simp; omega)) _))) (by exact hB'.below (by repeat (first | exact Below.refl _ _ | refine below_drewN ?_ _ | refine Below.drew ?_ | refine Below.alloc ?_ (by first | omega | (simp; done) | (simp; omega)) _ | refine Below.setCell ?_ (by first | omega | (simp; done) | (simp; omega)) _))) hm hm).mono ?_
  rintro e w1 ⟨rfl, q2, rfl⟩
  simp only [decide_true]
  go_wp2_with fail
  go_ret
  exact ⟨rfl, (by repeat (first | exact Below.refl _ _ | refine below_drewN ?_ _ | refine Below.drew ?_ | refine Below.alloc ?_ (by first | omega | (simp; done) | (simp; omega)) _ | refine Below.setCell ?_ (by first | omega | (simp; done) | (simp; omega)) _))⟩
end Go.Proofs.YtmmpcchjalgokaaDoor
