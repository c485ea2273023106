/- Contracts of the law's helpers over features; the reference's IsFeature. -/
import Derived.Test.YtmmpcchjalgokaaDoorIsF
import Derived.Test.YtmmpcchjalgokaaDoorOpenFeature
namespace Go.Proofs.YtmmpcchjalgokaaDoor
set_option linter.unusedVariables false
set_option linter.unusedSimpArgs false
open Go.RowKit
set_option maxHeartbeats 1000000 in
theorem eqFeature_same (f : Ft) (w : World) : Calls Tryd.prog 11 #[.agg #[.int .i64 f.code, .string f.which, .string f.what, .string f.look, .string f.side], .agg #[.int .i64 f.code, .string f.which, .string f.what, .string f.look, .string f.side]] w fun e w' => e = .returned (.bool true) ∧ Below w.heap.size w w' := by
  have n0 : (f.code != f.code) = false := by simp
  go_enter Tryd.func11, Tryd.ntmps11
  go_wp2_with fail
  go_ret
  exact ⟨rfl, (by repeat (first | exact Below.refl _ _ | refine below_drewN ?_ _ | refine Below.drew ?_ | refine Below.alloc ?_ (by first | omega | (simp; done) | (simp; omega)) _ | refine Below.setCell ?_ (by first | omega | (simp; done) | (simp; omega)) _))⟩
end Go.Proofs.YtmmpcchjalgokaaDoor
