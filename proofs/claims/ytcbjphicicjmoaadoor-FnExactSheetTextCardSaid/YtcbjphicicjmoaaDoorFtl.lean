/- Contracts of the law's helpers over features; the reference's IsFeature. -/
import Derived.Test.YtcbjphicicjmoaaDoorIsF
import Derived.Test.YtcbjphicicjmoaaDoorOpenFeature
namespace Go.Proofs.YtcbjphicicjmoaaDoor
set_option linter.unusedVariables false
set_option linter.unusedSimpArgs false
open Go.RowKit
set_option maxHeartbeats 2000000 in
theorem szFeature_any (f : Ft) (left : Int) (w : World) (h : Ft.Ok f) (hl : 0 ≤ left) (hl' : left ≤ 1048576) :
    Calls Tryd.prog 11 #[.agg #[.int .i64 f.code, .string f.which, .string f.what, .string f.look, .string f.side], .int .i64 left] w fun e w' => e = .returned (.int .i64 (if left < ((f.which.size : Int) + f.what.size + f.look.size + f.side.size) then -1 else left - ((f.which.size : Int) + f.what.size + f.look.size + f.side.size))) ∧ Below w.heap.size w w' := by
  obtain ⟨_, h1, h2, h3, h4⟩ := h
  unfold maxLen at h1 h2 h3 h4
  by_cases q1 : left < (f.which.size : Int)
  · rw [if_pos (by omega)]
    go_enter Tryd.func11, Tryd.ntmps11
    go_wp2
    go_ret
    exact ⟨rfl, (by repeat (first | exact Below.refl _ _ | refine below_drewN ?_ _ | refine Below.drew ?_ | refine Below.alloc ?_ (by first | omega | (simp; done) | (simp; omega)) _ | refine Below.setCell ?_ (by first | omega | (simp; done) | (simp; omega)) _))⟩
  · by_cases q2 : left - (f.which.size : Int) < (f.what.size : Int)
    · rw [if_pos (by omega)]
      go_enter Tryd.func11, Tryd.ntmps11
      go_wp2
      go_ret
      exact ⟨rfl, (by repeat (first | exact Below.refl _ _ | refine below_drewN ?_ _ | refine Below.drew ?_ | refine Below.alloc ?_ (by first | omega | (simp; done) | (simp; omega)) _ | refine Below.setCell ?_ (by first | omega | (simp; done) | (simp; omega)) _))⟩
    · by_cases q3 : left - (f.which.size : Int) - (f.what.size : Int) < (f.look.size : Int)
      · rw [if_pos (by omega)]
        go_enter Tryd.func11, Tryd.ntmps11
        go_wp2
        go_ret
        exact ⟨rfl, (by repeat (first | exact Below.refl _ _ | refine below_drewN ?_ _ | refine Below.drew ?_ | refine Below.alloc ?_ (by first | omega | (simp; done) | (simp; omega)) _ | refine Below.setCell ?_ (by first | omega | (simp; done) | (simp; omega)) _))⟩
      · by_cases q4 : left - (f.which.size : Int) - (f.what.size : Int) - (f.look.size : Int) < (f.side.size : Int)
        · rw [if_pos (by omega)]
          go_enter Tryd.func11, Tryd.ntmps11
          go_wp2
          go_ret
          exact ⟨rfl, (by repeat (first | exact Below.refl _ _ | refine below_drewN ?_ _ | refine Below.drew ?_ | refine Below.alloc ?_ (by first | omega | (simp; done) | (simp; omega)) _ | refine Below.setCell ?_ (by first | omega | (simp; done) | (simp; omega)) _))⟩
        · rw [if_neg (by omega)]
          go_enter Tryd.func11, Tryd.ntmps11
          go_wp2
          go_ret
          exact ⟨ret_int (by omega), (by repeat (first | exact Below.refl _ _ | refine below_drewN ?_ _ | refine Below.drew ?_ | refine Below.alloc ?_ (by first | omega | (simp; done) | (simp; omega)) _ | refine Below.setCell ?_ (by first | omega | (simp; done) | (simp; omega)) _))⟩
theorem toFeature_b (f : Ft) (w : World) : Calls Tryd.prog 13 #[.agg #[.int .i64 f.code, .string f.which, .string f.what, .string f.look, .string f.side]] w fun e w' => e = .returned (.agg #[.int .i64 f.code, .string f.which, .string f.what, .string f.look, .string f.side]) ∧ Below w.heap.size w w' := by
  go_enter Tryd.func13, Tryd.ntmps13
  go_wp2_with fail
  exact bodyPost_ret (v := .agg #[.int .i64 f.code, .string f.which, .string f.what, .string f.look, .string f.side]) (by simp [results, Tryd.results13, go_sem]) rfl ⟨rfl, (by repeat (first | exact Below.refl _ _ | refine below_drewN ?_ _ | refine Below.drew ?_ | refine Below.alloc ?_ (by first | omega | (simp; done) | (simp; omega)) _ | refine Below.setCell ?_ (by first | omega | (simp; done) | (simp; omega)) _))⟩
set_option maxHeartbeats 1000000 in
theorem eqFeature_same (f : Ft) (w : World) : Calls Tryd.prog 10 #[.agg #[.int .i64 f.code, .string f.which, .string f.what, .string f.look, .string f.side], .agg #[.int .i64 f.code, .string f.which, .string f.what, .string f.look, .string f.side]] w fun e w' => e = .returned (.bool true) ∧ Below w.heap.size w w' := by
  have n0 : (f.code != f.code) = false := by simp
  go_enter Tryd.func10, Tryd.ntmps10
  go_wp2_with fail
  go_ret
  exact ⟨rfl, (by repeat (first | exact Below.refl _ _ | refine below_drewN ?_ _ | refine Below.drew ?_ | refine Below.alloc ?_ (by first | omega | (simp; done) | (simp; omega)) _ | refine Below.setCell ?_ (by first | omega | (simp; done) | (simp; omega)) _))⟩
end Go.Proofs.YtcbjphicicjmoaaDoor
