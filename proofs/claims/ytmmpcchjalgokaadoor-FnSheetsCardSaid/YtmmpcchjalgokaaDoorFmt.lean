/- Contracts: FormatInt, the program's and the reference's. -/
import Derived.Test.YtmmpcchjalgokaaDoorNum
import Derived.Test.YtmmpcchjalgokaaDoorRange
import Derived.Test.YtmmpcchjalgokaaDoorOpen
namespace Go.Proofs.YtmmpcchjalgokaaDoor
set_option linter.unusedVariables false
set_option linter.unusedSimpArgs false
open Go.RowKit
def fmtOk (n : Int) : Bool := insideB n (-999999) 999999
def fmtV (n : Int) : ByteArray := if fmtOk n = true then itoaB n else ⟨#[]⟩
theorem FormatInt_impl {n : Int} {w : World} (T : Tab w) :
    Calls Tryd.prog 34 #[.int .i64 n] w fun e w' => e = .returned (.tuple #[.string (fmtV n), .bool (fmtOk n)]) ∧ Below w.heap.size w w' := by
  have hi := inside_any n (-999999) 999999
  unfold fmtV
  cases h : fmtOk n
  · unfold fmtOk at h
    rw [h] at hi
    go_enter Tryd.func34, Tryd.ntmps34
    go_wp2_with fail
    refine (hi _).mono ?_
    rintro e w1 ⟨rfl, rfl⟩
    go_wp2_with fail
    go_ret2
    exact ⟨rfl, Below.refl _ _⟩
  · unfold fmtOk at h
    have hb := insideB_iff.1 h
    rw [h] at hi
    go_enter Tryd.func34, Tryd.ntmps34
    go_wp2_with fail
    refine (hi _).mono ?_
    rintro e w1 ⟨rfl, rfl⟩
    go_wp2_with fail
    refine (Itoa_any (by omega) (by omega) T).mono ?_
    rintro e w1 ⟨rfl, hb1⟩
    go_wp2_with fail
    go_ret2
    exact ⟨rfl, hb1⟩
theorem FormatInt_spec {n : Int} {w : World} :
    Calls Tryd.prog 35 #[.int .i64 n] w fun e w' => e = .returned (.tuple #[.string (fmtV n), .bool (fmtOk n)]) ∧ Below w.heap.size w w' := by
  have hi := l1In_any n (-999999) 999999
  unfold fmtV
  cases h : fmtOk n
  · unfold fmtOk at h
    rw [h] at hi
    go_enter Tryd.func35, Tryd.ntmps35
    go_wp2_with fail
    refine (hi _).mono ?_
    rintro e w1 ⟨rfl, rfl⟩
    go_wp2_with fail
    go_ret2
    exact ⟨rfl, Below.refl _ _⟩
  · unfold fmtOk at h
    have hb := insideB_iff.1 h
    rw [h] at hi
    go_enter Tryd.func35, Tryd.ntmps35
    go_wp2_with fail
    refine (hi _).mono ?_
    rintro e w1 ⟨rfl, rfl⟩
    go_wp2_with fail
    refine (l1Num_any (by omega) (by omega)).mono ?_
    rintro e w1 ⟨rfl, hb1⟩
    go_wp2_with fail
    go_ret2
    exact ⟨rfl, hb1⟩
end Go.Proofs.YtmmpcchjalgokaaDoor
