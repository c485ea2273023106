/- Contracts: FormatInt, the program's and the reference's. -/
import Derived.Test.YtomdknmgadebhaaDoorNum
import Derived.Test.YtomdknmgadebhaaDoorRange
import Derived.Test.YtomdknmgadebhaaDoorOpen
namespace Go.Proofs.YtomdknmgadebhaaDoor
set_option linter.unusedVariables false
set_option linter.unusedSimpArgs false
open Go.RowKit
def fmtOk (n : Int) : Bool := insideB n (-999999) 999999
def fmtV (n : Int) : ByteArray := if fmtOk n = true then itoaB n else ⟨#[]⟩
theorem FormatInt_impl {n : Int} {w : World} (T : Tab w) :
    Calls Tryd.prog 9 #[.int .i64 n] w fun e w' => e = .returned (.tuple #[.string (fmtV n), .bool (fmtOk n)]) ∧ Below w.heap.size w w' := by
  have hi := inside_any n (-999999) 999999
  unfold fmtV
  cases h : fmtOk n
  · unfold fmtOk at h
    rw [h] at hi
    go_enter Tryd.func9, Tryd.ntmps9
    go_wp2_with fail
    refine (hi _).mono ?_
    rintro e w1 ⟨rfl, rfl⟩
    go_wp2_with fail
    go_ret2
    exact ⟨rfl, Below.refl _ _⟩
  · unfold fmtOk at h
    have hb := insideB_iff.1 h
    rw [h] at hi
    go_enter Tryd.func9, Tryd.ntmps9
    go_wp2_with fail
    refine (hi _).mono ?_
    rintro e w1 ⟨rfl, rfl⟩
    go_wp2_with fail
    refine (Itoa_any (by omega) (by omega) T).mono ?_
    rintro e w1 ⟨rfl, hb1⟩
    go_wp2_with fail
    go_ret2
    exact ⟨rfl, hb1⟩
theorem FormatInt_spec {n : Int} {w : World} :
    Calls Tryd.prog 8 #[.int .i64 n] w fun e w' => e = .returned (.tuple #[.string (fmtV n), .bool (fmtOk n)]) ∧ Below w.heap.size w w' := by
  have hi := l1In_any n (-999999) 999999
  unfold fmtV
  cases h : fmtOk n
  · unfold fmtOk at h
    rw [h] at hi
    go_enter Tryd.func8, Tryd.ntmps8
    go_wp2_with fail
    refine (hi _).mono ?_
    rintro e w1 ⟨rfl, rfl⟩
    go_wp2_with fail
    go_ret2
    exact ⟨rfl, Below.refl _ _⟩
  · unfold fmtOk at h
    have hb := insideB_iff.1 h
    rw [h] at hi
    go_enter Tryd.func8, Tryd.ntmps8
    go_wp2_with fail
    refine (hi _).mono ?_
    rintro e w1 ⟨rfl, rfl⟩
    go_wp2_with fail
    refine (l1Num_any (by omega) (by omega)).mono ?_
    rintro e w1 ⟨rfl, hb1⟩
    go_wp2_with fail
    go_ret2
    exact ⟨rfl, hb1⟩
theorem law_FormatInt (w : World) {n : Int} (_hn : I64 n) (T : Tab w) :
    Calls Tryd.prog 3 #[.int .i64 n] w fun e w' => e = .returned (.bool true) ∧ Below w.heap.size w w' := by
  have h1 : ((fmtV n).toList != (fmtV n).toList) = false := by simp
  have h2 : (fmtOk n != fmtOk n) = false := by simp
  generalize hv : fmtV n = v at *
  go_enter Tryd.func3, Tryd.ntmps3
  go_wp2_with fail
  refine FormatInt_spec.mono ?_
  rintro e w1 ⟨rfl, hb⟩
  rw [hv]
  go_wp2_with fail
  refine (FormatInt_impl (T.on hb)).mono ?_
  rintro e w2 ⟨rfl, hb2⟩
  rw [hv]
  go_wp2_with fail
  go_ret
  exact ⟨rfl, hb.trans (hb2.mono hb.size)⟩
end Go.Proofs.YtomdknmgadebhaaDoor
