/- The walk of FnExactTurnSides. -/
import Derived.Test.YtcbjphicicjmoaaTrn
import Derived.Test.YtcbjphicicjmoaaMkt
import Derived.Test.YtcbjphicicjmoaaCh
import Derived.Deep.DeepCutAuto
namespace Go.Proofs.Ytcbjphicicjmoaa
set_option linter.unusedVariables false
set_option linter.unusedSimpArgs false
open Go.RowKit
set_option maxRecDepth 100000 in
set_option maxHeartbeats 4000000 in
theorem law_TurnSides {a0 : Ft} {a1 : Int} (w : World) (ia0 : Ft.Ok a0) (ia1 : I64 a1) :
    Calls Try.prog 5 #[.agg #[.int .i64 a0.code, .string a0.which, .string a0.what, .string a0.look, .string a0.side], .int .i64 a1] w fun e w' => e = .returned (.bool true) ∧ Below w.heap.size w w' := by
  have Ka0 := Blk.new w 29 a0.cells
  have G : Below w.heap.size w (w.alloc (.cells a0.cells.toArray 29)) := (by repeat (first | exact Below.refl _ _ | refine below_drewN ?_ _ | refine Below.drew ?_ | refine Below.alloc ?_ (by first | omega | (simp; done) | (simp; omega)) _ | refine Below.setCell ?_ (by first | omega | (simp; done) | (simp; omega)) _))
  have vne1 : (tsOk a0 a1 != tsOk a0 a1) = false := by simp
  by_cases hza0 : 1048576 < ((a0.which.size : Int) + a0.what.size + a0.look.size + a0.side.size)
  · go_enter Try.func5, Try.ntmps5
    obtain ⟨ca00, ca01, ca02, ca03, ca04⟩ := blk5 Ka0
    go_wp2_with fail
    refine (szFeature_any a0 (1048576) _ ia0 (by omega) (by omega)).mono ?_
    rintro e wza0 ⟨rfl, hba0⟩
    rw [if_pos (by omega)]
    clear ca00 ca01 ca02 ca03 ca04
    go_wp2_with fail
    go_ret
    exact ⟨rfl, G.trans (hba0.mono G.size)⟩
  have hla0 : ¬ 1048576 - ((a0.which.size : Int) + a0.what.size + a0.look.size + a0.side.size) < 0 := by omega
  have hma0 : decide (1048576 - ((a0.which.size : Int) + a0.what.size + a0.look.size + a0.side.size) < 0) = false := by simp; omega
  go_enter Try.func5, Try.ntmps5
  obtain ⟨ca00, ca01, ca02, ca03, ca04⟩ := blk5 Ka0
  go_wp2_with fail
  refine (szFeature_any a0 (1048576) _ ia0 (by omega) (by omega)).mono ?_
  rintro e w1 ⟨rfl, hb⟩
  rw [if_neg (by omega)]
  clear ca00 ca01 ca02 ca03 ca04
  replace Ka0 := Ka0.on hb
  replace G := G.trans (hb.mono G.size)
  clear hb
  obtain ⟨ca00, ca01, ca02, ca03, ca04⟩ := blk5 Ka0
  go_wp2_with fail
  refine (toFeature_b a0 _).mono ?_
  rintro e w2 ⟨rfl, hb⟩
  clear ca00 ca01 ca02 ca03 ca04
  replace Ka0 := Ka0.on hb
  replace G := G.trans (hb.mono G.size)
  clear hb
  go_wp2_with fail
  refine (TurnSides_spec a0 a1 _).mono ?_
  rintro e w3 ⟨rfl, hb⟩
  replace Ka0 := Ka0.on hb
  replace G := G.trans (hb.mono G.size)
  clear hb
  have Wb := Blk.new w3 32 [.int .i64 (tsR a0 a1).code, .string (tsR a0 a1).which, .string (tsR a0 a1).what, .string (tsR a0 a1).look, .string (tsR a0 a1).side]
  replace Ka0 := Ka0.alloc (.cells #[.int .i64 (tsR a0 a1).code, .string (tsR a0 a1).which, .string (tsR a0 a1).what, .string (tsR a0 a1).look, .string (tsR a0 a1).side] 32)
  replace G := G.alloc G.size (.cells #[.int .i64 (tsR a0 a1).code, .string (tsR a0 a1).which, .string (tsR a0 a1).what, .string (tsR a0 a1).look, .string (tsR a0 a1).side] 32)
  obtain ⟨ca00, ca01, ca02, ca03, ca04⟩ := blk5 Ka0
  go_wp2_with fail
  refine (toFeature_b a0 _).mono ?_
  rintro e w4 ⟨rfl, hb⟩
  clear ca00 ca01 ca02 ca03 ca04
  replace Ka0 := Ka0.on hb
  replace Wb := Wb.on hb
  replace G := G.trans (hb.mono G.size)
  clear hb
  go_wp2_with fail
  refine (TurnSides_impl a0 a1 _).mono ?_
  rintro e w5 ⟨rfl, hb⟩
  replace Ka0 := Ka0.on hb
  replace Wb := Wb.on hb
  replace G := G.trans (hb.mono G.size)
  clear hb
  have Xb := Blk.new w5 32 [.int .i64 (tsR a0 a1).code, .string (tsR a0 a1).which, .string (tsR a0 a1).what, .string (tsR a0 a1).look, .string (tsR a0 a1).side]
  replace Ka0 := Ka0.alloc (.cells #[.int .i64 (tsR a0 a1).code, .string (tsR a0 a1).which, .string (tsR a0 a1).what, .string (tsR a0 a1).look, .string (tsR a0 a1).side] 32)
  replace Wb := Wb.alloc (.cells #[.int .i64 (tsR a0 a1).code, .string (tsR a0 a1).which, .string (tsR a0 a1).what, .string (tsR a0 a1).look, .string (tsR a0 a1).side] 32)
  replace G := G.alloc G.size (.cells #[.int .i64 (tsR a0 a1).code, .string (tsR a0 a1).which, .string (tsR a0 a1).what, .string (tsR a0 a1).look, .string (tsR a0 a1).side] 32)
  obtain ⟨wb0, wb1, wb2, wb3, wb4⟩ := blk5 Wb
  have ltWb := Wb.lt
  obtain ⟨xb0, xb1, xb2, xb3, xb4⟩ := blk5 Xb
  have ltXb := Xb.lt
  go_wp2_with fail
  refine (eqFeature_same (tsR a0 a1) _).mono ?_
  rintro e w6 ⟨rfl, hb⟩
  clear wb0 wb1 wb2 wb3 wb4 xb0 xb1 xb2 xb3 xb4
  replace Ka0 := Ka0.on hb
  replace Wb := Wb.on hb
  replace Xb := Xb.on hb
  replace G := G.trans (hb.mono G.size)
  clear hb
  go_wp2_with fail
  go_ret
  exact ⟨rfl, G⟩
end Go.Proofs.Ytcbjphicicjmoaa
