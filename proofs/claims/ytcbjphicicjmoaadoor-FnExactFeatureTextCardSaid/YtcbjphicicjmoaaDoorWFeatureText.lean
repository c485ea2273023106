/- The walk of FnExactFeatureText. -/
import Derived.Test.YtcbjphicicjmoaaDoorFtx
import Derived.Test.YtcbjphicicjmoaaDoorFtl
import Derived.Test.YtcbjphicicjmoaaDoorCh
import Derived.Deep.DeepCutAuto
namespace Go.Proofs.YtcbjphicicjmoaaDoor
set_option linter.unusedVariables false
set_option linter.unusedSimpArgs false
open Go.RowKit
set_option maxRecDepth 100000 in
set_option maxHeartbeats 4000000 in
theorem law_FeatureText {a0 : Ft} (w : World) (ia0 : Ft.Ok a0) (T : Tab w) :
    Calls Tryd.prog 5 #[.agg #[.int .i64 a0.code, .string a0.which, .string a0.what, .string a0.look, .string a0.side]] w fun e w' => e = .returned (.bool true) ∧ Below w.heap.size w w' := by
  have Ka0 := Blk.new w 28 a0.cells
  have G : Below w.heap.size w (w.alloc (.cells a0.cells.toArray 28)) := (by repeat (first | exact Below.refl _ _ | refine below_drewN ?_ _ | refine Below.drew ?_ | refine Below.alloc ?_ (by first | omega | (simp; done) | (simp; omega)) _ | refine Below.setCell ?_ (by first | omega | (simp; done) | (simp; omega)) _))
  have vne0 : ((ftV a0).toList != (ftV a0).toList) = false := by simp
  have vne1 : (okFt a0 != okFt a0) = false := by simp
  by_cases hza0 : 1048576 < ((a0.which.size : Int) + a0.what.size + a0.look.size + a0.side.size)
  · go_enter Tryd.func5, Tryd.ntmps5
    obtain ⟨ca00, ca01, ca02, ca03, ca04⟩ := blk5 Ka0
    go_wp2_with fail
    refine (szFeature_any a0 (1048576) _ ia0 (by omega) (by omega)).mono ?_
    rintro e wza0 ⟨rfl, hba0⟩
    rw [if_pos (by omega)]
    clear ca00 ca01 ca02 ca03 ca04
    go_wp2_with fail
    go_ret
    exact ⟨rfl, G.trans (hba0.mono G.size)⟩
  have hla0 : ¬ 1048576 - ((a0.which.size : Int) + a0.what.size + a0.look.size + a0.side.size) < 0 := by omega
  have hma0 : decide (1048576 - ((a0.which.size : Int) + a0.what.size + a0.look.size + a0.side.size) < 0) = false := by simp; omega
  go_enter Tryd.func5, Tryd.ntmps5
  obtain ⟨ca00, ca01, ca02, ca03, ca04⟩ := blk5 Ka0
  go_wp2_with fail
  refine (szFeature_any a0 (1048576) _ ia0 (by omega) (by omega)).mono ?_
  rintro e w1 ⟨rfl, hb⟩
  rw [if_neg (by omega)]
  clear ca00 ca01 ca02 ca03 ca04
  replace Ka0 := Ka0.on hb
  replace G := G.trans (hb.mono G.size)
  clear hb
  obtain ⟨ca00, ca01, ca02, ca03, ca04⟩ := blk5 Ka0
  go_wp2_with fail
  refine (toFeature_b a0 _).mono ?_
  rintro e w2 ⟨rfl, hb⟩
  clear ca00 ca01 ca02 ca03 ca04
  replace Ka0 := Ka0.on hb
  replace G := G.trans (hb.mono G.size)
  clear hb
  go_wp2_with fail
  refine (FeatureText_spec a0).mono ?_
  rintro e w3 ⟨rfl, hb⟩
  replace Ka0 := Ka0.on hb
  replace G := G.trans (hb.mono G.size)
  clear hb
  obtain ⟨ca00, ca01, ca02, ca03, ca04⟩ := blk5 Ka0
  go_wp2_with fail
  refine (toFeature_b a0 _).mono ?_
  rintro e w4 ⟨rfl, hb⟩
  clear ca00 ca01 ca02 ca03 ca04
  replace Ka0 := Ka0.on hb
  replace G := G.trans (hb.mono G.size)
  clear hb
  go_wp2_with fail
  refine (FeatureText_impl a0 (T.on G)).mono ?_
  rintro e w5 ⟨rfl, hb⟩
  replace Ka0 := Ka0.on hb
  replace G := G.trans (hb.mono G.size)
  clear hb
  go_wp2_with fail
  go_ret
  exact ⟨rfl, G⟩
end Go.Proofs.YtcbjphicicjmoaaDoor
