/- The walk of FnExactRunnerText. -/
import Derived.Test.YtmcldakdefeepaaDoorRtx
import Derived.Test.YtmcldakdefeepaaDoorCh
import Derived.Deep.DeepCutAuto
namespace Go.Proofs.YtmcldakdefeepaaDoor
set_option linter.unusedVariables false
set_option linter.unusedSimpArgs false
open Go.RowKit
set_option maxRecDepth 100000 in
set_option maxHeartbeats 4000000 in
theorem law_RunnerText {a0 : Rn} (w : World) (ia0 : Rn.Ok a0) (T : Tab w) :
    Calls Tryd.prog 3 #[.agg #[.int .i64 a0.id, .string a0.name, .string a0.club, .int .i64 a0.born, .bool a0.woman, .int .i64 a0.card]] w fun e w' => e = .returned (.bool true) ∧ Below w.heap.size w w' := by
  have Ka0 := Blk.new w 23 a0.cells
  have G : Below w.heap.size w (w.alloc (.cells a0.cells.toArray 23)) := (by repeat (first | exact Below.refl _ _ | refine below_drewN ?_ _ | refine Below.drew ?_ | refine Below.alloc ?_ (by first | omega | (simp; done) | (simp; omega)) _ | refine Below.setCell ?_ (by first | omega | (simp; done) | (simp; omega)) _))
  have vne0 : ((rtV a0).toList != (rtV a0).toList) = false := by simp
  have vne1 : (rnOk a0 != rnOk a0) = false := by simp
  by_cases hza0 : 1048576 < ((a0.name.size : Int) + a0.club.size)
  · go_enter Tryd.func3, Tryd.ntmps3
    obtain ⟨ca00, ca01, ca02, ca03, ca04, ca05⟩ := blk6 Ka0
    go_wp2_with fail
    refine (szRunner_any a0 (1048576) _ ia0.2.1 ia0.2.2.1 (by omega) (by omega)).mono ?_
    rintro e wza0 ⟨rfl, hba0⟩
    rw [if_pos (by omega)]
    clear ca00 ca01 ca02 ca03 ca04 ca05
    go_wp2_with fail
    go_ret
    exact ⟨rfl, G.trans (hba0.mono G.size)⟩
  have hla0 : ¬ 1048576 - ((a0.name.size : Int) + a0.club.size) < 0 := by omega
  have hma0 : decide (1048576 - ((a0.name.size : Int) + a0.club.size) < 0) = false := by simp; omega
  go_enter Tryd.func3, Tryd.ntmps3
  obtain ⟨ca00, ca01, ca02, ca03, ca04, ca05⟩ := blk6 Ka0
  go_wp2_with fail
  refine (szRunner_any a0 (1048576) _ ia0.2.1 ia0.2.2.1 (by omega) (by omega)).mono ?_
  rintro e w1 ⟨rfl, hb⟩
  rw [if_neg (by omega)]
  clear ca00 ca01 ca02 ca03 ca04 ca05
  replace Ka0 := Ka0.on hb
  replace G := G.trans (hb.mono G.size)
  clear hb
  obtain ⟨ca00, ca01, ca02, ca03, ca04, ca05⟩ := blk6 Ka0
  go_wp2_with fail
  refine (toRunner_b a0 _).mono ?_
  rintro e w2 ⟨rfl, hb⟩
  clear ca00 ca01 ca02 ca03 ca04 ca05
  replace Ka0 := Ka0.on hb
  replace G := G.trans (hb.mono G.size)
  clear hb
  go_wp2_with fail
  refine (RunnerText_spec a0 ia0).mono ?_
  rintro e w3 ⟨rfl, hb⟩
  replace Ka0 := Ka0.on hb
  replace G := G.trans (hb.mono G.size)
  clear hb
  obtain ⟨ca00, ca01, ca02, ca03, ca04, ca05⟩ := blk6 Ka0
  go_wp2_with fail
  refine (toRunner_b a0 _).mono ?_
  rintro e w4 ⟨rfl, hb⟩
  clear ca00 ca01 ca02 ca03 ca04 ca05
  replace Ka0 := Ka0.on hb
  replace G := G.trans (hb.mono G.size)
  clear hb
  go_wp2_with fail
  refine (RunnerText_impl a0 ia0 (T.on G)).mono ?_
  rintro e w5 ⟨rfl, hb⟩
  replace Ka0 := Ka0.on hb
  replace G := G.trans (hb.mono G.size)
  clear hb
  go_wp2_with fail
  go_ret
  exact ⟨rfl, G⟩
end Go.Proofs.YtmcldakdefeepaaDoor
