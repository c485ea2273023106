/- The walk of FnExactParseFeature. -/
import Derived.Test.YtmmpcchjalgokaaDoorPfs
import Derived.Deep.DeepCutAuto
namespace Go.Proofs.YtmmpcchjalgokaaDoor
set_option linter.unusedVariables false
set_option linter.unusedSimpArgs false
open Go.RowKit
set_option maxRecDepth 100000 in
set_option maxHeartbeats 4000000 in
theorem law_ParseFeature {a0 : ByteArray} (w : World) (ia0 : a0.size ≤ maxLen) (TY : Tab w ∧ Syn w) (M : Mxl w) :
    Calls Tryd.prog 3 #[.string a0] w fun e w' => e = .returned (.bool true) ∧ Below w.heap.size w w' := by
  by_cases hba : (1048576 : Int) < (a0.size : Int)
  · go_enter Tryd.func3, Tryd.ntmps3
    go_wp2_with fail
    go_ret
    exact ⟨rfl, (by repeat (first | exact Below.refl _ _ | refine below_drewN ?_ _ | refine Below.drew ?_ | refine Below.alloc ?_ (by first | omega | (simp; done) | (simp; omega)) _ | refine Below.setCell ?_ (by first | omega | (simp; done) | (simp; omega)) _))⟩
  have hs9 : a0.size ≤ 1048576 := by omega
  have G : Below w.heap.size w w := Below.refl _ _
  have HS := fun W : World => ParseFeature_spec (s := a0) (w := W) hs9
  have HI := fun (W : World) (t : Tab W) (y : Syn W) (m : Mxl W) => ParseFeature_impl (s := a0) (w := W) hs9 t y m
  generalize pfOk a0 = ok9 at *
  generalize pfV a0 = R at *
  have vne : (ok9 != ok9) = false := by simp
  have HSH := Lib.hid HS
  have HIH := Lib.hid HI
  clear HS HI
  go_enter Tryd.func3, Tryd.ntmps3
  go_wp2_with fail
  refine (HSH.out _).mono ?_
  rintro e w1 ⟨rfl, hb⟩
  replace G := G.trans (hb.mono G.size)
  clear hb
  have Wb := Blk.new w1 23 [.int .i64 R.code, .string R.which, .string R.what, .string R.look, .string R.side]
  replace G := G.alloc G.size (.cells #[.int .i64 R.code, .string R.which, .string R.what, .string R.look, .string R.side] 23)
  go_wp2_with fail
  refine (HIH.out _ (TY.1.on G) (TY.2.on G) (M.on G)).mono ?_
  rintro e w2 ⟨rfl, hb⟩
  replace Wb := Wb.on hb
  replace G := G.trans (hb.mono G.size)
  clear hb
  have Xb := Blk.new w2 23 [.int .i64 R.code, .string R.which, .string R.what, .string R.look, .string R.side]
  replace Wb := Wb.alloc (.cells #[.int .i64 R.code, .string R.which, .string R.what, .string R.look, .string R.side] 23)
  replace G := G.alloc G.size (.cells #[.int .i64 R.code, .string R.which, .string R.what, .string R.look, .string R.side] 23)
  obtain ⟨wb0, wb1, wb2, wb3, wb4⟩ := blk5 Wb
  obtain ⟨xb0, xb1, xb2, xb3, xb4⟩ := blk5 Xb
  have ltWb := Wb.lt
  have ltXb := Xb.lt
  go_wp2_with fail
  refine (eqFeature_same R _).mono ?_
  rintro e w3 ⟨rfl, hb⟩
  replace G := G.trans (hb.mono G.size)
  clear hb wb0 wb1 wb2 wb3 wb4 xb0 xb1 xb2 xb3 xb4
  go_wp2_with fail
  go_ret
  exact ⟨rfl, G⟩
end Go.Proofs.YtmmpcchjalgokaaDoor
