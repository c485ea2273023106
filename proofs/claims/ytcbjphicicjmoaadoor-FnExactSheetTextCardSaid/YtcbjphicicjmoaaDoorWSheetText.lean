/- The walk of FnExactSheetText. -/
import Derived.Test.YtcbjphicicjmoaaDoorSht
import Derived.Test.YtcbjphicicjmoaaDoorFts
import Derived.Test.YtcbjphicicjmoaaDoorCh
import Derived.Test.YtcbjphicicjmoaaDoorCh
import Derived.Deep.DeepCutAuto
namespace Go.Proofs.YtcbjphicicjmoaaDoor
set_option linter.unusedVariables false
set_option linter.unusedSimpArgs false
open Go.RowKit
set_option maxRecDepth 100000 in
set_option maxHeartbeats 4000000 in
theorem law_SheetText {R0 : Option Addr} {q0 c0 : Nat} {a0 : List Ft} (w : World)
    (ha0 : q0 ≤ maxLen ∧ c0 ≤ maxLen ∧ a0.length = q0 ∧ Rd w w.heap.size 5 R0 q0 (a0.flatMap Ft.cells) ∧ ∀ x ∈ a0, Ft.Ok x) (T : Tab w) :
    Calls Tryd.prog 6 #[.slice R0 q0 c0] w fun e w' => e = .returned (.bool true) ∧ Below w.heap.size w w' := by
  obtain ⟨ma0, _, _, ha09, ok0⟩ := ha0
  have ha0 : Rd w w.heap.size 5 R0 q0 (fts a0) := ha09
  have hs0 := ok0
  have HS0 := Lib.hid hs0
  clear ha09 ok0
  have La0 := Lib.hid ha0.flen
  by_cases hbig : 1048576 < q0 + fsz a0
  · have hz9 : szR q0 (fsz a0) = -1 := by unfold szR; rw [if_pos hbig]
    clear hs0
    go_enter Tryd.func6, Tryd.ntmps6
    go_wp2_with fail
    refine (szFeatureS_any ha0 ma0 HS0.out).mono ?_
    rintro e w1 ⟨rfl, hb⟩
    rw [hz9]
    go_wp2_with fail
    go_ret
    exact ⟨rfl, hb⟩
  have za0 : q0 ≤ 1048576 := by omega
  have hz9 : szR q0 (fsz a0) = 1048576 - (q0 : Int) - (fsz a0 : Int) := by unfold szR; rw [if_neg hbig]
  have hn9 : ¬ (1048576 - (q0 : Int) - (fsz a0 : Int)) < 0 := by omega
  have hd9 : decide ((1048576 - (q0 : Int) - (fsz a0 : Int)) < 0) = false := by simp; omega
  clear hs0
  have vne0 : ((shV a0).toList != (shV a0).toList) = false := by simp
  have vne1 : (shOk a0 != shOk a0) = false := by simp
  go_enter Tryd.func6, Tryd.ntmps6
  go_wp2_with fail
  refine (szFeatureS_any ha0 ma0 HS0.out).mono ?_
  rintro e w1 ⟨rfl, G⟩
  rw [hz9]
  go_wp2_with fail
  refine (toFeatureS_b ((ha0.below G).more G.size) za0).mono ?_
  rintro e w2 ⟨gSp, rfl, Sp, hSp, hb⟩
  replace G := G.trans (hb.mono G.size)
  clear hb
  go_wp2_with fail
  refine (SheetText_spec (Sp.rd (size := 5) (n := q0) (by rw [fts_len, La0.out])) za0 (Nat.le_refl _)).mono ?_
  rintro e w3 ⟨rfl, hb⟩
  replace G := G.trans (hb.mono G.size)
  clear hb
  clear Sp hSp
  go_wp2_with fail
  refine (toFeatureS_b ((ha0.below G).more G.size) za0).mono ?_
  rintro e w4 ⟨gY, rfl, Y, hY, hb⟩
  replace G := G.trans (hb.mono G.size)
  clear hb
  have ltY := Y.lt
  go_wp2_with fail
  refine (SheetText_impl (Y.rd (size := 5) (n := q0) (by rw [fts_len, La0.out])) za0 (Nat.le_refl _) (T.on G)).mono ?_
  rintro e w5 ⟨rfl, hb⟩
  replace Y := Y.on hb
  replace G := G.trans (hb.mono G.size)
  clear hb
  go_wp2_with fail
  refine (toFeatureS_b ((ha0.below G).more G.size) za0).mono ?_
  rintro e w6 ⟨gTt, rfl, Tt, hTt, hb⟩
  replace Y := Y.on hb
  replace G := G.trans (hb.mono G.size)
  clear hb
  go_wp2_with fail
  refine (eqFeatureS_b (Y.rd (size := 5) (n := q0) (by rw [fts_len, La0.out])) (Tt.rd (size := 5) (n := q0) (by rw [fts_len, La0.out])) za0).mono ?_
  rintro e w7 ⟨rfl, hb⟩
  replace Y := Y.on hb
  replace G := G.trans (hb.mono G.size)
  clear hb
  clear Tt hTt
  go_wp2_with fail
  go_ret
  exact ⟨rfl, G⟩
end Go.Proofs.YtcbjphicicjmoaaDoor
