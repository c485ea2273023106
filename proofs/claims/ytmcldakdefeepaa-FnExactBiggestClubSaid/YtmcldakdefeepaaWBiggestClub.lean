/- The walk of FnExactBiggestClub. -/
import Derived.Test.YtmcldakdefeepaaBig
import Derived.Test.YtmcldakdefeepaaCh
import Derived.Deep.DeepCutAuto
namespace Go.Proofs.Ytmcldakdefeepaa
set_option linter.unusedVariables false
set_option linter.unusedSimpArgs false
open Go.RowKit
set_option maxRecDepth 100000 in
set_option maxHeartbeats 4000000 in
theorem law_BiggestClub {R0 : Option Addr} {q0 c0 : Nat} {a0 : List Rn} (w : World)
    (ha0 : q0 ≤ maxLen ∧ c0 ≤ maxLen ∧ a0.length = q0 ∧ Rd w w.heap.size 6 R0 q0 (a0.flatMap Rn.cells) ∧ ∀ x ∈ a0, Rn.Ok x) :
    Calls Try.prog 9 #[.slice R0 q0 c0] w fun e w' => e = .returned (.bool true) ∧ Below w.heap.size w w' := by
  obtain ⟨ma0, _, _, ha09, ok0⟩ := ha0
  have ha0 : Rd w w.heap.size 6 R0 q0 (rns a0) := ha09
  have hs0 : ∀ r ∈ a0, r.name.size ≤ maxLen ∧ r.club.size ≤ maxLen := fun r h => ⟨(ok0 r h).2.1, (ok0 r h).2.2.1⟩
  have HS0 := Lib.hid hs0
  clear ha09 ok0
  have La0 := Lib.hid ha0.rlen
  by_cases hbig : 1048576 < q0 + rsz a0
  · have hz9 : szR q0 (rsz a0) = -1 := by unfold szR; rw [if_pos hbig]
    clear hs0
    go_enter Try.func9, Try.ntmps9
    go_wp2_with fail
    refine (szRunnerS_any ha0 ma0 HS0.out).mono ?_
    rintro e w1 ⟨rfl, hb⟩
    rw [hz9]
    go_wp2_with fail
    go_ret
    exact ⟨rfl, hb⟩
  have za0 : q0 ≤ 1048576 := by omega
  have hz9 : szR q0 (rsz a0) = 1048576 - (q0 : Int) - (rsz a0 : Int) := by unfold szR; rw [if_neg hbig]
  have hn9 : ¬ (1048576 - (q0 : Int) - (rsz a0 : Int)) < 0 := by omega
  have hd9 : decide ((1048576 - (q0 : Int) - (rsz a0 : Int)) < 0) = false := by simp; omega
  clear hs0
  have vne0 : ((bigC a0).toList != (bigC a0).toList) = false := by simp
  have vne1 : (bigM a0 != bigM a0) = false := by simp
  have vne2 : (bigOk a0 != bigOk a0) = false := by simp
  go_enter Try.func9, Try.ntmps9
  go_wp2_with fail
  refine (szRunnerS_any ha0 ma0 HS0.out).mono ?_
  rintro e w1 ⟨rfl, G⟩
  rw [hz9]
  go_wp2_with fail
  refine (toRunnerS_b ((ha0.below G).more G.size) za0).mono ?_
  rintro e w2 ⟨gSp, rfl, Sp, hSp, hb⟩
  replace G := G.trans (hb.mono G.size)
  clear hb
  go_wp2_with fail
  refine (BiggestClub_spec (Sp.rd (size := 6) (n := q0) (by rw [rns_len, La0.out])) za0 (Nat.le_refl _) HS0.out).mono ?_
  rintro e w3 ⟨rfl, hb⟩
  replace G := G.trans (hb.mono G.size)
  clear hb
  clear Sp hSp
  go_wp2_with fail
  refine (toRunnerS_b ((ha0.below G).more G.size) za0).mono ?_
  rintro e w4 ⟨gY, rfl, Y, hY, hb⟩
  replace G := G.trans (hb.mono G.size)
  clear hb
  have ltY := Y.lt
  go_wp2_with fail
  refine (BiggestClub_impl (Y.rd (size := 6) (n := q0) (by rw [rns_len, La0.out])) za0 (Nat.le_refl _) HS0.out).mono ?_
  rintro e w5 ⟨rfl, hb⟩
  replace Y := Y.on hb
  replace G := G.trans (hb.mono G.size)
  clear hb
  go_wp2_with fail
  refine (toRunnerS_b ((ha0.below G).more G.size) za0).mono ?_
  rintro e w6 ⟨gTt, rfl, Tt, hTt, hb⟩
  replace Y := Y.on hb
  replace G := G.trans (hb.mono G.size)
  clear hb
  go_wp2_with fail
  refine (eqRunnerS_b (Y.rd (size := 6) (n := q0) (by rw [rns_len, La0.out])) (Tt.rd (size := 6) (n := q0) (by rw [rns_len, La0.out])) za0).mono ?_
  rintro e w7 ⟨rfl, hb⟩
  replace Y := Y.on hb
  replace G := G.trans (hb.mono G.size)
  clear hb
  clear Tt hTt
  go_wp2_with fail
  go_ret
  exact ⟨rfl, G⟩
end Go.Proofs.Ytmcldakdefeepaa
