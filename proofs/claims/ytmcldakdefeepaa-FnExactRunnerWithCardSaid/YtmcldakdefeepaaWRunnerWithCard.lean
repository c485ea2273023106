/- The walk of FnExactRunnerWithCard. -/
import Derived.Test.YtmcldakdefeepaaRwc
import Derived.Test.YtmcldakdefeepaaCh
import Derived.Deep.DeepCutAuto
namespace Go.Proofs.Ytmcldakdefeepaa
set_option linter.unusedVariables false
set_option linter.unusedSimpArgs false
open Go.RowKit
set_option maxRecDepth 100000 in
set_option maxHeartbeats 4000000 in
theorem law_RunnerWithCard {R0 : Option Addr} {q0 c0 : Nat} {a0 : List Rn} {a1 : Int} (w : World)
    (ha0 : q0 ≤ maxLen ∧ c0 ≤ maxLen ∧ a0.length = q0 ∧ Rd w w.heap.size 6 R0 q0 (a0.flatMap Rn.cells) ∧ ∀ x ∈ a0, Rn.Ok x) (ia1 : I64 a1) :
    Calls Try.prog 4 #[.slice R0 q0 c0, .int .i64 a1] w fun e w' => e = .returned (.bool true) ∧ Below w.heap.size w w' := by
  obtain ⟨ma0, _, _, ha09, ok0⟩ := ha0
  have ha0 : Rd w w.heap.size 6 R0 q0 (rns a0) := ha09
  have hs0 : ∀ r ∈ a0, r.name.size ≤ maxLen ∧ r.club.size ≤ maxLen := fun r h => ⟨(ok0 r h).2.1, (ok0 r h).2.2.1⟩
  have HS0 := Lib.hid hs0
  clear ha09 ok0
  have La0 := Lib.hid ha0.rlen
  by_cases hbig : 1048576 < q0 + rsz a0
  · have hz9 : szR q0 (rsz a0) = -1 := by unfold szR; rw [if_pos hbig]
    clear hs0
    go_enter Try.func4, Try.ntmps4
    go_wp2_with fail
    refine (szRunnerS_any ha0 ma0 HS0.out).mono ?_
    rintro e w1 ⟨rfl, hb⟩
    rw [hz9]
    go_wp2_with fail
    go_ret
    exact ⟨rfl, hb⟩
  have za0 : q0 ≤ 1048576 := by omega
  have hz9 : szR q0 (rsz a0) = 1048576 - (q0 : Int) - (rsz a0 : Int) := by unfold szR; rw [if_neg hbig]
  have hn9 : ¬ (1048576 - (q0 : Int) - (rsz a0 : Int)) < 0 := by omega
  have hd9 : decide ((1048576 - (q0 : Int) - (rsz a0 : Int)) < 0) = false := by simp; omega
  clear hs0
  have vne1 : (rwOk a0 a1 != rwOk a0 a1) = false := by simp
  go_enter Try.func4, Try.ntmps4
  go_wp2_with fail
  refine (szRunnerS_any ha0 ma0 HS0.out).mono ?_
  rintro e w1 ⟨rfl, G⟩
  rw [hz9]
  go_wp2_with fail
  refine (toRunnerS_b ((ha0.below G).more G.size) za0).mono ?_
  rintro e w2 ⟨gSp, rfl, Sp, hSp, hb⟩
  replace G := G.trans (hb.mono G.size)
  clear hb
  go_wp2_with fail
  refine (RunnerWithCard_spec (Sp.rd (size := 6) (n := q0) (by rw [rns_len, La0.out])) za0 (Nat.le_refl _) HS0.out).mono ?_
  rintro e w3 ⟨rfl, hb⟩
  replace G := G.trans (hb.mono G.size)
  clear hb
  clear Sp hSp
  have Wb := Blk.new w3 30 [.int .i64 (rwR a0 a1).id, .string (rwR a0 a1).name, .string (rwR a0 a1).club, .int .i64 (rwR a0 a1).born, .bool (rwR a0 a1).woman, .int .i64 (rwR a0 a1).card]
  replace G := G.alloc G.size (.cells #[.int .i64 (rwR a0 a1).id, .string (rwR a0 a1).name, .string (rwR a0 a1).club, .int .i64 (rwR a0 a1).born, .bool (rwR a0 a1).woman, .int .i64 (rwR a0 a1).card] 30)
  go_wp2_with fail
  refine (toRunnerS_b ((ha0.below G).more G.size) za0).mono ?_
  rintro e w4 ⟨gY, rfl, Y, hY, hb⟩
  replace Wb := Wb.on hb
  replace G := G.trans (hb.mono G.size)
  clear hb
  have ltY := Y.lt
  go_wp2_with fail
  refine (RunnerWithCard_impl (Y.rd (size := 6) (n := q0) (by rw [rns_len, La0.out])) za0 (Nat.le_refl _) HS0.out).mono ?_
  rintro e w5 ⟨rfl, hb⟩
  replace Wb := Wb.on hb
  replace Y := Y.on hb
  replace G := G.trans (hb.mono G.size)
  clear hb
  have Xb := Blk.new w5 30 [.int .i64 (rwR a0 a1).id, .string (rwR a0 a1).name, .string (rwR a0 a1).club, .int .i64 (rwR a0 a1).born, .bool (rwR a0 a1).woman, .int .i64 (rwR a0 a1).card]
  replace Wb := Wb.alloc (.cells #[.int .i64 (rwR a0 a1).id, .string (rwR a0 a1).name, .string (rwR a0 a1).club, .int .i64 (rwR a0 a1).born, .bool (rwR a0 a1).woman, .int .i64 (rwR a0 a1).card] 30)
  replace Y := Y.alloc (.cells #[.int .i64 (rwR a0 a1).id, .string (rwR a0 a1).name, .string (rwR a0 a1).club, .int .i64 (rwR a0 a1).born, .bool (rwR a0 a1).woman, .int .i64 (rwR a0 a1).card] 30)
  replace G := G.alloc G.size (.cells #[.int .i64 (rwR a0 a1).id, .string (rwR a0 a1).name, .string (rwR a0 a1).club, .int .i64 (rwR a0 a1).born, .bool (rwR a0 a1).woman, .int .i64 (rwR a0 a1).card] 30)
  obtain ⟨wb0, wb1, wb2, wb3, wb4, wb5⟩ := RnAt.blk (r := (rwR a0 a1)) Wb
  simp only [Nat.zero_add] at wb1 wb2 wb3 wb4 wb5
  have ltWb := Wb.lt
  obtain ⟨xb0, xb1, xb2, xb3, xb4, xb5⟩ := RnAt.blk (r := (rwR a0 a1)) Xb
  simp only [Nat.zero_add] at xb1 xb2 xb3 xb4 xb5
  have ltXb := Xb.lt
  go_wp2_with fail
  refine (eqRunner_same (rwR a0 a1) _).mono ?_
  rintro e w6 ⟨rfl, hb⟩
  clear wb0 wb1 wb2 wb3 wb4 wb5 xb0 xb1 xb2 xb3 xb4 xb5
  replace Wb := Wb.on hb
  replace Y := Y.on hb
  replace Xb := Xb.on hb
  replace G := G.trans (hb.mono G.size)
  clear hb
  go_wp2_with fail
  refine (toRunnerS_b ((ha0.below G).more G.size) za0).mono ?_
  rintro e w7 ⟨gTt, rfl, Tt, hTt, hb⟩
  replace Wb := Wb.on hb
  replace Y := Y.on hb
  replace Xb := Xb.on hb
  replace G := G.trans (hb.mono G.size)
  clear hb
  go_wp2_with fail
  refine (eqRunnerS_b (Y.rd (size := 6) (n := q0) (by rw [rns_len, La0.out])) (Tt.rd (size := 6) (n := q0) (by rw [rns_len, La0.out])) za0).mono ?_
  rintro e w8 ⟨rfl, hb⟩
  replace Wb := Wb.on hb
  replace Y := Y.on hb
  replace Xb := Xb.on hb
  replace G := G.trans (hb.mono G.size)
  clear hb
  clear Tt hTt
  go_wp2_with fail
  go_ret
  exact ⟨rfl, G⟩
end Go.Proofs.Ytmcldakdefeepaa
