/- The walk of FnExactAddRunner. -/
import Derived.Test.YtmcldakdefeepaaAdd
import Derived.Test.YtmcldakdefeepaaMkr
import Derived.Test.YtmcldakdefeepaaRg2
import Derived.Test.YtmcldakdefeepaaCh
import Derived.Deep.DeepCutAuto
namespace Go.Proofs.Ytmcldakdefeepaa
set_option linter.unusedVariables false
set_option linter.unusedSimpArgs false
open Go.RowKit
set_option maxRecDepth 100000 in
set_option maxHeartbeats 4000000 in
theorem law_AddRunner {R0 : Option Addr} {q0 c0 : Nat} {a0 : List Rn} {a1 : Rn} (w : World)
    (ha0 : q0 ≤ maxLen ∧ c0 ≤ maxLen ∧ a0.length = q0 ∧ Rd w w.heap.size 6 R0 q0 (a0.flatMap Rn.cells) ∧ ∀ x ∈ a0, Rn.Ok x) (ia1 : Rn.Ok a1) :
    Calls Try.prog 8 #[.slice R0 q0 c0, .agg #[.int .i64 a1.id, .string a1.name, .string a1.club, .int .i64 a1.born, .bool a1.woman, .int .i64 a1.card]] w fun e w' => e = .returned (.bool true) ∧ Below w.heap.size w w' := by
  obtain ⟨ma0, _, _, ha09, ok0⟩ := ha0
  have ha0 : Rd w w.heap.size 6 R0 q0 (rns a0) := ha09
  have hs0 : ∀ r ∈ a0, r.name.size ≤ maxLen ∧ r.club.size ≤ maxLen := fun r h => ⟨(ok0 r h).2.1, (ok0 r h).2.2.1⟩
  have HS0 := Lib.hid hs0
  have hsr1 := ia1.2.1
  have hsr2 := ia1.2.2.1
  clear ha09 ok0
  have La0 := Lib.hid ha0.rlen
  have Kr := Blk.new w 46 a1.cells
  have G : Below w.heap.size w (w.alloc (.cells a1.cells.toArray 46)) := (by repeat (first | exact Below.refl _ _ | refine below_drewN ?_ _ | refine Below.drew ?_ | refine Below.alloc ?_ (by first | omega | (simp; done) | (simp; omega)) _ | refine Below.setCell ?_ (by first | omega | (simp; done) | (simp; omega)) _))
  by_cases hbig : 1048576 < q0 + rsz a0
  · have hz9 : szR q0 (rsz a0) = -1 := by unfold szR; rw [if_pos hbig]
    clear hs0
    go_enter Try.func8, Try.ntmps8
    go_wp2_with fail
    refine (szRunnerS_any ((ha0.below G).more G.size) ma0 HS0.out).mono ?_
    rintro e w1 ⟨rfl, hb⟩
    rw [hz9]
    go_wp2_with fail
    go_ret
    exact ⟨rfl, G.trans (hb.mono G.size)⟩
  have za0 : q0 ≤ 1048576 := by omega
  have hz9 : szR q0 (rsz a0) = 1048576 - (q0 : Int) - (rsz a0 : Int) := by unfold szR; rw [if_neg hbig]
  have hn9 : ¬ (1048576 - (q0 : Int) - (rsz a0 : Int)) < 0 := by omega
  have hd9 : decide ((1048576 - (q0 : Int) - (rsz a0 : Int)) < 0) = false := by simp; omega
  clear hs0
  by_cases hbig2 : (1048576 - (q0 : Int) - (rsz a0 : Int)) < a1.name.size + a1.club.size
  · go_enter Try.func8, Try.ntmps8
    go_wp2_with fail
    refine (szRunnerS_any ((ha0.below G).more G.size) ma0 HS0.out).mono ?_
    rintro e w1 ⟨rfl, hb⟩
    rw [hz9]
    obtain ⟨kr0, kr1, kr2, kr3, kr4, kr5⟩ := blk6 (Kr.on hb)
    go_wp2_with fail
    refine (szRunner_any a1 _ _ hsr1 hsr2 (by omega) (by omega)).mono ?_
    rintro e w2 ⟨rfl, hb2⟩
    rw [if_pos (by omega)]
    go_wp2_with fail
    go_ret
    exact ⟨rfl, (G.trans (hb.mono G.size)).trans (hb2.mono (Nat.le_trans G.size hb.size))⟩
  have hn8 : ¬ (1048576 - (q0 : Int) - (rsz a0 : Int) - a1.name.size - a1.club.size) < 0 := by omega
  have hd8 : decide ((1048576 - (q0 : Int) - (rsz a0 : Int) - a1.name.size - a1.club.size) < 0) = false := by simp; omega
  have hRb := adR_b a0 a1
  have hR36 : (adR a0 a1).length ≤ 1048576 := by first | omega | (simp only [maxLen]; omega)
  have okne : ((adOk a0 a1) != (adOk a0 a1)) = false := by simp
  go_enter Try.func8, Try.ntmps8
  go_wp2_with fail
  refine (szRunnerS_any ((ha0.below G).more G.size) ma0 HS0.out).mono ?_
  rintro e w1 ⟨rfl, hb⟩
  rw [hz9]
  replace Kr := Kr.on hb
  replace G := G.trans (hb.mono G.size)
  clear hb
  obtain ⟨kr0, kr1, kr2, kr3, kr4, kr5⟩ := blk6 Kr
  go_wp2_with fail
  refine (szRunner_any a1 _ _ hsr1 hsr2 (by omega) (by omega)).mono ?_
  rintro e w2 ⟨rfl, hb⟩
  rw [if_neg (by omega)]
  clear kr0 kr1 kr2 kr3 kr4 kr5
  replace Kr := Kr.on hb
  replace G := G.trans (hb.mono G.size)
  clear hb
  go_upto_region 8 with (fail)
  go_cut [6, 7] (fun x y wx => ∃ A0 cc0, x = .slice A0 (adR a0 a1).length cc0 ∧ y = .bool (adOk a0 a1) ∧ wx.ownsRow w2.heap.size 30 6 (.slice A0 (adR a0 a1).length cc0) (adR a0 a1).length (rns (adR a0 a1)) ∧ Below w2.heap.size w2 wx)
  case first =>
    refine wp_region_held_drew (S := fun w' => Below w2.heap.size w2 w') (by kernel_rfl) ?_ (fun hHeld => ?_)
    · (try dsimp only)
      exact (by repeat (first | exact Below.refl _ _ | refine below_drewN ?_ _ | refine Below.drew ?_ | refine Below.alloc ?_ (by first | omega | (simp; done) | (simp; omega)) _ | refine Below.setCell ?_ (by first | omega | (simp; done) | (simp; omega)) _))
    refine rgTake (i := 0) (d := 27) (v := ?_) rfl rfl (by kernel_rfl) (by kernel_rfl) (by kernel_rfl) (fun _ _ _ h => h) (by rfl) ?_ (by assumption) ?_
    rotate_left
    · ((intro w hSw); (try dsimp only at hSw); go_simp; (try with_reducible rfl))
    try simp only [Act.put, List.setIfInBounds_toArray, List.set_cons_zero, List.set_cons_succ]
    refine rgTake (i := 2) (d := 29) (v := ?_) rfl rfl (by kernel_rfl) (by kernel_rfl) (by kernel_rfl) (fun _ _ _ h => h) (by rfl) ?_ (by assumption) ?_
    rotate_left
    · ((intro w hSw); (try dsimp only at hSw); (obtain ⟨z0, z1, z2, z3, z4, z5⟩ := blk6 (Kr.on hSw)); go_simp; (try with_reducible rfl))
    try simp only [Act.put, List.setIfInBounds_toArray, List.set_cons_zero, List.set_cons_succ]
    refine wpAnyH_ready (rs := [1]) (by kernel_rfl) (by simp) ?_
    refine AllReadyH.cons rfl (fun K hK => ?_) AllReadyH.nil
    go_simp
    refine (toRunnerS_b ((ha0.below (G.trans (hHeld.mono G.size))).more (G.trans (hHeld.mono G.size)).size) za0).mono ?_; rintro e wy ⟨gSp, rfl, Sp, hSp, hb6⟩
    go_wp2_with fail
    refine hK.out _ _ ?_ (fun hHeld => ?_)
    · (try dsimp only)
      exact hHeld.trans (hb6.mono hHeld.size)
    clear hK K
    try simp only [Act.put, List.setIfInBounds_toArray, List.set_cons_zero, List.set_cons_succ]
    refine wpAnyH_ready (rs := [3]) (by kernel_rfl) (by simp) ?_
    refine AllReadyH.cons rfl (fun K hK => ?_) AllReadyH.nil
    go_simp
    refine (toRunner_b a1 _).mono ?_; rintro e wz ⟨rfl, hb7⟩; (try replace Sp := Sp.on hb7)
    go_wp2_with fail
    refine hK.out _ _ ?_ (fun hHeld => ?_)
    · (try dsimp only)
      exact hHeld.trans (hb7.mono hHeld.size)
    clear hK K
    try simp only [Act.put, List.setIfInBounds_toArray, List.set_cons_zero, List.set_cons_succ]
    refine wpAnyH_ready (rs := [4]) (by kernel_rfl) (by simp) ?_
    refine AllReadyH.cons rfl (fun K hK => ?_) AllReadyH.nil
    go_simp
    have hs9 := hHeld.size; refine (AddRunner_spec (Sp.rd (size := 6) (n := q0) (by rw [rns_len, La0.out])) za0 (Nat.le_refl _) HS0.out ⟨hsr1, hsr2⟩).mono ?_; rintro e wv ⟨A0, cc0, rfl, O9, hb8⟩
    go_wp2_with fail
    refine hK.out _ _ ?_ (fun hHeld => ?_)
    · (try dsimp only)
      exact hHeld.trans (hb8.mono hHeld.size)
    clear hK K
    try simp only [Act.put, List.setIfInBounds_toArray, List.set_cons_zero, List.set_cons_succ]
    refine rgTake (i := 5) (d := 26) (v := ?_) rfl rfl (by kernel_rfl) (by kernel_rfl) (by kernel_rfl) (fun _ _ _ h => h) (by rfl) ?_ (by assumption) ?_
    rotate_left
    · ((intro w hSw); (try dsimp only at hSw); go_simp; (try with_reducible rfl))
    try simp only [Act.put, List.setIfInBounds_toArray, List.set_cons_zero, List.set_cons_succ]
    refine rgTake (i := 6) (d := 32) (v := ?_) rfl rfl (by kernel_rfl) (by kernel_rfl) (by kernel_rfl) (fun _ _ _ h => h) (by rfl) ?_ (by assumption) ?_
    rotate_left
    · ((intro w hSw); (try dsimp only at hSw); go_simp; (try with_reducible rfl))
    try simp only [Act.put, List.setIfInBounds_toArray, List.set_cons_zero, List.set_cons_succ]
    refine rgTake (i := 7) (d := 33) (v := ?_) rfl rfl (by kernel_rfl) (by kernel_rfl) (by kernel_rfl) (fun _ _ _ h => h) (by rfl) ?_ (by assumption) ?_
    rotate_left
    · ((intro w hSw); (try dsimp only at hSw); go_simp; (try with_reducible rfl))
    try simp only [Act.put, List.setIfInBounds_toArray, List.set_cons_zero, List.set_cons_succ]
    refine rgTake (i := 8) (d := 6) (v := ?_) rfl rfl (by kernel_rfl) (by kernel_rfl) (by kernel_rfl) (fun _ _ _ h => h) (by rfl) ?_ (by assumption) ?_
    rotate_left
    · ((intro w hSw); (try dsimp only at hSw); go_simp; (try with_reducible rfl))
    try simp only [Act.put, List.setIfInBounds_toArray, List.set_cons_zero, List.set_cons_succ]
    refine rgTake (i := 9) (d := 7) (v := ?_) rfl rfl (by kernel_rfl) (by kernel_rfl) (by kernel_rfl) (fun _ _ _ h => h) (by rfl) ?_ (by assumption) ?_
    rotate_left
    · ((intro w hSw); (try dsimp only at hSw); go_simp; (try with_reducible rfl))
    try simp only [Act.put, List.setIfInBounds_toArray, List.set_cons_zero, List.set_cons_succ]
    refine wpAnyH_done (by kernel_rfl) ?_ _
    go_wp2_with fail
    go_meet
    exact ⟨A0, cc0, rfl, rfl, own_le O9 hs9, hHeld⟩
  case rest =>
  obtain ⟨A0, cc0, rfl, rfl, O, hb⟩ := hcut
  replace Kr := Kr.on hb
  replace G := G.trans (hb.mono G.size)
  clear hb
  have ltO := Lib.hid (fun k (hk : Value.ownBlock (.slice A0 (adR a0 a1).length cc0) = some k) => (O.lt k hk).2)
  have hq3 := G.size
  have ltKr := Kr.lt
  go_wp2_with fail
  refine (toRunnerS_b ((ha0.below G).more G.size) za0).mono ?_
  rintro e w3 ⟨gY, rfl, Y, hY, hb⟩
  have hszY := hb.size
  replace Kr := Kr.on hb
  replace O := own_below O hb
  replace G := G.trans (hb.mono G.size)
  clear hb
  have ltY := Y.lt
  have hq4 := G.size
  obtain ⟨kr0, kr1, kr2, kr3, kr4, kr5⟩ := blk6 Kr
  go_wp2_with fail
  refine (toRunner_b a1 _).mono ?_
  rintro e w4 ⟨rfl, hb⟩
  clear kr0 kr1 kr2 kr3 kr4 kr5
  have hq5 := hb.size
  replace Kr := Kr.on hb
  replace Y := Y.on hb
  replace O := own_below O hb
  replace G := G.trans (hb.mono G.size)
  clear hb
  go_wp2_with fail
  refine (AddRunner_impl (Y.rd (size := 6) (n := q0) (by rw [rns_len, La0.out])) za0 (Nat.le_refl _) HS0.out ⟨hsr1, hsr2⟩).mono ?_
  rintro e w5 ⟨A1, cc1, rfl, P, hb⟩
  have apO := Lib.hid (own_apart O P (Nat.le_refl _))
  replace Kr := Kr.on hb
  replace Y := Y.on hb
  replace O := own_below O hb
  replace G := G.trans (hb.mono G.size)
  clear hb
  go_wp2_with fail
  refine (eqRunnerS_b (Rd.of_own P) (Rd.of_own O) hR36).mono ?_
  rintro e w6 ⟨rfl, hb⟩
  replace Kr := Kr.on hb
  replace Y := Y.on hb
  replace O := own_below O hb
  replace P := own_below P hb
  replace G := G.trans (hb.mono G.size)
  clear hb
  go_wp2_with fail
  refine (toRunnerS_b ((ha0.below G).more G.size) za0).mono ?_
  rintro e w7 ⟨gTt, rfl, Tt, hTt, hb⟩
  have hszTt := hb.size
  replace Kr := Kr.on hb
  replace Y := Y.on hb
  replace O := own_below O hb
  replace P := own_below P hb
  replace G := G.trans (hb.mono G.size)
  clear hb
  go_wp2_with fail
  refine (eqRunnerS_b (Y.rd (size := 6) (n := q0) (by rw [rns_len, La0.out])) (Tt.rd (size := 6) (n := q0) (by rw [rns_len, La0.out])) za0).mono ?_
  rintro e w8 ⟨rfl, hb⟩
  replace Kr := Kr.on hb
  replace Y := Y.on hb
  replace O := own_below O hb
  replace P := own_below P hb
  replace G := G.trans (hb.mono G.size)
  clear hb
  clear Tt hTt
  go_wp2_with fail
  refine (markRunnerS_any Y La0.out za0).mono ?_
  rintro e w9 ⟨km, rfl, hkm, hc⟩
  clear Y
  replace O := own_ch O hc (fun k hk h => by have := ltO.out k hk; omega)
  replace P := own_ch P hc (fun k hk h => by have := (P.lt k hk).1; omega)
  replace G := Below.ch G hc G.size (by rintro k rfl; omega)
  replace Kr := Kr.ch hc (by omega)
  clear hc
  have r9 : decide (km < 0) = false := by simp; omega
  have r8 : ¬ km < 0 := by omega
  go_wp2_with fail
  refine (eqRunnerS_b (Rd.of_own P) (Rd.of_own O) hR36).mono ?_
  rintro e w10 ⟨rfl, hb⟩
  replace Kr := Kr.on hb
  replace O := own_below O hb
  replace P := own_below P hb
  replace G := G.trans (hb.mono G.size)
  clear hb
  go_wp2_with fail
  refine (markRunnerS_own (k := 1) P (by omega) (by omega) (by omega)).mono ?_
  rintro e w11 ⟨rfl, P2, gr⟩
  replace O := own_ch O (Ch.of_grown (S := fun k => Value.ownBlock (.slice A1 (adR a0 a1).length cc1) = some k) gr (fun _ h => h)) apO.out
  replace G := G.grown gr G.size (fun k hk => by have := (P.lt k hk).1; omega)
  replace Kr := Kr.grown gr (fun h => by have := (P.lt _ h.symm).1; omega)
  replace P := P2
  clear P2 gr
  have r1 : ((1 + ((adR a0 a1).length : Int) * 6) != (1 + ((adR a0 a1).length : Int) * 6)) = false := by simp
  have r2 : (0 : Int) ≤ ((adR a0 a1).length : Int) := Int.natCast_nonneg _
  have r3 : ((adR a0 a1).length : Int) ≤ 2000000 := by omega
  go_wp2_with fail
  refine (heldRunnerS_b (k := 1) (Rd.of_own P) (by omega) (by omega) (by omega)).mono ?_
  rintro e w12 ⟨rfl, hb⟩
  replace Kr := Kr.on hb
  replace O := own_below O hb
  replace P := own_below P hb
  replace G := G.trans (hb.mono G.size)
  clear hb
  go_upto_region 27 with (fail)
  go_cut [14, 15] (fun x y wx => ∃ A0 cc0, x = .slice A0 (adR a0 a1).length cc0 ∧ y = .bool (adOk a0 a1) ∧ wx.ownsRow w12.heap.size 30 6 (.slice A0 (adR a0 a1).length cc0) (adR a0 a1).length (rns (adR a0 a1)) ∧ Below w12.heap.size w12 wx)
  case first =>
    refine wp_region_held_drew (S := fun w' => Below w12.heap.size w12 w') (by kernel_rfl) ?_ (fun hHeld => ?_)
    · (try dsimp only)
      exact (by repeat (first | exact Below.refl _ _ | refine below_drewN ?_ _ | refine Below.drew ?_ | refine Below.alloc ?_ (by first | omega | (simp; done) | (simp; omega)) _ | refine Below.setCell ?_ (by first | omega | (simp; done) | (simp; omega)) _))
    refine rgTake (i := 0) (d := 85) (v := ?_) rfl rfl (by kernel_rfl) (by kernel_rfl) (by kernel_rfl) (fun _ _ _ h => h) (by rfl) ?_ (by assumption) ?_
    rotate_left
    · ((intro w hSw); (try dsimp only at hSw); go_simp; (try with_reducible rfl))
    try simp only [Act.put, List.setIfInBounds_toArray, List.set_cons_zero, List.set_cons_succ]
    refine rgTake (i := 2) (d := 87) (v := ?_) rfl rfl (by kernel_rfl) (by kernel_rfl) (by kernel_rfl) (fun _ _ _ h => h) (by rfl) ?_ (by assumption) ?_
    rotate_left
    · ((intro w hSw); (try dsimp only at hSw); (obtain ⟨z0, z1, z2, z3, z4, z5⟩ := blk6 (Kr.on hSw)); go_simp; (try with_reducible rfl))
    try simp only [Act.put, List.setIfInBounds_toArray, List.set_cons_zero, List.set_cons_succ]
    refine wpAnyH_ready (rs := [1]) (by kernel_rfl) (by simp) ?_
    refine AllReadyH.cons rfl (fun K hK => ?_) AllReadyH.nil
    go_simp
    refine (toRunnerS_b ((ha0.below (G.trans (hHeld.mono G.size))).more (G.trans (hHeld.mono G.size)).size) za0).mono ?_; rintro e wy ⟨gSp, rfl, Sp, hSp, hb6⟩
    go_wp2_with fail
    refine hK.out _ _ ?_ (fun hHeld => ?_)
    · (try dsimp only)
      exact hHeld.trans (hb6.mono hHeld.size)
    clear hK K
    try simp only [Act.put, List.setIfInBounds_toArray, List.set_cons_zero, List.set_cons_succ]
    refine wpAnyH_ready (rs := [3]) (by kernel_rfl) (by simp) ?_
    refine AllReadyH.cons rfl (fun K hK => ?_) AllReadyH.nil
    go_simp
    refine (toRunner_b a1 _).mono ?_; rintro e wz ⟨rfl, hb7⟩; (try replace Sp := Sp.on hb7)
    go_wp2_with fail
    refine hK.out _ _ ?_ (fun hHeld => ?_)
    · (try dsimp only)
      exact hHeld.trans (hb7.mono hHeld.size)
    clear hK K
    try simp only [Act.put, List.setIfInBounds_toArray, List.set_cons_zero, List.set_cons_succ]
    refine wpAnyH_ready (rs := [4]) (by kernel_rfl) (by simp) ?_
    refine AllReadyH.cons rfl (fun K hK => ?_) AllReadyH.nil
    go_simp
    have hs9 := hHeld.size; refine (AddRunner_impl (Sp.rd (size := 6) (n := q0) (by rw [rns_len, La0.out])) za0 (Nat.le_refl _) HS0.out ⟨hsr1, hsr2⟩).mono ?_; rintro e wv ⟨A0, cc0, rfl, O9, hb8⟩
    go_wp2_with fail
    refine hK.out _ _ ?_ (fun hHeld => ?_)
    · (try dsimp only)
      exact hHeld.trans (hb8.mono hHeld.size)
    clear hK K
    try simp only [Act.put, List.setIfInBounds_toArray, List.set_cons_zero, List.set_cons_succ]
    refine rgTake (i := 5) (d := 84) (v := ?_) rfl rfl (by kernel_rfl) (by kernel_rfl) (by kernel_rfl) (fun _ _ _ h => h) (by rfl) ?_ (by assumption) ?_
    rotate_left
    · ((intro w hSw); (try dsimp only at hSw); go_simp; (try with_reducible rfl))
    try simp only [Act.put, List.setIfInBounds_toArray, List.set_cons_zero, List.set_cons_succ]
    refine rgTake (i := 6) (d := 90) (v := ?_) rfl rfl (by kernel_rfl) (by kernel_rfl) (by kernel_rfl) (fun _ _ _ h => h) (by rfl) ?_ (by assumption) ?_
    rotate_left
    · ((intro w hSw); (try dsimp only at hSw); go_simp; (try with_reducible rfl))
    try simp only [Act.put, List.setIfInBounds_toArray, List.set_cons_zero, List.set_cons_succ]
    refine rgTake (i := 7) (d := 91) (v := ?_) rfl rfl (by kernel_rfl) (by kernel_rfl) (by kernel_rfl) (fun _ _ _ h => h) (by rfl) ?_ (by assumption) ?_
    rotate_left
    · ((intro w hSw); (try dsimp only at hSw); go_simp; (try with_reducible rfl))
    try simp only [Act.put, List.setIfInBounds_toArray, List.set_cons_zero, List.set_cons_succ]
    refine rgTake (i := 8) (d := 14) (v := ?_) rfl rfl (by kernel_rfl) (by kernel_rfl) (by kernel_rfl) (fun _ _ _ h => h) (by rfl) ?_ (by assumption) ?_
    rotate_left
    · ((intro w hSw); (try dsimp only at hSw); go_simp; (try with_reducible rfl))
    try simp only [Act.put, List.setIfInBounds_toArray, List.set_cons_zero, List.set_cons_succ]
    refine rgTake (i := 9) (d := 15) (v := ?_) rfl rfl (by kernel_rfl) (by kernel_rfl) (by kernel_rfl) (fun _ _ _ h => h) (by rfl) ?_ (by assumption) ?_
    rotate_left
    · ((intro w hSw); (try dsimp only at hSw); go_simp; (try with_reducible rfl))
    try simp only [Act.put, List.setIfInBounds_toArray, List.set_cons_zero, List.set_cons_succ]
    refine wpAnyH_done (by kernel_rfl) ?_ _
    go_wp2_with fail
    go_meet
    exact ⟨A0, cc0, rfl, rfl, own_le O9 hs9, hHeld⟩
  case rest =>
  obtain ⟨A2, cc2, rfl, rfl, Q, hb⟩ := hcut
  replace Kr := Kr.on hb
  replace O := own_below O hb
  replace P := own_below P hb
  replace G := G.trans (hb.mono G.size)
  clear hb
  go_wp2_with fail
  refine (eqRunnerS_b (Rd.of_own Q) (Rd.of_own O) hR36).mono ?_
  rintro e w13 ⟨rfl, hb⟩
  replace Kr := Kr.on hb
  replace O := own_below O hb
  replace P := own_below P hb
  replace Q := own_below Q hb
  replace G := G.trans (hb.mono G.size)
  clear hb
  go_wp2_with fail
  refine (heldRunnerS_b (k := 1) (Rd.of_own P) (by omega) (by omega) (by omega)).mono ?_
  rintro e w14 ⟨rfl, hb⟩
  replace Kr := Kr.on hb
  replace O := own_below O hb
  replace P := own_below P hb
  replace Q := own_below Q hb
  replace G := G.trans (hb.mono G.size)
  clear hb
  go_wp2_with fail
  go_ret
  exact ⟨rfl, G⟩
end Go.Proofs.Ytmcldakdefeepaa
