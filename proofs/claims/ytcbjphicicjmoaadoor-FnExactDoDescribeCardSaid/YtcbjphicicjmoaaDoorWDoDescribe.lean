/- The walk of FnExactDoDescribe. -/
import Derived.Test.YtcbjphicicjmoaaDoorFtx
import Derived.Test.YtcbjphicicjmoaaDoorFtl
import Derived.Test.YtcbjphicicjmoaaDoorCh
import Derived.Deep.DeepCutAuto
namespace Go.Proofs.YtcbjphicicjmoaaDoor
set_option linter.unusedVariables false
set_option linter.unusedSimpArgs false
open Go.RowKit
set_option maxRecDepth 100000 in
set_option maxHeartbeats 4000000 in
theorem law_DoDescribe {a0 a1 : Ft} (w : World) (ia0 : Ft.Ok a0) (ia1 : Ft.Ok a1) (T : Tab w) :
    Calls Tryd.prog 4 #[.agg #[.int .i64 a0.code, .string a0.which, .string a0.what, .string a0.look, .string a0.side], .agg #[.int .i64 a1.code, .string a1.which, .string a1.what, .string a1.look, .string a1.side]] w fun e w' => e = .returned (.bool true) ∧ Below w.heap.size w w' := by
  obtain ⟨K0, L0⟩ := two_newF w 28 [.int .i64 a0.code, .string a0.which, .string a0.what, .string a0.look, .string a0.side] [.int .i64 a1.code, .string a1.which, .string a1.what, .string a1.look, .string a1.side]
  have G0 : Below w.heap.size w ((w.alloc (.cells #[.int .i64 a0.code, .string a0.which, .string a0.what, .string a0.look, .string a0.side] 28)).alloc (.cells #[.int .i64 a1.code, .string a1.which, .string a1.what, .string a1.look, .string a1.side] 28)) := (by repeat (first | exact Below.refl _ _ | refine below_drewN ?_ _ | refine Below.drew ?_ | refine Below.alloc ?_ (by first | omega | (simp; done) | (simp; omega)) _ | refine Below.setCell ?_ (by first | omega | (simp; done) | (simp; omega)) _))
  have vne0 : (ddV a0 a1 != ddV a0 a1) = false := by simp
  have vne1 : (ddOk a0 a1 != ddOk a0 a1) = false := by simp
  obtain ⟨x0, x1, x2, x3, x4⟩ := blk5 K0
  by_cases hza : 1048576 < ((a0.which.size : Int) + a0.what.size + a0.look.size + a0.side.size)
  · go_enter Tryd.func4, Tryd.ntmps4
    go_wp2_with fail
    refine (szFeature_any a0 (1048576) _ ia0 (by omega) (by omega)).mono ?_
    rintro e w1 ⟨rfl, hb⟩
    rw [if_pos (by omega)]
    go_wp2_with fail
    go_ret
    exact ⟨rfl, G0.trans (hb.mono G0.size)⟩
  have hla : ¬ 1048576 - ((a0.which.size : Int) + a0.what.size + a0.look.size + a0.side.size) < 0 := by omega
  have hma : decide (1048576 - ((a0.which.size : Int) + a0.what.size + a0.look.size + a0.side.size) < 0) = false := by simp; omega
  by_cases hzb : 1048576 - ((a0.which.size : Int) + a0.what.size + a0.look.size + a0.side.size) < ((a1.which.size : Int) + a1.what.size + a1.look.size + a1.side.size)
  · go_enter Tryd.func4, Tryd.ntmps4
    go_wp2_with fail
    refine (szFeature_any a0 (1048576) _ ia0 (by omega) (by omega)).mono ?_
    rintro e w1 ⟨rfl, hb⟩
    rw [if_neg (by omega)]
    have L1 := L0.on hb
    have G1 := G0.trans (hb.mono G0.size)
    clear x0 x1 x2 x3 x4 hb
    obtain ⟨y0, y1, y2, y3, y4⟩ := blk5 L1
    go_wp2_with fail
    refine (szFeature_any a1 _ _ ia1 (by omega) (by omega)).mono ?_
    rintro e w2 ⟨rfl, hb⟩
    rw [if_pos (by omega)]
    go_wp2_with fail
    go_ret
    exact ⟨rfl, G1.trans (hb.mono G1.size)⟩
  have hlb : ¬ 1048576 - ((a0.which.size : Int) + a0.what.size + a0.look.size + a0.side.size) - ((a1.which.size : Int) + a1.what.size + a1.look.size + a1.side.size) < 0 := by omega
  have hmb : decide (1048576 - ((a0.which.size : Int) + a0.what.size + a0.look.size + a0.side.size) - ((a1.which.size : Int) + a1.what.size + a1.look.size + a1.side.size) < 0) = false := by simp; omega
  go_enter Tryd.func4, Tryd.ntmps4
  go_wp2_with fail
  refine (szFeature_any a0 (1048576) _ ia0 (by omega) (by omega)).mono ?_
  rintro e w1 ⟨rfl, hb⟩
  rw [if_neg (by omega)]
  have K1 := K0.on hb
  have L1 := L0.on hb
  have G1 := G0.trans (hb.mono G0.size)
  clear x0 x1 x2 x3 x4 hb
  obtain ⟨y0, y1, y2, y3, y4⟩ := blk5 L1
  go_wp2_with fail
  refine (szFeature_any a1 _ _ ia1 (by omega) (by omega)).mono ?_
  rintro e w2 ⟨rfl, hb⟩
  rw [if_neg (by omega)]
  have K2 := K1.on hb
  have L2 := L1.on hb
  have G2 := G1.trans (hb.mono G1.size)
  clear y0 y1 y2 y3 y4 hb K0 L0 G0 K1 L1 G1
  go_upto_region 8 with (fail)
  go_cut [6, 7] (fun v o wx => v = .bool (ddV a0 a1) ∧ o = .bool (ddOk a0 a1) ∧ Blk wx w.heap.size 28 [.int .i64 a0.code, .string a0.which, .string a0.what, .string a0.look, .string a0.side] ∧ Blk wx (w.heap.size + 1) 28 [.int .i64 a1.code, .string a1.which, .string a1.what, .string a1.look, .string a1.side] ∧ Below w.heap.size w wx)
  case first =>
    refine wp_region_held_drew (S := fun w' => Blk w' w.heap.size 28 [.int .i64 a0.code, .string a0.which, .string a0.what, .string a0.look, .string a0.side] ∧ Blk w' (w.heap.size + 1) 28 [.int .i64 a1.code, .string a1.which, .string a1.what, .string a1.look, .string a1.side] ∧ Below w.heap.size w w') (by kernel_rfl) ?_ (fun hHeld => ?_)
    · (try dsimp only)
      first | exact ⟨K2.drew, L2.drew, G2.drew⟩ | exact hHeld
    refine rgTake (i := 0) (d := 21) (v := ?_) rfl rfl (by kernel_rfl) (by kernel_rfl) (by kernel_rfl) (fun _ _ _ h => h) (by rfl) ?_ (by assumption) ?_
    rotate_left
    · ((intro w hSw); (try dsimp only at hSw); (obtain ⟨x0, x1, x2, x3, x4⟩ := blk5 hSw.1; obtain ⟨y0, y1, y2, y3, y4⟩ := blk5 hSw.2.1); go_simp; (try with_reducible rfl))
    try simp only [Act.put, List.setIfInBounds_toArray, List.set_cons_zero, List.set_cons_succ]
    refine rgTake (i := 2) (d := 23) (v := ?_) rfl rfl (by kernel_rfl) (by kernel_rfl) (by kernel_rfl) (fun _ _ _ h => h) (by rfl) ?_ (by assumption) ?_
    rotate_left
    · ((intro w hSw); (try dsimp only at hSw); (obtain ⟨x0, x1, x2, x3, x4⟩ := blk5 hSw.1; obtain ⟨y0, y1, y2, y3, y4⟩ := blk5 hSw.2.1); go_simp; (try with_reducible rfl))
    try simp only [Act.put, List.setIfInBounds_toArray, List.set_cons_zero, List.set_cons_succ]
    refine wpAnyH_ready (rs := [1]) (by kernel_rfl) (by simp) ?_
    refine AllReadyH.cons rfl (fun K hK => ?_) AllReadyH.nil
    go_simp
    refine (toFeature_b a0 _).mono ?_; rintro e w3 ⟨rfl, hb3⟩
    go_wp2_with fail
    refine hK.out _ _ ?_ (fun hHeld => ?_)
    · (try dsimp only)
      exact ⟨hHeld.1.on hb3, hHeld.2.1.on hb3, hHeld.2.2.trans (hb3.mono hHeld.2.2.size)⟩
    clear hK K
    try simp only [Act.put, List.setIfInBounds_toArray, List.set_cons_zero, List.set_cons_succ]
    refine wpAnyH_ready (rs := [3]) (by kernel_rfl) (by simp) ?_
    refine AllReadyH.cons rfl (fun K hK => ?_) AllReadyH.nil
    go_simp
    refine (toFeature_b a1 _).mono ?_; rintro e w4 ⟨rfl, hb4⟩
    go_wp2_with fail
    refine hK.out _ _ ?_ (fun hHeld => ?_)
    · (try dsimp only)
      exact ⟨hHeld.1.on hb4, hHeld.2.1.on hb4, hHeld.2.2.trans (hb4.mono hHeld.2.2.size)⟩
    clear hK K
    try simp only [Act.put, List.setIfInBounds_toArray, List.set_cons_zero, List.set_cons_succ]
    refine wpAnyH_ready (rs := [4]) (by kernel_rfl) (by simp) ?_
    refine AllReadyH.cons rfl (fun K hK => ?_) AllReadyH.nil
    go_simp
    refine (DoDescribe_spec a0 a1).mono ?_; rintro e w5 ⟨rfl, hb5⟩
    go_wp2_with fail
    refine hK.out _ _ ?_ (fun hHeld => ?_)
    · (try dsimp only)
      exact ⟨hHeld.1.on hb5, hHeld.2.1.on hb5, hHeld.2.2.trans (hb5.mono hHeld.2.2.size)⟩
    clear hK K
    try simp only [Act.put, List.setIfInBounds_toArray, List.set_cons_zero, List.set_cons_succ]
    refine rgTake (i := 5) (d := 20) (v := ?_) rfl rfl (by kernel_rfl) (by kernel_rfl) (by kernel_rfl) (fun _ _ _ h => h) (by rfl) ?_ (by assumption) ?_
    rotate_left
    · ((intro w hSw); (try dsimp only at hSw); go_simp; (try with_reducible rfl))
    try simp only [Act.put, List.setIfInBounds_toArray, List.set_cons_zero, List.set_cons_succ]
    refine rgTake (i := 6) (d := 26) (v := ?_) rfl rfl (by kernel_rfl) (by kernel_rfl) (by kernel_rfl) (fun _ _ _ h => h) (by rfl) ?_ (by assumption) ?_
    rotate_left
    · ((intro w hSw); (try dsimp only at hSw); go_simp; (try with_reducible rfl))
    try simp only [Act.put, List.setIfInBounds_toArray, List.set_cons_zero, List.set_cons_succ]
    refine rgTake (i := 7) (d := 27) (v := ?_) rfl rfl (by kernel_rfl) (by kernel_rfl) (by kernel_rfl) (fun _ _ _ h => h) (by rfl) ?_ (by assumption) ?_
    rotate_left
    · ((intro w hSw); (try dsimp only at hSw); go_simp; (try with_reducible rfl))
    try simp only [Act.put, List.setIfInBounds_toArray, List.set_cons_zero, List.set_cons_succ]
    refine rgTake (i := 8) (d := 6) (v := ?_) rfl rfl (by kernel_rfl) (by kernel_rfl) (by kernel_rfl) (fun _ _ _ h => h) (by rfl) ?_ (by assumption) ?_
    rotate_left
    · ((intro w hSw); (try dsimp only at hSw); go_simp; (try with_reducible rfl))
    try simp only [Act.put, List.setIfInBounds_toArray, List.set_cons_zero, List.set_cons_succ]
    refine rgTake (i := 9) (d := 7) (v := ?_) rfl rfl (by kernel_rfl) (by kernel_rfl) (by kernel_rfl) (fun _ _ _ h => h) (by rfl) ?_ (by assumption) ?_
    rotate_left
    · ((intro w hSw); (try dsimp only at hSw); go_simp; (try with_reducible rfl))
    try simp only [Act.put, List.setIfInBounds_toArray, List.set_cons_zero, List.set_cons_succ]
    refine wpAnyH_done (by kernel_rfl) ?_ _
    go_wp2_with fail
    go_meet
    exact ⟨rfl, rfl, hHeld⟩
  case rest =>
  obtain ⟨rfl, rfl, K2, L2, G2⟩ := hcut
  go_upto_region 9 with (fail)
  go_cut [8, 9] (fun v o wx => v = .bool (ddV a0 a1) ∧ o = .bool (ddOk a0 a1) ∧ Blk wx w.heap.size 28 [.int .i64 a0.code, .string a0.which, .string a0.what, .string a0.look, .string a0.side] ∧ Blk wx (w.heap.size + 1) 28 [.int .i64 a1.code, .string a1.which, .string a1.what, .string a1.look, .string a1.side] ∧ Below w.heap.size w wx)
  case first =>
    refine wp_region_held_drew (S := fun w' => Blk w' w.heap.size 28 [.int .i64 a0.code, .string a0.which, .string a0.what, .string a0.look, .string a0.side] ∧ Blk w' (w.heap.size + 1) 28 [.int .i64 a1.code, .string a1.which, .string a1.what, .string a1.look, .string a1.side] ∧ Below w.heap.size w w') (by kernel_rfl) ?_ (fun hHeld => ?_)
    · (try dsimp only)
      first | exact ⟨K2.drew, L2.drew, G2.drew⟩ | exact hHeld
    refine rgTake (i := 0) (d := 29) (v := ?_) rfl rfl (by kernel_rfl) (by kernel_rfl) (by kernel_rfl) (fun _ _ _ h => h) (by rfl) ?_ (by assumption) ?_
    rotate_left
    · ((intro w hSw); (try dsimp only at hSw); (obtain ⟨x0, x1, x2, x3, x4⟩ := blk5 hSw.1; obtain ⟨y0, y1, y2, y3, y4⟩ := blk5 hSw.2.1); go_simp; (try with_reducible rfl))
    try simp only [Act.put, List.setIfInBounds_toArray, List.set_cons_zero, List.set_cons_succ]
    refine rgTake (i := 2) (d := 31) (v := ?_) rfl rfl (by kernel_rfl) (by kernel_rfl) (by kernel_rfl) (fun _ _ _ h => h) (by rfl) ?_ (by assumption) ?_
    rotate_left
    · ((intro w hSw); (try dsimp only at hSw); (obtain ⟨x0, x1, x2, x3, x4⟩ := blk5 hSw.1; obtain ⟨y0, y1, y2, y3, y4⟩ := blk5 hSw.2.1); go_simp; (try with_reducible rfl))
    try simp only [Act.put, List.setIfInBounds_toArray, List.set_cons_zero, List.set_cons_succ]
    refine wpAnyH_ready (rs := [1]) (by kernel_rfl) (by simp) ?_
    refine AllReadyH.cons rfl (fun K hK => ?_) AllReadyH.nil
    go_simp
    refine (toFeature_b a0 _).mono ?_; rintro e w3 ⟨rfl, hb3⟩
    go_wp2_with fail
    refine hK.out _ _ ?_ (fun hHeld => ?_)
    · (try dsimp only)
      exact ⟨hHeld.1.on hb3, hHeld.2.1.on hb3, hHeld.2.2.trans (hb3.mono hHeld.2.2.size)⟩
    clear hK K
    try simp only [Act.put, List.setIfInBounds_toArray, List.set_cons_zero, List.set_cons_succ]
    refine wpAnyH_ready (rs := [3]) (by kernel_rfl) (by simp) ?_
    refine AllReadyH.cons rfl (fun K hK => ?_) AllReadyH.nil
    go_simp
    refine (toFeature_b a1 _).mono ?_; rintro e w4 ⟨rfl, hb4⟩
    go_wp2_with fail
    refine hK.out _ _ ?_ (fun hHeld => ?_)
    · (try dsimp only)
      exact ⟨hHeld.1.on hb4, hHeld.2.1.on hb4, hHeld.2.2.trans (hb4.mono hHeld.2.2.size)⟩
    clear hK K
    try simp only [Act.put, List.setIfInBounds_toArray, List.set_cons_zero, List.set_cons_succ]
    refine wpAnyH_ready (rs := [4]) (by kernel_rfl) (by simp) ?_
    refine AllReadyH.cons rfl (fun K hK => ?_) AllReadyH.nil
    go_simp
    refine (DoDescribe_impl a0 a1 (T.on hHeld.2.2)).mono ?_; rintro e w5 ⟨rfl, hb5⟩
    go_wp2_with fail
    refine hK.out _ _ ?_ (fun hHeld => ?_)
    · (try dsimp only)
      exact ⟨hHeld.1.on hb5, hHeld.2.1.on hb5, hHeld.2.2.trans (hb5.mono hHeld.2.2.size)⟩
    clear hK K
    try simp only [Act.put, List.setIfInBounds_toArray, List.set_cons_zero, List.set_cons_succ]
    refine rgTake (i := 5) (d := 28) (v := ?_) rfl rfl (by kernel_rfl) (by kernel_rfl) (by kernel_rfl) (fun _ _ _ h => h) (by rfl) ?_ (by assumption) ?_
    rotate_left
    · ((intro w hSw); (try dsimp only at hSw); go_simp; (try with_reducible rfl))
    try simp only [Act.put, List.setIfInBounds_toArray, List.set_cons_zero, List.set_cons_succ]
    refine rgTake (i := 6) (d := 34) (v := ?_) rfl rfl (by kernel_rfl) (by kernel_rfl) (by kernel_rfl) (fun _ _ _ h => h) (by rfl) ?_ (by assumption) ?_
    rotate_left
    · ((intro w hSw); (try dsimp only at hSw); go_simp; (try with_reducible rfl))
    try simp only [Act.put, List.setIfInBounds_toArray, List.set_cons_zero, List.set_cons_succ]
    refine rgTake (i := 7) (d := 35) (v := ?_) rfl rfl (by kernel_rfl) (by kernel_rfl) (by kernel_rfl) (fun _ _ _ h => h) (by rfl) ?_ (by assumption) ?_
    rotate_left
    · ((intro w hSw); (try dsimp only at hSw); go_simp; (try with_reducible rfl))
    try simp only [Act.put, List.setIfInBounds_toArray, List.set_cons_zero, List.set_cons_succ]
    refine rgTake (i := 8) (d := 8) (v := ?_) rfl rfl (by kernel_rfl) (by kernel_rfl) (by kernel_rfl) (fun _ _ _ h => h) (by rfl) ?_ (by assumption) ?_
    rotate_left
    · ((intro w hSw); (try dsimp only at hSw); go_simp; (try with_reducible rfl))
    try simp only [Act.put, List.setIfInBounds_toArray, List.set_cons_zero, List.set_cons_succ]
    refine rgTake (i := 9) (d := 9) (v := ?_) rfl rfl (by kernel_rfl) (by kernel_rfl) (by kernel_rfl) (fun _ _ _ h => h) (by rfl) ?_ (by assumption) ?_
    rotate_left
    · ((intro w hSw); (try dsimp only at hSw); go_simp; (try with_reducible rfl))
    try simp only [Act.put, List.setIfInBounds_toArray, List.set_cons_zero, List.set_cons_succ]
    refine wpAnyH_done (by kernel_rfl) ?_ _
    go_wp2_with fail
    go_meet
    exact ⟨rfl, rfl, hHeld⟩
  case rest =>
  obtain ⟨rfl, rfl, K2, L2, G2⟩ := hcut
  go_wp2_with fail
  go_ret
  exact ⟨rfl, G2⟩
end Go.Proofs.YtcbjphicicjmoaaDoor
