/- Contracts: ParseRunner of the reference. -/
import Derived.Test.YtmmpcchjalgokaaGreatDoorPrw
namespace Go.Proofs.YtmmpcchjalgokaaGreatDoor
set_option linter.unusedVariables false
set_option linter.unusedSimpArgs false
open Go.RowKit
theorem ps_no1 {s : ByteArray} (h : 60 < s.size) : prOk s = false ∧ prV s = rnZ0 := by
  refine pr_none fun r h1 h2 => ?_
  have := (ps_key h1).1
  rw [h2] at this
  omega
theorem ps_no2 {s : ByteArray} (h6 : (cuts s 32).length ≠ 6) (h8 : (cuts s 32).length ≠ 8) : prOk s = false ∧ prV s = rnZ0 := by
  refine pr_none fun r h1 h2 => ?_
  have := (ps_key h1).2.1
  rw [h2] at this
  omega
theorem ps_no3 {s : ByteArray} (h : rnOk (candS (cuts s 32)) = false) : prOk s = false ∧ prV s = rnZ0 := by
  refine pr_none fun r h1 h2 => ?_
  have := (ps_key h1).2.2
  rw [h2] at this
  rw [this, h1] at h; cases h
theorem ps_no4 {s : ByteArray} (h : decide (rtB (candS (cuts s 32)) = s) = false) : prOk s = false ∧ prV s = rnZ0 := by
  refine pr_none fun r h1 h2 => ?_
  have := (ps_key h1).2.2
  rw [h2] at this
  rw [decide_eq_false_iff_not] at h
  rw [this] at h
  exact h h2
set_option maxRecDepth 100000 in
set_option maxHeartbeats 4000000 in
theorem ParseRunner_spec {s : ByteArray} {w : World} (hs : s.size ≤ 1048576) :
    Calls Tryz.prog 25 #[.string s] w fun e w' => e = .returned (.tuple #[.agg #[.int .i64 (prV s).id, .string (prV s).name, .string (prV s).club, .int .i64 (prV s).born, .bool (prV s).woman, .int .i64 (prV s).card], .bool (prOk s)]) ∧ Below w.heap.size w w' := by
  have HCL := Lib.hid (cuts_len s 32)
  have HSZ : Hid (∀ x ∈ cuts s 32, x.size ≤ 1048576) := (fun x hx => Nat.le_trans (cuts_sz s 32 x hx) hs : ∀ x ∈ cuts s 32, x.size ≤ 1048576)
  have Z := Blk.new w 41 [.int .i64 0, .string ByteArray.empty, .string ByteArray.empty, .int .i64 0, .bool false, .int .i64 0]
  have G : Below w.heap.size w (w.alloc (.cells #[.int .i64 0, .string ByteArray.empty, .string ByteArray.empty, .int .i64 0, .bool false, .int .i64 0] 41)) := (by repeat (first | exact Below.refl _ _ | refine below_drewN ?_ _ | refine Below.drew ?_ | refine Below.alloc ?_ (by first | omega | (simp; done) | (simp; omega)) _ | refine Below.setCell ?_ (by first | omega | (simp; done) | (simp; omega)) _))
  obtain ⟨n, hn⟩ : ∃ n, (cuts s 32).length = n := ⟨_, rfl⟩
  have hn1 : 1 ≤ n ∧ n ≤ 1048577 := by have := HCL.out; omega
  have HN := Lib.hid hn
  have HSP := l1Split_any s 32 (w.alloc (.cells #[.int .i64 0, .string ByteArray.empty, .string ByteArray.empty, .int .i64 0, .bool false, .int .i64 0] 41)) hs
  rw [hn] at HSP
  have HS := Lib.hid HSP
  clear HSP
  by_cases h60 : 60 < s.size
  · have HP := Lib.hid (ps_no1 h60)
    have h60i : (60 : Int) < (s.size : Int) := by omega
    go_enter Tryz.func25, Tryz.ntmps25
    go_wp2_with fail
    refine HS.out.mono ?_
    rintro e w1 ⟨A, cp, rfl, O, hb⟩
    replace Z := Z.on hb
    replace G := G.trans (hb.mono G.size)
    clear hb O
    obtain ⟨z0, z1, z2, z3, z4, z5⟩ := RnAt.blk (r := rnZ0) Z
    simp only [Nat.zero_add] at z1 z2 z3 z4 z5
    have f0 := Z.frozen 0
    have f1 := Z.frozen 1
    have f2 := Z.frozen 2
    have f3 := Z.frozen 3
    have f4 := Z.frozen 4
    have f5 := Z.frozen 5
    have Z2 := Z.put6 0 rnZ0
    obtain ⟨q0, q1, q2, q3, q4, q5⟩ := RnAt.blk (r := rnZ0) Z2
    simp only [Nat.zero_add] at q0 q1 q2 q3 q4 q5
    have GP := below_put6 G (Nat.le_refl _) 0 rnZ0
    simp only [Nat.zero_add] at GP
    simp only [rnZ0] at q0 q1 q2 q3 q4 q5
    clear Z2
    go_wp2_with fail
    refine bodyPost_ret (v := .tuple #[.agg #[.int .i64 0, .string ⟨#[]⟩, .string ⟨#[]⟩, .int .i64 0, .bool false, .int .i64 0], .bool false]) (by simp [results, Tryz.results25, go_sem, q0, q1, q2, q3, q4, q5]) rfl ⟨by rw [HP.out.1, HP.out.2] <;> rfl, GP⟩
  have h60i : ¬ (60 : Int) < (s.size : Int) := by omega
  by_cases h6 : n = 6
  · subst h6
    go_enter Tryz.func25, Tryz.ntmps25
    go_wp2_with fail
    refine HS.out.mono ?_
    rintro e w8 ⟨A, cp, rfl, O, hb⟩
    replace Z := Z.on hb
    replace G := G.trans (hb.mono G.size)
    obtain ⟨bw, ow, rfl, hbw, hcw⟩ := (Rd.of_own O).str (by omega)
    have hl : (cuts s 32).length = 6 := HN.out
    have e0 := wd_get (l := cuts s 32) (k := 0) (by omega)
    have e4 := wd_get (l := cuts s 32) (k := 4) (by omega)
    have s0 : w8.cell? ⟨bw, ow, none⟩ = some (.string (wd (cuts s 32) 0)) := by rw [e0]; exact hcw 0 (by omega)
    have s4 : w8.cell? ⟨bw, ow + 4, none⟩ = some (.string (wd (cuts s 32) 4)) := by rw [e4]; exact hcw 4 (by omega)
    have s1 : w8.cell? ⟨bw, ow + 1, none⟩ = some (.string (wd (cuts s 32) 1)) := by rw [wd_get (by omega)]; exact hcw 1 (by omega)
    have s3 : w8.cell? ⟨bw, ow + 3, none⟩ = some (.string (wd (cuts s 32) 3)) := by rw [wd_get (by omega)]; exact hcw 3 (by omega)
    have s5 : w8.cell? ⟨bw, ow + 5, none⟩ = some (.string (wd (cuts s 32) 5)) := by rw [wd_get (by omega)]; exact hcw 5 (by omega)
    have z0 := wd_mem HSZ.out (k := 0) (by omega)
    have z4 := wd_mem HSZ.out (k := 4) (by omega)
    have z1 := wd_mem HSZ.out (k := 1) (by omega)
    have z3 := wd_mem HSZ.out (k := 3) (by omega)
    obtain ⟨r, hr⟩ : ∃ r, candS (cuts s 32) = r := ⟨_, rfl⟩
    have HRR := Lib.hid hr
    have r1 : wd (cuts s 32) 1 = r.name := by rw [← hr]; rfl
    have r2 : wd (cuts s 32) 3 = r.club := by rw [← hr]; rfl
    have r3 : rdV (wd (cuts s 32) 0) = r.id := by rw [← hr]; rfl
    have r4 : rdV (wd (cuts s 32) 4) = r.born := by rw [← hr]; rfl
    have r5 : (0 : Int) = r.card := by rw [← hr]; unfold candS; dsimp only; rw [hl]; rfl
    have r6 : ((wd (cuts s 32) 5).toList == [119]) = r.woman := by rw [← hr]; exact eqb_lit _ [119]
    have R3 := Lib.hid r3
    have R4 := Lib.hid r4
    have R5 := Lib.hid r5
    rw [r1] at s1 z1
    rw [r2] at s3 z3
    generalize wd (cuts s 32) 5 = x5 at *
    generalize wd (cuts s 32) 0 = x0 at *
    generalize wd (cuts s 32) 4 = x4 at *
    clear hcw hr r1 r2 r3 r4 r5 e0 e4 hl O hb HS hn
    go_wp2_with fail
    go_upto_region 5 with (fail)
    have HB8 : Hid (Below w8.heap.size w8 w8) := (Below.refl _ _ : Below w8.heap.size w8 w8)
    go_cut [6] (fun x wx => x = .pointer (some ⟨w8.heap.size, 0, none⟩) ∧ Blk wx w8.heap.size 41 [.int .i64 0, .string r.name, .string r.club, .int .i64 0, .bool r.woman, .int .i64 0] ∧ Below w8.heap.size w8 wx)
    case first =>
      refine wp_region_held_drew (S := fun w' => Below w8.heap.size w8 w') (by kernel_rfl) ?_ (fun hHeld => ?_)
      · (try dsimp only)
        first | exact Below.drew (Below.refl _ _) | exact hHeld
      have hwx : w8.drew.heap.size = w8.heap.size := rfl; generalize w8.drew = wx at *
      refine rgTake (i := 0) (d := 23) (v := ?_) rfl rfl (by kernel_rfl) (by kernel_rfl) (by kernel_rfl) (fun _ _ _ h => h) (by rfl) ?_ (by assumption) ?_
      rotate_left
      · ((intro w hSw); (try dsimp only at hSw); go_simp; (try with_reducible rfl))
      try simp only [Act.put, List.setIfInBounds_toArray, List.set_cons_zero, List.set_cons_succ]
      refine rgTake (i := 1) (d := 24) (v := ?_) rfl rfl (by kernel_rfl) (by kernel_rfl) (by kernel_rfl) (fun _ _ _ h => h) (by rfl) ?_ (by assumption) ?_
      rotate_left
      · ((intro w hSw); (try dsimp only at hSw); go_simp; (try with_reducible rfl))
      try simp only [Act.put, List.setIfInBounds_toArray, List.set_cons_zero, List.set_cons_succ]
      refine rgTake (i := 2) (d := 25) (v := ?_) rfl rfl (by kernel_rfl) (by kernel_rfl) (by kernel_rfl) (fun _ _ _ h => h) (by rfl) ?_ (by assumption) ?_
      rotate_left
      · ((intro w hSw); (try dsimp only at hSw); (have s1 := (hSw.cell (p := ⟨bw, ow + 1, none⟩) hbw).trans s1; have s3 := (hSw.cell (p := ⟨bw, ow + 3, none⟩) hbw).trans s3; have s5 := (hSw.cell (p := ⟨bw, ow + 5, none⟩) hbw).trans s5); go_simp; (try with_reducible rfl))
      try simp only [Act.put, List.setIfInBounds_toArray, List.set_cons_zero, List.set_cons_succ]
      refine rgTake (i := 3) (d := 26) (v := ?_) rfl rfl (by kernel_rfl) (by kernel_rfl) (by kernel_rfl) (fun _ _ _ h => h) (by rfl) ?_ (by assumption) ?_
      rotate_left
      · ((intro w hSw); (try dsimp only at hSw); go_simp; (try with_reducible rfl))
      try simp only [Act.put, List.setIfInBounds_toArray, List.set_cons_zero, List.set_cons_succ]
      refine rgTake (i := 4) (d := 27) (v := ?_) rfl rfl (by kernel_rfl) (by kernel_rfl) (by kernel_rfl) (fun _ _ _ h => h) (by rfl) ?_ (by assumption) ?_
      rotate_left
      · ((intro w hSw); (try dsimp only at hSw); go_simp; (try with_reducible rfl))
      try simp only [Act.put, List.setIfInBounds_toArray, List.set_cons_zero, List.set_cons_succ]
      refine rgTake (i := 5) (d := 28) (v := ?_) rfl rfl (by kernel_rfl) (by kernel_rfl) (by kernel_rfl) (fun _ _ _ h => h) (by rfl) ?_ (by assumption) ?_
      rotate_left
      · ((intro w hSw); (try dsimp only at hSw); (have s1 := (hSw.cell (p := ⟨bw, ow + 1, none⟩) hbw).trans s1; have s3 := (hSw.cell (p := ⟨bw, ow + 3, none⟩) hbw).trans s3; have s5 := (hSw.cell (p := ⟨bw, ow + 5, none⟩) hbw).trans s5); go_simp; (try with_reducible rfl))
      try simp only [Act.put, List.setIfInBounds_toArray, List.set_cons_zero, List.set_cons_succ]
      refine rgTake (i := 6) (d := 29) (v := ?_) rfl rfl (by kernel_rfl) (by kernel_rfl) (by kernel_rfl) (fun _ _ _ h => h) (by rfl) ?_ (by assumption) ?_
      rotate_left
      · ((intro w hSw); (try dsimp only at hSw); go_simp; (try with_reducible rfl))
      try simp only [Act.put, List.setIfInBounds_toArray, List.set_cons_zero, List.set_cons_succ]
      refine rgTake (i := 7) (d := 30) (v := ?_) rfl rfl (by kernel_rfl) (by kernel_rfl) (by kernel_rfl) (fun _ _ _ h => h) (by rfl) ?_ (by assumption) ?_
      rotate_left
      · ((intro w hSw); (try dsimp only at hSw); go_simp; (try with_reducible rfl))
      try simp only [Act.put, List.setIfInBounds_toArray, List.set_cons_zero, List.set_cons_succ]
      refine rgTake (i := 8) (d := 31) (v := ?_) rfl rfl (by kernel_rfl) (by kernel_rfl) (by kernel_rfl) (fun _ _ _ h => h) (by rfl) ?_ (by assumption) ?_
      rotate_left
      · ((intro w hSw); (try dsimp only at hSw); (have s1 := (hSw.cell (p := ⟨bw, ow + 1, none⟩) hbw).trans s1; have s3 := (hSw.cell (p := ⟨bw, ow + 3, none⟩) hbw).trans s3; have s5 := (hSw.cell (p := ⟨bw, ow + 5, none⟩) hbw).trans s5); go_simp; (try with_reducible rfl))
      try simp only [Act.put, List.setIfInBounds_toArray, List.set_cons_zero, List.set_cons_succ]
      refine rgTake (i := 9) (d := 32) (v := ?_) rfl rfl (by kernel_rfl) (by kernel_rfl) (by kernel_rfl) (fun _ _ _ h => h) (by rfl) ?_ (by assumption) ?_
      rotate_left
      · ((intro w hSw); (try dsimp only at hSw); go_simp; (try with_reducible rfl))
      try simp only [Act.put, List.setIfInBounds_toArray, List.set_cons_zero, List.set_cons_succ]
      refine rgTake (i := 10) (d := 33) (v := ?_) rfl rfl (by kernel_rfl) (by kernel_rfl) (by kernel_rfl) (fun _ _ _ h => h) (by rfl) ?_ (by assumption) ?_
      rotate_left
      · ((intro w hSw); (try dsimp only at hSw); go_simp; (try with_reducible rfl))
      try simp only [Act.put, List.setIfInBounds_toArray, List.set_cons_zero, List.set_cons_succ]
      refine wpAnyH_ready (rs := [11]) (by kernel_rfl) (by simp) ?_
      refine AllReadyH.cons rfl (fun K hK => ?_) AllReadyH.nil
      go_simp
      refine hK.out _ _ ?_ (fun hHeld => ?_)
      · (try dsimp only)
        exact hHeld.alloc hHeld.size _
      clear hK K
      try simp only [Act.put, List.setIfInBounds_toArray, List.set_cons_zero, List.set_cons_succ]
      refine wpAnyH_ready (rs := [12]) (by kernel_rfl) (by simp) ?_
      refine AllReadyH.cons rfl (fun K hK => ?_) AllReadyH.nil
      go_simp
      refine hK.out _ _ ?_ (fun hHeld => ?_)
      · (try dsimp only)
        exact (fun h9 : Below w8.heap.size w8 wx => h9.alloc h9.size _) (by assumption)
      clear hK K
      try simp only [Act.put, List.setIfInBounds_toArray, List.set_cons_zero, List.set_cons_succ]
      refine wpAnyH_done (by kernel_rfl) ?_ _
      go_wp2_with fail
      go_meet
      exact ⟨rfl, by have h9 := Blk.new wx 41 [.int .i64 0, .string r.name, .string r.club, .int .i64 0, .bool r.woman, .int .i64 0]; rw [hwx] at h9; exact h9, hHeld⟩
    case rest =>
    obtain ⟨rfl, B, hb⟩ := hcut
    have hg8 := G.size
    have hZ8 := Z.lt
    replace Z := Z.on hb
    replace G := G.trans (hb.mono G.size)
    replace s0 := (hb.cell (p := ⟨bw, ow, none⟩) hbw).trans s0
    have HS4 := Lib.hid ((hb.cell (p := ⟨bw, ow + 4, none⟩) hbw).trans s4)
    have hbw2 := Nat.lt_of_lt_of_le hbw hb.size
    generalize hgx : w8.heap.size = gx at *
    have hgx0 : w.heap.size < gx := hZ8
    clear hb s1 s3 s5 s4 r6 HB8
    go_wp2_with fail
    refine (l1Read_any z0).mono ?_
    rintro e w9 ⟨rfl, hb⟩
    rw [R3.out]
    have s4 := (hb.cell (p := ⟨bw, ow + 4, none⟩) hbw2).trans HS4.out
    replace Z := Z.on hb
    replace G := G.trans (hb.mono G.size)
    replace B := B.on hb
    have hbw3 := Nat.lt_of_lt_of_le hbw2 hb.size
    have fb0 := B.frozen 0
    obtain ⟨b0, b1, b2, b3, b4, b5⟩ := blk6 B
    have HB2 := Lib.hid (B.set_ 0 (.int .i64 r.id))
    have HZ2 := Lib.hid (Z.far (p := ⟨gx, 0, none⟩) (by show w.heap.size ≠ gx; omega) (.int .i64 r.id))
    have HG2 := Lib.hid (G.setCell (p := ⟨gx, 0, none⟩) (by show w.heap.size ≤ gx; omega) (.int .i64 r.id))
    have hne4 : bw ≠ gx := by omega
    clear hb s0 HS4 B Z G
    go_wp2_with fail
    refine (l1Read_any z4).mono ?_
    rintro e w10 ⟨rfl, hb⟩
    rw [R4.out]
    have B := HB2.out.on hb
    have Z := HZ2.out.on hb
    have G := HG2.out.trans (hb.mono HG2.out.size)
    clear b0 b1 b2 b3 b4 b5 fb0 HB2 HZ2 HG2 hb s4
    have fb3 := B.frozen 3
    obtain ⟨b0, b1, b2, b3, b4, b5⟩ := blk6 B
    have HB2 := Lib.hid (B.set_ 3 (.int .i64 r.born))
    have HZ2 := Lib.hid (Z.far (p := ⟨gx, 3, none⟩) (by show w.heap.size ≠ gx; omega) (.int .i64 r.born))
    have HG2 := Lib.hid (G.setCell (p := ⟨gx, 3, none⟩) (by show w.heap.size ≤ gx; omega) (.int .i64 r.born))
    clear B Z G
    have HBF : Hid (∀ w', Blk w' gx 41 ([.int .i64 r.id, .string r.name, .string r.club, .int .i64 r.born, .bool r.woman, .int .i64 0] : List Value) → Blk w' gx 41 r.cells) := (fun w' h => by rw [R5.out] at h; exact h : ∀ w', Blk w' gx 41 ([.int .i64 r.id, .string r.name, .string r.club, .int .i64 r.born, .bool r.woman, .int .i64 0] : List Value) → Blk w' gx 41 r.cells)
    have zn : r.name.size ≤ maxLen := by simp only [maxLen]; omega
    have zc : r.club.size ≤ maxLen := by simp only [maxLen]; omega
    have q1 := neb_test (rtB r) s
    have q2 := eqb_test (rtB r) s
    go_upto_region 10 with (fail)
    have B := HBF.out _ HB2.out
    have Z := HZ2.out
    have G := HG2.out
    clear b0 b1 b2 b3 b4 b5 fb3 HB2 HZ2 HG2 HBF
    obtain ⟨b0, b1, b2, b3, b4, b5⟩ := blk6 B
    cases hok : rnOk r
    · have HP := Lib.hid (ps_no3 (s := s) (by rw [HRR.out]; exact hok))
      go_wp2_with fail
      refine (IsRunner_l5 r _ zn zc).mono ?_
      rintro e w20 ⟨rfl, hb⟩
      rw [hok]
      replace Z := Z.on hb
      replace G := G.trans (hb.mono G.size)
      clear hb b0 b1 b2 b3 b4 b5 B
      obtain ⟨z0, z1, z2, z3, z4, z5⟩ := RnAt.blk (r := rnZ0) Z
      simp only [Nat.zero_add] at z1 z2 z3 z4 z5
      have f0 := Z.frozen 0
      have f1 := Z.frozen 1
      have f2 := Z.frozen 2
      have f3 := Z.frozen 3
      have f4 := Z.frozen 4
      have f5 := Z.frozen 5
      have Z2 := Z.put6 0 rnZ0
      obtain ⟨q0, q1, q2, q3, q4, q5⟩ := RnAt.blk (r := rnZ0) Z2
      simp only [Nat.zero_add] at q0 q1 q2 q3 q4 q5
      have GP := below_put6 G (Nat.le_refl _) 0 rnZ0
      simp only [Nat.zero_add] at GP
      simp only [rnZ0] at q0 q1 q2 q3 q4 q5
      clear Z2
      go_wp2_with fail
      refine bodyPost_ret (v := .tuple #[.agg #[.int .i64 0, .string ⟨#[]⟩, .string ⟨#[]⟩, .int .i64 0, .bool false, .int .i64 0], .bool false]) (by simp [results, Tryz.results25, go_sem, q0, q1, q2, q3, q4, q5]) rfl ⟨by rw [HP.out.1, HP.out.2] <;> rfl, GP⟩
    · cases hz : decide (rtB r = s)
      · have HP := Lib.hid (ps_no4 (s := s) (by rw [HRR.out]; exact hz))
        rw [hz] at q1 q2
        rw [Bool.not_false] at q1
        go_wp2_with fail
        refine (IsRunner_l5 r _ zn zc).mono ?_
        rintro e w20 ⟨rfl, hb⟩
        rw [hok]
        replace Z := Z.on hb
        replace B := B.on hb
        replace G := G.trans (hb.mono G.size)
        clear hb b0 b1 b2 b3 b4 b5
        obtain ⟨b0, b1, b2, b3, b4, b5⟩ := blk6 B
        go_wp2_with fail
        refine (l5Text_any hok).mono ?_
        rintro e w21 ⟨rfl, hb⟩
        replace Z := Z.on hb
        replace G := G.trans (hb.mono G.size)
        clear hb b0 b1 b2 b3 b4 b5 B
        obtain ⟨z0, z1, z2, z3, z4, z5⟩ := RnAt.blk (r := rnZ0) Z
        simp only [Nat.zero_add] at z1 z2 z3 z4 z5
        have f0 := Z.frozen 0
        have f1 := Z.frozen 1
        have f2 := Z.frozen 2
        have f3 := Z.frozen 3
        have f4 := Z.frozen 4
        have f5 := Z.frozen 5
        have Z2 := Z.put6 0 rnZ0
        obtain ⟨q0, q1, q2, q3, q4, q5⟩ := RnAt.blk (r := rnZ0) Z2
        simp only [Nat.zero_add] at q0 q1 q2 q3 q4 q5
        have GP := below_put6 G (Nat.le_refl _) 0 rnZ0
        simp only [Nat.zero_add] at GP
        simp only [rnZ0] at q0 q1 q2 q3 q4 q5
        clear Z2
        go_wp2_with fail
        refine bodyPost_ret (v := .tuple #[.agg #[.int .i64 0, .string ⟨#[]⟩, .string ⟨#[]⟩, .int .i64 0, .bool false, .int .i64 0], .bool false]) (by simp [results, Tryz.results25, go_sem, q0, q1, q2, q3, q4, q5]) rfl ⟨by rw [HP.out.1, HP.out.2] <;> rfl, GP⟩
      · have HP := Lib.hid (pr_some hok (of_decide_eq_true hz))
        rw [hz] at q1 q2
        rw [Bool.not_true] at q1
        go_wp2_with fail
        refine (IsRunner_l5 r _ zn zc).mono ?_
        rintro e w20 ⟨rfl, hb⟩
        rw [hok]
        replace Z := Z.on hb
        replace B := B.on hb
        replace G := G.trans (hb.mono G.size)
        clear hb b0 b1 b2 b3 b4 b5
        obtain ⟨b0, b1, b2, b3, b4, b5⟩ := blk6 B
        go_wp2_with fail
        refine (l5Text_any hok).mono ?_
        rintro e w21 ⟨rfl, hb⟩
        replace Z := Z.on hb
        replace B := B.on hb
        replace G := G.trans (hb.mono G.size)
        clear hb b0 b1 b2 b3 b4 b5
        go_upto_region 12 with (fail)
        obtain ⟨c0, c1, c2, c3, c4, c5⟩ := RnAt.blk (r := r) B
        simp only [Nat.zero_add] at c1 c2 c3 c4 c5
        obtain ⟨z0, z1, z2, z3, z4, z5⟩ := RnAt.blk (r := rnZ0) Z
        simp only [Nat.zero_add] at z1 z2 z3 z4 z5
        have f0 := Z.frozen 0
        have f1 := Z.frozen 1
        have f2 := Z.frozen 2
        have f3 := Z.frozen 3
        have f4 := Z.frozen 4
        have f5 := Z.frozen 5
        have Z2 := Z.put6 0 r
        obtain ⟨q0, q1, q2, q3, q4, q5⟩ := RnAt.blk (r := r) Z2
        simp only [Nat.zero_add] at q0 q1 q2 q3 q4 q5
        have GP := below_put6 G (Nat.le_refl _) 0 r
        simp only [Nat.zero_add] at GP
        clear Z2
        go_wp2_with fail
        refine bodyPost_ret (v := .tuple #[.agg #[.int .i64 r.id, .string r.name, .string r.club, .int .i64 r.born, .bool r.woman, .int .i64 r.card], .bool true]) (by simp [results, Tryz.results25, go_sem, q0, q1, q2, q3, q4, q5]) rfl ⟨by rw [HP.out.1, HP.out.2] <;> rfl, GP⟩
  by_cases h8 : n = 8
  · subst h8
    go_enter Tryz.func25, Tryz.ntmps25
    go_wp2_with fail
    refine HS.out.mono ?_
    rintro e w8 ⟨A, cp, rfl, O, hb⟩
    replace Z := Z.on hb
    replace G := G.trans (hb.mono G.size)
    obtain ⟨bw, ow, rfl, hbw, hcw⟩ := (Rd.of_own O).str (by omega)
    have hl : (cuts s 32).length = 8 := HN.out
    have e0 := wd_get (l := cuts s 32) (k := 0) (by omega)
    have e4 := wd_get (l := cuts s 32) (k := 4) (by omega)
    have s0 : w8.cell? ⟨bw, ow, none⟩ = some (.string (wd (cuts s 32) 0)) := by rw [e0]; exact hcw 0 (by omega)
    have s4 : w8.cell? ⟨bw, ow + 4, none⟩ = some (.string (wd (cuts s 32) 4)) := by rw [e4]; exact hcw 4 (by omega)
    have s1 : w8.cell? ⟨bw, ow + 1, none⟩ = some (.string (wd (cuts s 32) 1)) := by rw [wd_get (by omega)]; exact hcw 1 (by omega)
    have s3 : w8.cell? ⟨bw, ow + 3, none⟩ = some (.string (wd (cuts s 32) 3)) := by rw [wd_get (by omega)]; exact hcw 3 (by omega)
    have s5 : w8.cell? ⟨bw, ow + 5, none⟩ = some (.string (wd (cuts s 32) 5)) := by rw [wd_get (by omega)]; exact hcw 5 (by omega)
    have z0 := wd_mem HSZ.out (k := 0) (by omega)
    have z4 := wd_mem HSZ.out (k := 4) (by omega)
    have z1 := wd_mem HSZ.out (k := 1) (by omega)
    have z3 := wd_mem HSZ.out (k := 3) (by omega)
    have s7 : w8.cell? ⟨bw, ow + 7, none⟩ = some (.string (wd (cuts s 32) 7)) := by rw [wd_get (by omega)]; exact hcw 7 (by omega)
    have z7 := wd_mem HSZ.out (k := 7) (by omega)
    obtain ⟨r, hr⟩ : ∃ r, candS (cuts s 32) = r := ⟨_, rfl⟩
    have HRR := Lib.hid hr
    have r1 : wd (cuts s 32) 1 = r.name := by rw [← hr]; rfl
    have r2 : wd (cuts s 32) 3 = r.club := by rw [← hr]; rfl
    have r3 : rdV (wd (cuts s 32) 0) = r.id := by rw [← hr]; rfl
    have r4 : rdV (wd (cuts s 32) 4) = r.born := by rw [← hr]; rfl
    have r5 : rdV (wd (cuts s 32) 7) = r.card := by rw [← hr]; unfold candS; dsimp only; rw [hl]; rfl
    have r6 : ((wd (cuts s 32) 5).toList == [119]) = r.woman := by rw [← hr]; exact eqb_lit _ [119]
    have R3 := Lib.hid r3
    have R4 := Lib.hid r4
    have R5 := Lib.hid r5
    rw [r1] at s1 z1
    rw [r2] at s3 z3
    generalize wd (cuts s 32) 5 = x5 at *
    generalize wd (cuts s 32) 0 = x0 at *
    generalize wd (cuts s 32) 4 = x4 at *
    generalize wd (cuts s 32) 7 = x7 at *
    clear hcw hr r1 r2 r3 r4 r5 e0 e4 hl O hb HS hn
    go_wp2_with fail
    go_upto_region 5 with (fail)
    have HB8 : Hid (Below w8.heap.size w8 w8) := (Below.refl _ _ : Below w8.heap.size w8 w8)
    go_cut [6] (fun x wx => x = .pointer (some ⟨w8.heap.size, 0, none⟩) ∧ Blk wx w8.heap.size 41 [.int .i64 0, .string r.name, .string r.club, .int .i64 0, .bool r.woman, .int .i64 0] ∧ Below w8.heap.size w8 wx)
    case first =>
      refine wp_region_held_drew (S := fun w' => Below w8.heap.size w8 w') (by kernel_rfl) ?_ (fun hHeld => ?_)
      · (try dsimp only)
        first | exact Below.drew (Below.refl _ _) | exact hHeld
      have hwx : w8.drew.heap.size = w8.heap.size := rfl; generalize w8.drew = wx at *
      refine rgTake (i := 0) (d := 23) (v := ?_) rfl rfl (by kernel_rfl) (by kernel_rfl) (by kernel_rfl) (fun _ _ _ h => h) (by rfl) ?_ (by assumption) ?_
      rotate_left
      · ((intro w hSw); (try dsimp only at hSw); go_simp; (try with_reducible rfl))
      try simp only [Act.put, List.setIfInBounds_toArray, List.set_cons_zero, List.set_cons_succ]
      refine rgTake (i := 1) (d := 24) (v := ?_) rfl rfl (by kernel_rfl) (by kernel_rfl) (by kernel_rfl) (fun _ _ _ h => h) (by rfl) ?_ (by assumption) ?_
      rotate_left
      · ((intro w hSw); (try dsimp only at hSw); go_simp; (try with_reducible rfl))
      try simp only [Act.put, List.setIfInBounds_toArray, List.set_cons_zero, List.set_cons_succ]
      refine rgTake (i := 2) (d := 25) (v := ?_) rfl rfl (by kernel_rfl) (by kernel_rfl) (by kernel_rfl) (fun _ _ _ h => h) (by rfl) ?_ (by assumption) ?_
      rotate_left
      · ((intro w hSw); (try dsimp only at hSw); (have s1 := (hSw.cell (p := ⟨bw, ow + 1, none⟩) hbw).trans s1; have s3 := (hSw.cell (p := ⟨bw, ow + 3, none⟩) hbw).trans s3; have s5 := (hSw.cell (p := ⟨bw, ow + 5, none⟩) hbw).trans s5); go_simp; (try with_reducible rfl))
      try simp only [Act.put, List.setIfInBounds_toArray, List.set_cons_zero, List.set_cons_succ]
      refine rgTake (i := 3) (d := 26) (v := ?_) rfl rfl (by kernel_rfl) (by kernel_rfl) (by kernel_rfl) (fun _ _ _ h => h) (by rfl) ?_ (by assumption) ?_
      rotate_left
      · ((intro w hSw); (try dsimp only at hSw); go_simp; (try with_reducible rfl))
      try simp only [Act.put, List.setIfInBounds_toArray, List.set_cons_zero, List.set_cons_succ]
      refine rgTake (i := 4) (d := 27) (v := ?_) rfl rfl (by kernel_rfl) (by kernel_rfl) (by kernel_rfl) (fun _ _ _ h => h) (by rfl) ?_ (by assumption) ?_
      rotate_left
      · ((intro w hSw); (try dsimp only at hSw); go_simp; (try with_reducible rfl))
      try simp only [Act.put, List.setIfInBounds_toArray, List.set_cons_zero, List.set_cons_succ]
      refine rgTake (i := 5) (d := 28) (v := ?_) rfl rfl (by kernel_rfl) (by kernel_rfl) (by kernel_rfl) (fun _ _ _ h => h) (by rfl) ?_ (by assumption) ?_
      rotate_left
      · ((intro w hSw); (try dsimp only at hSw); (have s1 := (hSw.cell (p := ⟨bw, ow + 1, none⟩) hbw).trans s1; have s3 := (hSw.cell (p := ⟨bw, ow + 3, none⟩) hbw).trans s3; have s5 := (hSw.cell (p := ⟨bw, ow + 5, none⟩) hbw).trans s5); go_simp; (try with_reducible rfl))
      try simp only [Act.put, List.setIfInBounds_toArray, List.set_cons_zero, List.set_cons_succ]
      refine rgTake (i := 6) (d := 29) (v := ?_) rfl rfl (by kernel_rfl) (by kernel_rfl) (by kernel_rfl) (fun _ _ _ h => h) (by rfl) ?_ (by assumption) ?_
      rotate_left
      · ((intro w hSw); (try dsimp only at hSw); go_simp; (try with_reducible rfl))
      try simp only [Act.put, List.setIfInBounds_toArray, List.set_cons_zero, List.set_cons_succ]
      refine rgTake (i := 7) (d := 30) (v := ?_) rfl rfl (by kernel_rfl) (by kernel_rfl) (by kernel_rfl) (fun _ _ _ h => h) (by rfl) ?_ (by assumption) ?_
      rotate_left
      · ((intro w hSw); (try dsimp only at hSw); go_simp; (try with_reducible rfl))
      try simp only [Act.put, List.setIfInBounds_toArray, List.set_cons_zero, List.set_cons_succ]
      refine rgTake (i := 8) (d := 31) (v := ?_) rfl rfl (by kernel_rfl) (by kernel_rfl) (by kernel_rfl) (fun _ _ _ h => h) (by rfl) ?_ (by assumption) ?_
      rotate_left
      · ((intro w hSw); (try dsimp only at hSw); (have s1 := (hSw.cell (p := ⟨bw, ow + 1, none⟩) hbw).trans s1; have s3 := (hSw.cell (p := ⟨bw, ow + 3, none⟩) hbw).trans s3; have s5 := (hSw.cell (p := ⟨bw, ow + 5, none⟩) hbw).trans s5); go_simp; (try with_reducible rfl))
      try simp only [Act.put, List.setIfInBounds_toArray, List.set_cons_zero, List.set_cons_succ]
      refine rgTake (i := 9) (d := 32) (v := ?_) rfl rfl (by kernel_rfl) (by kernel_rfl) (by kernel_rfl) (fun _ _ _ h => h) (by rfl) ?_ (by assumption) ?_
      rotate_left
      · ((intro w hSw); (try dsimp only at hSw); go_simp; (try with_reducible rfl))
      try simp only [Act.put, List.setIfInBounds_toArray, List.set_cons_zero, List.set_cons_succ]
      refine rgTake (i := 10) (d := 33) (v := ?_) rfl rfl (by kernel_rfl) (by kernel_rfl) (by kernel_rfl) (fun _ _ _ h => h) (by rfl) ?_ (by assumption) ?_
      rotate_left
      · ((intro w hSw); (try dsimp only at hSw); go_simp; (try with_reducible rfl))
      try simp only [Act.put, List.setIfInBounds_toArray, List.set_cons_zero, List.set_cons_succ]
      refine wpAnyH_ready (rs := [11]) (by kernel_rfl) (by simp) ?_
      refine AllReadyH.cons rfl (fun K hK => ?_) AllReadyH.nil
      go_simp
      refine hK.out _ _ ?_ (fun hHeld => ?_)
      · (try dsimp only)
        exact hHeld.alloc hHeld.size _
      clear hK K
      try simp only [Act.put, List.setIfInBounds_toArray, List.set_cons_zero, List.set_cons_succ]
      refine wpAnyH_ready (rs := [12]) (by kernel_rfl) (by simp) ?_
      refine AllReadyH.cons rfl (fun K hK => ?_) AllReadyH.nil
      go_simp
      refine hK.out _ _ ?_ (fun hHeld => ?_)
      · (try dsimp only)
        exact (fun h9 : Below w8.heap.size w8 wx => h9.alloc h9.size _) (by assumption)
      clear hK K
      try simp only [Act.put, List.setIfInBounds_toArray, List.set_cons_zero, List.set_cons_succ]
      refine wpAnyH_done (by kernel_rfl) ?_ _
      go_wp2_with fail
      go_meet
      exact ⟨rfl, by have h9 := Blk.new wx 41 [.int .i64 0, .string r.name, .string r.club, .int .i64 0, .bool r.woman, .int .i64 0]; rw [hwx] at h9; exact h9, hHeld⟩
    case rest =>
    obtain ⟨rfl, B, hb⟩ := hcut
    have hg8 := G.size
    have hZ8 := Z.lt
    replace Z := Z.on hb
    replace G := G.trans (hb.mono G.size)
    replace s0 := (hb.cell (p := ⟨bw, ow, none⟩) hbw).trans s0
    have HS4 := Lib.hid ((hb.cell (p := ⟨bw, ow + 4, none⟩) hbw).trans s4)
    have HS7 := Lib.hid ((hb.cell (p := ⟨bw, ow + 7, none⟩) hbw).trans s7)
    have hbw2 := Nat.lt_of_lt_of_le hbw hb.size
    generalize hgx : w8.heap.size = gx at *
    have hgx0 : w.heap.size < gx := hZ8
    clear hb s1 s3 s5 s4 r6 HB8
    clear s7
    go_wp2_with fail
    refine (l1Read_any z0).mono ?_
    rintro e w9 ⟨rfl, hb⟩
    rw [R3.out]
    have s4 := (hb.cell (p := ⟨bw, ow + 4, none⟩) hbw2).trans HS4.out
    replace Z := Z.on hb
    replace G := G.trans (hb.mono G.size)
    replace B := B.on hb
    have HT7 := Lib.hid ((hb.cell (p := ⟨bw, ow + 7, none⟩) hbw2).trans HS7.out)
    have hbw3 := Nat.lt_of_lt_of_le hbw2 hb.size
    have fb0 := B.frozen 0
    obtain ⟨b0, b1, b2, b3, b4, b5⟩ := blk6 B
    have HB2 := Lib.hid (B.set_ 0 (.int .i64 r.id))
    have HZ2 := Lib.hid (Z.far (p := ⟨gx, 0, none⟩) (by show w.heap.size ≠ gx; omega) (.int .i64 r.id))
    have HG2 := Lib.hid (G.setCell (p := ⟨gx, 0, none⟩) (by show w.heap.size ≤ gx; omega) (.int .i64 r.id))
    have hne4 : bw ≠ gx := by omega
    clear hb s0 HS4 B Z G
    have HU7 := Lib.hid ((World.cell?_setCell_far w9 ⟨gx, 0, none⟩ ⟨bw, ow + 7, none⟩ (.int .i64 r.id) (fun e => hne4 e.symm)).trans HT7.out)
    go_wp2_with fail
    refine (l1Read_any z4).mono ?_
    rintro e w10 ⟨rfl, hb⟩
    rw [R4.out]
    have B := HB2.out.on hb
    have Z := HZ2.out.on hb
    have G := HG2.out.trans (hb.mono HG2.out.size)
    have HV7 := Lib.hid ((hb.cell (p := ⟨bw, ow + 7, none⟩) (by simpa using hbw3)).trans HU7.out)
    clear b0 b1 b2 b3 b4 b5 fb0 HB2 HZ2 HG2 hb s4
    have fb3 := B.frozen 3
    obtain ⟨b0, b1, b2, b3, b4, b5⟩ := blk6 B
    have HB2 := Lib.hid (B.set_ 3 (.int .i64 r.born))
    have HZ2 := Lib.hid (Z.far (p := ⟨gx, 3, none⟩) (by show w.heap.size ≠ gx; omega) (.int .i64 r.born))
    have HG2 := Lib.hid (G.setCell (p := ⟨gx, 3, none⟩) (by show w.heap.size ≤ gx; omega) (.int .i64 r.born))
    clear B Z G
    have s7 := (World.cell?_setCell_far w10 ⟨gx, 3, none⟩ ⟨bw, ow + 7, none⟩ (.int .i64 r.born) (fun e => hne4 e.symm)).trans HV7.out
    go_wp2_with fail
    refine (l1Read_any z7).mono ?_
    rintro e w11 ⟨rfl, hb⟩
    rw [R5.out]
    have B := HB2.out.on hb
    have Z := HZ2.out.on hb
    have G := HG2.out.trans (hb.mono HG2.out.size)
    clear b0 b1 b2 b3 b4 b5 fb3 HB2 HZ2 HG2 hb s7
    have fb5 := B.frozen 5
    obtain ⟨b0, b1, b2, b3, b4, b5⟩ := blk6 B
    have HB2 := Lib.hid (B.set_ 5 (.int .i64 r.card))
    have HZ2 := Lib.hid (Z.far (p := ⟨gx, 5, none⟩) (by show w.heap.size ≠ gx; omega) (.int .i64 r.card))
    have HG2 := Lib.hid (G.setCell (p := ⟨gx, 5, none⟩) (by show w.heap.size ≤ gx; omega) (.int .i64 r.card))
    clear B Z G
    have HBF : Hid (∀ w', Blk w' gx 41 ([.int .i64 r.id, .string r.name, .string r.club, .int .i64 r.born, .bool r.woman, .int .i64 r.card] : List Value) → Blk w' gx 41 r.cells) := (fun w' h => by exact h : ∀ w', Blk w' gx 41 ([.int .i64 r.id, .string r.name, .string r.club, .int .i64 r.born, .bool r.woman, .int .i64 r.card] : List Value) → Blk w' gx 41 r.cells)
    have zn : r.name.size ≤ maxLen := by simp only [maxLen]; omega
    have zc : r.club.size ≤ maxLen := by simp only [maxLen]; omega
    have q1 := neb_test (rtB r) s
    have q2 := eqb_test (rtB r) s
    go_upto_region 10 with (fail)
    have B := HBF.out _ HB2.out
    have Z := HZ2.out
    have G := HG2.out
    clear b0 b1 b2 b3 b4 b5 fb5 HB2 HZ2 HG2 HBF
    obtain ⟨b0, b1, b2, b3, b4, b5⟩ := blk6 B
    cases hok : rnOk r
    · have HP := Lib.hid (ps_no3 (s := s) (by rw [HRR.out]; exact hok))
      go_wp2_with fail
      refine (IsRunner_l5 r _ zn zc).mono ?_
      rintro e w20 ⟨rfl, hb⟩
      rw [hok]
      replace Z := Z.on hb
      replace G := G.trans (hb.mono G.size)
      clear hb b0 b1 b2 b3 b4 b5 B
      obtain ⟨z0, z1, z2, z3, z4, z5⟩ := RnAt.blk (r := rnZ0) Z
      simp only [Nat.zero_add] at z1 z2 z3 z4 z5
      have f0 := Z.frozen 0
      have f1 := Z.frozen 1
      have f2 := Z.frozen 2
      have f3 := Z.frozen 3
      have f4 := Z.frozen 4
      have f5 := Z.frozen 5
      have Z2 := Z.put6 0 rnZ0
      obtain ⟨q0, q1, q2, q3, q4, q5⟩ := RnAt.blk (r := rnZ0) Z2
      simp only [Nat.zero_add] at q0 q1 q2 q3 q4 q5
      have GP := below_put6 G (Nat.le_refl _) 0 rnZ0
      simp only [Nat.zero_add] at GP
      simp only [rnZ0] at q0 q1 q2 q3 q4 q5
      clear Z2
      go_wp2_with fail
      refine bodyPost_ret (v := .tuple #[.agg #[.int .i64 0, .string ⟨#[]⟩, .string ⟨#[]⟩, .int .i64 0, .bool false, .int .i64 0], .bool false]) (by simp [results, Tryz.results25, go_sem, q0, q1, q2, q3, q4, q5]) rfl ⟨by rw [HP.out.1, HP.out.2] <;> rfl, GP⟩
    · cases hz : decide (rtB r = s)
      · have HP := Lib.hid (ps_no4 (s := s) (by rw [HRR.out]; exact hz))
        rw [hz] at q1 q2
        rw [Bool.not_false] at q1
        go_wp2_with fail
        refine (IsRunner_l5 r _ zn zc).mono ?_
        rintro e w20 ⟨rfl, hb⟩
        rw [hok]
        replace Z := Z.on hb
        replace B := B.on hb
        replace G := G.trans (hb.mono G.size)
        clear hb b0 b1 b2 b3 b4 b5
        obtain ⟨b0, b1, b2, b3, b4, b5⟩ := blk6 B
        go_wp2_with fail
        refine (l5Text_any hok).mono ?_
        rintro e w21 ⟨rfl, hb⟩
        replace Z := Z.on hb
        replace G := G.trans (hb.mono G.size)
        clear hb b0 b1 b2 b3 b4 b5 B
        obtain ⟨z0, z1, z2, z3, z4, z5⟩ := RnAt.blk (r := rnZ0) Z
        simp only [Nat.zero_add] at z1 z2 z3 z4 z5
        have f0 := Z.frozen 0
        have f1 := Z.frozen 1
        have f2 := Z.frozen 2
        have f3 := Z.frozen 3
        have f4 := Z.frozen 4
        have f5 := Z.frozen 5
        have Z2 := Z.put6 0 rnZ0
        obtain ⟨q0, q1, q2, q3, q4, q5⟩ := RnAt.blk (r := rnZ0) Z2
        simp only [Nat.zero_add] at q0 q1 q2 q3 q4 q5
        have GP := below_put6 G (Nat.le_refl _) 0 rnZ0
        simp only [Nat.zero_add] at GP
        simp only [rnZ0] at q0 q1 q2 q3 q4 q5
        clear Z2
        go_wp2_with fail
        refine bodyPost_ret (v := .tuple #[.agg #[.int .i64 0, .string ⟨#[]⟩, .string ⟨#[]⟩, .int .i64 0, .bool false, .int .i64 0], .bool false]) (by simp [results, Tryz.results25, go_sem, q0, q1, q2, q3, q4, q5]) rfl ⟨by rw [HP.out.1, HP.out.2] <;> rfl, GP⟩
      · have HP := Lib.hid (pr_some hok (of_decide_eq_true hz))
        rw [hz] at q1 q2
        rw [Bool.not_true] at q1
        go_wp2_with fail
        refine (IsRunner_l5 r _ zn zc).mono ?_
        rintro e w20 ⟨rfl, hb⟩
        rw [hok]
        replace Z := Z.on hb
        replace B := B.on hb
        replace G := G.trans (hb.mono G.size)
        clear hb b0 b1 b2 b3 b4 b5
        obtain ⟨b0, b1, b2, b3, b4, b5⟩ := blk6 B
        go_wp2_with fail
        refine (l5Text_any hok).mono ?_
        rintro e w21 ⟨rfl, hb⟩
        replace Z := Z.on hb
        replace B := B.on hb
        replace G := G.trans (hb.mono G.size)
        clear hb b0 b1 b2 b3 b4 b5
        go_upto_region 12 with (fail)
        obtain ⟨c0, c1, c2, c3, c4, c5⟩ := RnAt.blk (r := r) B
        simp only [Nat.zero_add] at c1 c2 c3 c4 c5
        obtain ⟨z0, z1, z2, z3, z4, z5⟩ := RnAt.blk (r := rnZ0) Z
        simp only [Nat.zero_add] at z1 z2 z3 z4 z5
        have f0 := Z.frozen 0
        have f1 := Z.frozen 1
        have f2 := Z.frozen 2
        have f3 := Z.frozen 3
        have f4 := Z.frozen 4
        have f5 := Z.frozen 5
        have Z2 := Z.put6 0 r
        obtain ⟨q0, q1, q2, q3, q4, q5⟩ := RnAt.blk (r := r) Z2
        simp only [Nat.zero_add] at q0 q1 q2 q3 q4 q5
        have GP := below_put6 G (Nat.le_refl _) 0 r
        simp only [Nat.zero_add] at GP
        clear Z2
        go_wp2_with fail
        refine bodyPost_ret (v := .tuple #[.agg #[.int .i64 r.id, .string r.name, .string r.club, .int .i64 r.born, .bool r.woman, .int .i64 r.card], .bool true]) (by simp [results, Tryz.results25, go_sem, q0, q1, q2, q3, q4, q5]) rfl ⟨by rw [HP.out.1, HP.out.2] <;> rfl, GP⟩
  · have HP := Lib.hid (ps_no2 (s := s) (by omega) (by omega))
    have h6i : ¬ (n : Int) = 6 := by omega
    have h8i : ¬ (n : Int) = 8 := by omega
    have h6b : ((n : Int) == 6) = false := by simpa using h6i
    have h8b : ((n : Int) == 8) = false := by simpa using h8i
    have h6c : ((n : Int) != 6) = true := by simpa using h6i
    have h8c : ((n : Int) != 8) = true := by simpa using h8i
    go_enter Tryz.func25, Tryz.ntmps25
    go_wp2_with fail
    refine HS.out.mono ?_
    rintro e w1 ⟨A, cp, rfl, O, hb⟩
    replace Z := Z.on hb
    replace G := G.trans (hb.mono G.size)
    clear hb O
    obtain ⟨z0, z1, z2, z3, z4, z5⟩ := RnAt.blk (r := rnZ0) Z
    simp only [Nat.zero_add] at z1 z2 z3 z4 z5
    have f0 := Z.frozen 0
    have f1 := Z.frozen 1
    have f2 := Z.frozen 2
    have f3 := Z.frozen 3
    have f4 := Z.frozen 4
    have f5 := Z.frozen 5
    have Z2 := Z.put6 0 rnZ0
    obtain ⟨q0, q1, q2, q3, q4, q5⟩ := RnAt.blk (r := rnZ0) Z2
    simp only [Nat.zero_add] at q0 q1 q2 q3 q4 q5
    have GP := below_put6 G (Nat.le_refl _) 0 rnZ0
    simp only [Nat.zero_add] at GP
    simp only [rnZ0] at q0 q1 q2 q3 q4 q5
    clear Z2
    go_wp2_with fail
    refine bodyPost_ret (v := .tuple #[.agg #[.int .i64 0, .string ⟨#[]⟩, .string ⟨#[]⟩, .int .i64 0, .bool false, .int .i64 0], .bool false]) (by simp [results, Tryz.results25, go_sem, q0, q1, q2, q3, q4, q5]) rfl ⟨by rw [HP.out.1, HP.out.2] <;> rfl, GP⟩
end Go.Proofs.YtmmpcchjalgokaaGreatDoor
