/- Contracts: ParseFeature, the reference's. -/
import Derived.Test.YtmmpcchjalgokaaGreatDoorPfw
namespace Go.Proofs.YtmmpcchjalgokaaGreatDoor
set_option linter.unusedVariables false
set_option linter.unusedSimpArgs false
open Go.RowKit
theorem own_set9 {w : World} {base n size : Nat} {e : TypeId} {v : Value} {xs : List Value} (h : w.ownsRow base e size v n xs) (p : Addr) (u : Value) (hne : ∀ k, v.ownBlock = some k → k ≠ p.block) : (w.setCell p u).ownsRow base e size v n xs :=
  own_ch (S := fun k => k = p.block) h ⟨rfl, rfl, rfl, (by simp), fun k _ hk => Below.heap_setCell w p u k hk⟩ (fun k hk e => hne k hk e)
theorem ps_bad0 {s : ByteArray} (h : 60 < s.size) : pfOk s = false ∧ pfV s = ftZ := pf_fail fun f h1 h2 => by
  have := (pf_key h1 h2).size
  omega
theorem ps_bad2 {s : ByteArray} (h : okFt (cfS s) = false) : pfOk s = false ∧ pfV s = ftZ := pf_fail fun f h1 h2 => by
  rw [(pf_key h1 h2).candS, h1] at h; cases h
theorem ps_bad3 {s : ByteArray} (h : decide (ftB (cfS s) = s) = false) : pfOk s = false ∧ pfV s = ftZ := pf_fail fun f h1 h2 => by
  rw [(pf_key h1 h2).candS, decide_eq_false_iff_not] at h
  exact h h2
theorem gS_succ (ws : List ByteArray) (k : Nat) : gS ws (k + 1) = stS (ws.getD k ⟨#[]⟩) (gS ws k) (ws.getD (k + 1) ⟨#[]⟩) := rfl
theorem eqb_f (a : ByteArray) (l : List UInt8) : (a.toList == l) = decide (a = ⟨l.toArray⟩) := by
  rw [Lib.toList_data]
  by_cases h : a = ⟨l.toArray⟩
  · subst h; simp
  · rw [decide_eq_false h]
    have : a.data.toList ≠ l := fun e => h (by apply ByteArray.ext; rw [← e])
    simpa using this
set_option maxRecDepth 100000 in
set_option maxHeartbeats 8000000 in
theorem ParseFeature_spec {s : ByteArray} {w : World} (hs : s.size ≤ 1048576) :
    Calls Tryz.prog 12 #[.string s] w fun e w' => e = .returned (.tuple #[.agg #[.int .i64 (pfV s).code, .string (pfV s).which, .string (pfV s).what, .string (pfV s).look, .string (pfV s).side], .bool (pfOk s)]) ∧ Below w.heap.size w w' := by
  have HCL := Lib.hid (cuts_len s 32)
  have HCS := Lib.hid (cuts_sz5 s 32)
  have Z := Blk.new w 25 [.int .i64 0, .string ByteArray.empty, .string ByteArray.empty, .string ByteArray.empty, .string ByteArray.empty]
  have G : Below w.heap.size w (w.alloc (.cells #[.int .i64 0, .string ByteArray.empty, .string ByteArray.empty, .string ByteArray.empty, .string ByteArray.empty] 25)) := (by repeat (first | exact Below.refl _ _ | refine below_drewN ?_ _ | refine Below.drew ?_ | refine Below.alloc ?_ (by first | omega | (simp; done) | (simp; omega)) _ | refine Below.setCell ?_ (by first | omega | (simp; done) | (simp; omega)) _))
  have HSP := l1Split_any s 32 (w.alloc (.cells #[.int .i64 0, .string ByteArray.empty, .string ByteArray.empty, .string ByteArray.empty, .string ByteArray.empty] 25)) hs
  obtain ⟨ws, hws⟩ : ∃ ws, cuts s 32 = ws := ⟨_, rfl⟩
  have HWS := Lib.hid hws
  obtain ⟨n, hn⟩ : ∃ n, ws.length = n := ⟨_, rfl⟩
  have HN := Lib.hid hn
  rw [hws] at HCL HCS HSP
  rw [hn] at HSP
  have HSH := Lib.hid HSP
  clear HSP
  have hn1 : 1 ≤ n ∧ n ≤ 1048577 := by have := HCL.out; omega
  by_cases h60 : 60 < s.size
  · have HP := Lib.hid (ps_bad0 h60)
    have h60i : (60 : Int) < (s.size : Int) := by omega
    go_enter Tryz.func12, Tryz.ntmps12
    go_wp2_with fail
    refine HSH.out.mono ?_
    rintro e w1 ⟨A, cp, rfl, O, hb⟩
    replace Z := Z.on hb
    replace G := G.trans (hb.mono G.size)
    clear hb O
    obtain ⟨z0, z1, z2, z3, z4⟩ := blk5 Z
    have f0 := Z.frozen 0
    have f1 := Z.frozen 1
    have f2 := Z.frozen 2
    have f3 := Z.frozen 3
    have f4 := Z.frozen 4
    have Z2 := Z.put5 ftZ
    obtain ⟨q0, q1, q2, q3, q4⟩ := blk5 (show Blk _ _ _ (Ft.cells ftZ) from Z2)
    have GP := below_put5 G (Nat.le_refl w.heap.size) ftZ
    clear Z2
    simp only [ftZ] at q0 q1 q2 q3 q4 GP
    go_wp2_with fail
    refine bodyPost_ret (v := .tuple #[.agg #[.int .i64 0, .string ⟨#[]⟩, .string ⟨#[]⟩, .string ⟨#[]⟩, .string ⟨#[]⟩], .bool false]) (by simp [results, Tryz.results12, go_sem, q0, q1, q2, q3, q4]) rfl ⟨by rw [HP.out.1, HP.out.2] <;> rfl, GP⟩
  have h60i : ¬ (60 : Int) < (s.size : Int) := by omega
  obtain ⟨x0, hx0⟩ : ∃ x0, ws.getD 0 ⟨#[]⟩ = x0 := ⟨_, rfl⟩
  have HX0 := Lib.hid hx0
  have hx0s : x0.size ≤ 1048576 := by
    rw [← hx0, getB (by omega)]
    have := HCS.out _ (List.getElem_mem (show 0 < ws.length by omega))
    omega
  go_enter Tryz.func12, Tryz.ntmps12
  go_wp2_with fail
  refine HSH.out.mono ?_
  rintro e w1 ⟨A, cp, rfl, O, hb⟩
  replace Z := Z.on hb
  replace G := G.trans (hb.mono G.size)
  replace O := own_le O (base' := w.heap.size) (by simp)
  obtain ⟨bw, ow, hA, hbw, hcw⟩ := (Rd.of_own O).str5 (by omega)
  subst hA
  have c0 : w1.cell? ⟨bw, ow, none⟩ = some (.string x0) := by rw [← hx0, getB (by omega)]; exact hcw 0 (by omega)
  have hOX : ∀ k, (Value.slice (some ⟨bw, ow, none⟩) n cp).ownBlock = some k → k ≠ w1.heap.size := fun k hk => by have := (O.lt k hk).2; omega
  have HOX := Lib.hid hOX
  have hz1 := Z.lt
  replace c0 := ((Below.alloc (Below.refl w1.heap.size w1) (Nat.le_refl _) (.cells #[.int .i64 0, .string ⟨#[]⟩, .string ⟨#[]⟩, .string ⟨#[]⟩, .string ⟨#[]⟩] 25)).cell (p := ⟨bw, ow, none⟩) hbw).trans c0
  have X := Blk.new w1 25 [.int .i64 0, .string ⟨#[]⟩, .string ⟨#[]⟩, .string ⟨#[]⟩, .string ⟨#[]⟩]
  replace O := O.alloc (.cells #[.int .i64 0, .string ⟨#[]⟩, .string ⟨#[]⟩, .string ⟨#[]⟩, .string ⟨#[]⟩] 25)
  replace Z := Z.alloc (.cells #[.int .i64 0, .string ⟨#[]⟩, .string ⟨#[]⟩, .string ⟨#[]⟩, .string ⟨#[]⟩] 25)
  replace G := G.alloc G.size (.cells #[.int .i64 0, .string ⟨#[]⟩, .string ⟨#[]⟩, .string ⟨#[]⟩, .string ⟨#[]⟩] 25)
  have h0n : (0 : Int) < (n : Int) := by omega
  have h0n' : 0 < n := by omega
  clear hcw hb hOX hx0 hws hn HSH
  go_upto_region 5 with (fail)
  go_wp2_with fail
  refine (l1Read_any hx0s).mono ?_
  rintro e w2 ⟨rfl, hb⟩
  replace X := X.on hb
  replace O := own_below O hb
  replace Z := Z.on hb
  replace G := G.trans (hb.mono G.size)
  have hxl := X.lt
  have fx := X.frozen 0
  obtain ⟨p0, p1, p2, p3, p4⟩ := blk5 X
  have HX := Lib.hid (X.set_ 0 (.int .i64 (rdV x0)))
  have HO := Lib.hid (own_set9 O ⟨w1.heap.size, 0, none⟩ (.int .i64 (rdV x0)) HOX.out)
  have HZ := Lib.hid (Z.far (p := ⟨w1.heap.size, 0, none⟩) (by show w.heap.size ≠ w1.heap.size; omega) (.int .i64 (rdV x0)))
  have HG := Lib.hid (G.setCell (p := ⟨w1.heap.size, 0, none⟩) (by show w.heap.size ≤ w1.heap.size; omega) (.int .i64 (rdV x0)))
  have HG0 : Hid (gS ws 0 = ⟨rdV x0, ⟨#[]⟩, ⟨#[]⟩, ⟨#[]⟩, ⟨#[]⟩⟩) := (by show (⟨rdV (ws.getD 0 ⟨#[]⟩), _, _, _, _⟩ : Ft) = _; rw [HX0.out] : gS ws 0 = _)
  clear X O Z G hb c0
  go_wp2_with fail
  go_loopw [6] (fun i wr => ∃ k : Nat, k + 1 ≤ n ∧ i = .int .i64 ((k : Int) + 1) ∧ Blk wr w1.heap.size 25 [.int .i64 (gS ws k).code, .string (gS ws k).which, .string (gS ws k).what, .string (gS ws k).look, .string (gS ws k).side] ∧ wr.ownsRow w.heap.size 9 1 (.slice (some ⟨bw, ow, none⟩) n cp) n (strs ws) ∧ Blk wr w.heap.size 25 [.int .i64 0, .string ByteArray.empty, .string ByteArray.empty, .string ByteArray.empty, .string ByteArray.empty] ∧ Below w.heap.size w wr) (fun i _ => n - (intOf i).toNat)
  case atStart => exact ⟨0, by omega, by simp, (by rw [HG0.out]; exact HX.out), HO.out, HZ.out, HG.out⟩
  clear HX HO HZ HG p0 p1 p2 p3 p4 fx
  case round =>
    obtain ⟨k, hk, rfl, X, O, Z, G⟩ := hrel
    by_cases hlt : k + 1 < n
    · have hl0 : k < ws.length := by rw [HN.out]; omega
      have hl1 : k + 1 < ws.length := by rw [HN.out]; omega
      obtain ⟨bw9, ow9, hA, hbw, hcw⟩ := (Rd.of_own O).str5 (by omega)
      obtain ⟨rfl, rfl⟩ : bw = bw9 ∧ ow = ow9 := by simpa using hA
      have ck0 := hcw k hl0
      have ck1 := hcw (k + 1) hl1
      have HGS : Hid (gS ws (k + 1) = stS ws[k] (gS ws k) ws[k + 1]) := (by rw [gS_succ, getB hl0, getB hl1] : gS ws (k + 1) = _)
      generalize ws[k] = x8 at *
      generalize ws[k + 1] = x9 at *
      have hwk : IntKind.i64.wrap ((k : Int) + 1 - 1) = (k : Int) := by rw [IntWalk.i64_in _ (by omega)]; omega
      have hwk2 : IntKind.i64.wrap ((k : Int) + 1 + 1) = (k : Int) + 1 + 1 := IntWalk.i64_in _ (by omega)
      have hki0 : (0 : Int) ≤ (k : Int) + 1 := by omega
      have hki : (k : Int) + 1 < (n : Int) := by omega
      have hki2 : (k : Int) < (n : Int) := by omega
      have hkn : k < n := by omega
      have hxl := X.lt
      have hzl := Z.lt
      obtain ⟨p0, p1, p2, p3, p4⟩ := blk5 X
      have q1 := eqb_f x8 [115, 105, 100, 101]
      clear hcw hA
      by_cases hsd : x8 = sideW
      · have e8 : (x8.toList == [115, 105, 100, 101]) = true := by rw [q1]; exact decide_eq_true hsd
        have HST : Hid (gS ws (k + 1) = ⟨(gS ws k).code, (gS ws k).which, (gS ws k).what, (gS ws k).look, x9⟩) := (by rw [HGS.out]; unfold stS; rw [if_pos hsd] : gS ws (k + 1) = _)
        clear q1 hsd
        have hxl := X.lt
        have fx := X.frozen 4
        have HX := Lib.hid (X.set_ 4 (.string x9))
        have HO := Lib.hid (own_set9 O ⟨w1.heap.size, 4, none⟩ (.string x9) HOX.out)
        have HZ := Lib.hid (Z.far (p := ⟨w1.heap.size, 4, none⟩) (by show w.heap.size ≠ w1.heap.size; omega) (.string x9))
        have HG := Lib.hid (G.setCell (p := ⟨w1.heap.size, 4, none⟩) (by show w.heap.size ≤ w1.heap.size; omega) (.string x9))
        clear X O Z G
        go_wp2_with fail
        go_roundw
        case rel => exact ⟨k + 1, by omega, by go_num, (by rw [HST.out]; exact HX.out), HO.out, HZ.out, HG.out⟩
        case measure => simp [intOf]; omega
      have e8 : (x8.toList == [115, 105, 100, 101]) = false := by rw [q1]; exact decide_eq_false hsd
      by_cases hfm : 0 ≤ famI x9
      · have HST : Hid (gS ws (k + 1) = ⟨(gS ws k).code, (gS ws k).which, x9, (gS ws k).look, (gS ws k).side⟩) := (by rw [HGS.out]; unfold stS; rw [if_neg hsd, if_pos hfm] : gS ws (k + 1) = _)
        clear q1 hsd
        go_wp2_with fail
        refine (l3Family_any x9 _).mono ?_
        rintro e w4 ⟨rfl, hb⟩
        replace ck1 := (hb.cell (p := ⟨bw, ow + (k + 1), none⟩) hbw).trans ck1
        replace hbw := Nat.lt_of_lt_of_le hbw hb.size
        replace X := X.on hb
        replace O := own_below O hb
        replace Z := Z.on hb
        replace G := G.trans (hb.mono G.size)
        clear hb
        clear p0 p1 p2 p3 p4
        obtain ⟨p0, p1, p2, p3, p4⟩ := blk5 X
        have hxl := X.lt
        have fx := X.frozen 2
        have HX := Lib.hid (X.set_ 2 (.string x9))
        have HO := Lib.hid (own_set9 O ⟨w1.heap.size, 2, none⟩ (.string x9) HOX.out)
        have HZ := Lib.hid (Z.far (p := ⟨w1.heap.size, 2, none⟩) (by show w.heap.size ≠ w1.heap.size; omega) (.string x9))
        have HG := Lib.hid (G.setCell (p := ⟨w1.heap.size, 2, none⟩) (by show w.heap.size ≤ w1.heap.size; omega) (.string x9))
        clear X O Z G
        go_wp2_with fail
        go_roundw
        case rel => exact ⟨k + 1, by omega, by go_num, (by rw [HST.out]; exact HX.out), HO.out, HZ.out, HG.out⟩
        case measure => simp [intOf]; omega
      have hfm2 : famI x9 < 0 := by omega
      have hfd : decide (0 ≤ famI x9) = false := by simp; omega
      have HGT : Hid (gS ws (k + 1) = if inB whichL x9 = true then ⟨(gS ws k).code, x9, (gS ws k).what, (gS ws k).look, (gS ws k).side⟩ else if inB lookL x9 = true then ⟨(gS ws k).code, (gS ws k).which, (gS ws k).what, x9, (gS ws k).side⟩ else gS ws k) := (by rw [HGS.out]; unfold stS; rw [if_neg hsd, if_neg hfm] : gS ws (k + 1) = _)
      clear q1 hsd HGS
      go_wp2_with fail
      refine (l3Family_any x9 _).mono ?_
      rintro e w4 ⟨rfl, hb⟩
      replace ck1 := (hb.cell (p := ⟨bw, ow + (k + 1), none⟩) hbw).trans ck1
      replace hbw := Nat.lt_of_lt_of_le hbw hb.size
      replace X := X.on hb
      replace O := own_below O hb
      replace Z := Z.on hb
      replace G := G.trans (hb.mono G.size)
      clear hb
      clear p0 p1 p2 p3 p4 ck0
      go_upto_region 13 with (fail)
      cases hin : inB whichL x9
      rotate_left
      · obtain ⟨i1, i2, i3⟩ := idx_pos hin
        have HST := Lib.hid HGT.out
        rw [hin] at HST
        clear hin
        go_cut [52] (fun x wx => x = .bool true ∧ Below w4.heap.size w4 wx)
        case first =>
          have GR := (Below.refl w4.heap.size w4)
          refine wp_region_held_drew (S := fun w' => Below w4.heap.size w4 w') (by kernel_rfl) ?_ (fun hHeld => ?_)
          · (try dsimp only)
            first | exact Below.drew GR | exact hHeld
          refine rgTake (i := 1) (d := 54) (v := ?_) rfl rfl (by kernel_rfl) (by kernel_rfl) (by kernel_rfl) (fun _ _ _ h => h) (by rfl) ?_ (by assumption) ?_
          rotate_left
          · ((intro w hSw); (try dsimp only at hSw); go_simp; (try with_reducible rfl))
          try simp only [Act.put, List.setIfInBounds_toArray, List.set_cons_zero, List.set_cons_succ]
          refine rgTake (i := 2) (d := 55) (v := ?_) rfl rfl (by kernel_rfl) (by kernel_rfl) (by kernel_rfl) (fun _ _ _ h => h) (by rfl) ?_ (by assumption) ?_
          rotate_left
          · ((intro w hSw); (try dsimp only at hSw); go_simp; (try with_reducible rfl))
          try simp only [Act.put, List.setIfInBounds_toArray, List.set_cons_zero, List.set_cons_succ]
          refine rgTake (i := 3) (d := 56) (v := ?_) rfl rfl (by kernel_rfl) (by kernel_rfl) (by kernel_rfl) (fun _ _ _ h => h) (by rfl) ?_ (by assumption) ?_
          rotate_left
          · ((intro w hSw); (try dsimp only at hSw); go_simp; (try with_reducible rfl))
          try simp only [Act.put, List.setIfInBounds_toArray, List.set_cons_zero, List.set_cons_succ]
          refine rgTake (i := 4) (d := 57) (v := ?_) rfl rfl (by kernel_rfl) (by kernel_rfl) (by kernel_rfl) (fun _ _ _ h => h) (by rfl) ?_ (by assumption) ?_
          rotate_left
          · ((intro w hSw); (try dsimp only at hSw); (have ck1 := (hSw.cell (p := ⟨bw, ow + (k + 1), none⟩) hbw).trans ck1); go_simp; (try with_reducible rfl))
          try simp only [Act.put, List.setIfInBounds_toArray, List.set_cons_zero, List.set_cons_succ]
          refine wpAnyH_ready (rs := [0]) (by kernel_rfl) (by simp) ?_
          refine AllReadyH.cons rfl (fun K hK => ?_) AllReadyH.nil
          go_simp
          refine (l3Whiches_any _).mono ?_; rintro e wa ⟨gw, rfl, Bw, hb6⟩
          go_wp2_with fail
          refine hK.out _ _ ?_ (fun hHeld => ?_)
          · (try dsimp only)
            exact hHeld.trans (hb6.mono hHeld.size)
          clear hK K
          try simp only [Act.put, List.setIfInBounds_toArray, List.set_cons_zero, List.set_cons_succ]
          refine wpAnyH_ready (rs := [5]) (by kernel_rfl) (by simp) ?_
          refine AllReadyH.cons rfl (fun K hK => ?_) AllReadyH.nil
          go_simp
          refine (l3At_any (Bw.rd2 (n := 7) rfl Bw.lt) (by omega)).mono ?_; rintro e wa ⟨rfl, rfl⟩
          go_wp2_with fail
          refine hK.out _ _ ?_ (fun hHeld => ?_)
          · (try dsimp only)
            exact hHeld
          clear hK K
          try simp only [Act.put, List.setIfInBounds_toArray, List.set_cons_zero, List.set_cons_succ]
          refine rgTake (i := 6) (d := 59) (v := ?_) rfl rfl (by kernel_rfl) (by kernel_rfl) (by kernel_rfl) (fun _ _ _ h => h) (by rfl) ?_ (by assumption) ?_
          rotate_left
          · ((intro w hSw); (try dsimp only at hSw); go_simp; (try with_reducible rfl))
          try simp only [Act.put, List.setIfInBounds_toArray, List.set_cons_zero, List.set_cons_succ]
          refine rgTake (i := 7) (d := 52) (v := ?_) rfl rfl (by kernel_rfl) (by kernel_rfl) (by kernel_rfl) (fun _ _ _ h => h) (by rfl) ?_ (by assumption) ?_
          rotate_left
          · ((intro w hSw); (try dsimp only at hSw); go_simp; (try with_reducible rfl))
          try simp only [Act.put, List.setIfInBounds_toArray, List.set_cons_zero, List.set_cons_succ]
          refine wpAnyH_done (by kernel_rfl) ?_ _
          go_wp2_with fail
          go_meet
          exact ⟨rfl, hHeld⟩
        case rest =>
        obtain ⟨rfl, hb⟩ := hcut
        replace ck1 := (hb.cell (p := ⟨bw, ow + (k + 1), none⟩) hbw).trans ck1
        replace hbw := Nat.lt_of_lt_of_le hbw hb.size
        replace X := X.on hb
        replace O := own_below O hb
        replace Z := Z.on hb
        replace G := G.trans (hb.mono G.size)
        clear hb
        obtain ⟨p0, p1, p2, p3, p4⟩ := blk5 X
        have hxl := X.lt
        have fx := X.frozen 1
        have HX := Lib.hid (X.set_ 1 (.string x9))
        have HO := Lib.hid (own_set9 O ⟨w1.heap.size, 1, none⟩ (.string x9) HOX.out)
        have HZ := Lib.hid (Z.far (p := ⟨w1.heap.size, 1, none⟩) (by show w.heap.size ≠ w1.heap.size; omega) (.string x9))
        have HG := Lib.hid (G.setCell (p := ⟨w1.heap.size, 1, none⟩) (by show w.heap.size ≤ w1.heap.size; omega) (.string x9))
        clear X O Z G
        go_wp2_with fail
        go_roundw
        case rel => exact ⟨k + 1, by omega, by go_num, (by rw [HST.out]; exact HX.out), HO.out, HZ.out, HG.out⟩
        case measure => simp [intOf]; omega
      obtain ⟨i1, i2, i3⟩ := idx_neg hin
      rw [hin] at HGT
      clear hin
      go_cut [52] (fun x wx => x = .bool false ∧ Below w4.heap.size w4 wx)
      case first =>
        have GR := (Below.refl w4.heap.size w4)
        refine wp_region_held_drew (S := fun w' => Below w4.heap.size w4 w') (by kernel_rfl) ?_ (fun hHeld => ?_)
        · (try dsimp only)
          first | exact Below.drew GR | exact hHeld
        refine rgTake (i := 1) (d := 54) (v := ?_) rfl rfl (by kernel_rfl) (by kernel_rfl) (by kernel_rfl) (fun _ _ _ h => h) (by rfl) ?_ (by assumption) ?_
        rotate_left
        · ((intro w hSw); (try dsimp only at hSw); go_simp; (try with_reducible rfl))
        try simp only [Act.put, List.setIfInBounds_toArray, List.set_cons_zero, List.set_cons_succ]
        refine rgTake (i := 2) (d := 55) (v := ?_) rfl rfl (by kernel_rfl) (by kernel_rfl) (by kernel_rfl) (fun _ _ _ h => h) (by rfl) ?_ (by assumption) ?_
        rotate_left
        · ((intro w hSw); (try dsimp only at hSw); go_simp; (try with_reducible rfl))
        try simp only [Act.put, List.setIfInBounds_toArray, List.set_cons_zero, List.set_cons_succ]
        refine rgTake (i := 3) (d := 56) (v := ?_) rfl rfl (by kernel_rfl) (by kernel_rfl) (by kernel_rfl) (fun _ _ _ h => h) (by rfl) ?_ (by assumption) ?_
        rotate_left
        · ((intro w hSw); (try dsimp only at hSw); go_simp; (try with_reducible rfl))
        try simp only [Act.put, List.setIfInBounds_toArray, List.set_cons_zero, List.set_cons_succ]
        refine rgTake (i := 4) (d := 57) (v := ?_) rfl rfl (by kernel_rfl) (by kernel_rfl) (by kernel_rfl) (fun _ _ _ h => h) (by rfl) ?_ (by assumption) ?_
        rotate_left
        · ((intro w hSw); (try dsimp only at hSw); (have ck1 := (hSw.cell (p := ⟨bw, ow + (k + 1), none⟩) hbw).trans ck1); go_simp; (try with_reducible rfl))
        try simp only [Act.put, List.setIfInBounds_toArray, List.set_cons_zero, List.set_cons_succ]
        refine wpAnyH_ready (rs := [0]) (by kernel_rfl) (by simp) ?_
        refine AllReadyH.cons rfl (fun K hK => ?_) AllReadyH.nil
        go_simp
        refine (l3Whiches_any _).mono ?_; rintro e wa ⟨gw, rfl, Bw, hb6⟩
        go_wp2_with fail
        refine hK.out _ _ ?_ (fun hHeld => ?_)
        · (try dsimp only)
          exact hHeld.trans (hb6.mono hHeld.size)
        clear hK K
        try simp only [Act.put, List.setIfInBounds_toArray, List.set_cons_zero, List.set_cons_succ]
        refine wpAnyH_ready (rs := [5]) (by kernel_rfl) (by simp) ?_
        refine AllReadyH.cons rfl (fun K hK => ?_) AllReadyH.nil
        go_simp
        refine (l3At_any (Bw.rd2 (n := 7) rfl Bw.lt) (by omega)).mono ?_; rintro e wa ⟨rfl, rfl⟩
        go_wp2_with fail
        refine hK.out _ _ ?_ (fun hHeld => ?_)
        · (try dsimp only)
          exact hHeld
        clear hK K
        try simp only [Act.put, List.setIfInBounds_toArray, List.set_cons_zero, List.set_cons_succ]
        refine rgTake (i := 6) (d := 59) (v := ?_) rfl rfl (by kernel_rfl) (by kernel_rfl) (by kernel_rfl) (fun _ _ _ h => h) (by rfl) ?_ (by assumption) ?_
        rotate_left
        · ((intro w hSw); (try dsimp only at hSw); go_simp; (try with_reducible rfl))
        try simp only [Act.put, List.setIfInBounds_toArray, List.set_cons_zero, List.set_cons_succ]
        refine rgTake (i := 7) (d := 52) (v := ?_) rfl rfl (by kernel_rfl) (by kernel_rfl) (by kernel_rfl) (fun _ _ _ h => h) (by rfl) ?_ (by assumption) ?_
        rotate_left
        · ((intro w hSw); (try dsimp only at hSw); go_simp; (try with_reducible rfl))
        try simp only [Act.put, List.setIfInBounds_toArray, List.set_cons_zero, List.set_cons_succ]
        refine wpAnyH_done (by kernel_rfl) ?_ _
        go_wp2_with fail
        go_meet
        exact ⟨rfl, hHeld⟩
      case rest =>
      obtain ⟨rfl, hb⟩ := hcut
      replace ck1 := (hb.cell (p := ⟨bw, ow + (k + 1), none⟩) hbw).trans ck1
      replace hbw := Nat.lt_of_lt_of_le hbw hb.size
      replace X := X.on hb
      replace O := own_below O hb
      replace Z := Z.on hb
      replace G := G.trans (hb.mono G.size)
      clear hb
      clear i1 i2 i3
      go_upto_region 15 with (fail)
      generalize w4.heap.size = hz4 at *
      obtain ⟨w5, hw5⟩ : ∃ w5, w5 = wc := ⟨_, rfl⟩
      cases hin : inB lookL x9
      rotate_left
      · obtain ⟨i1, i2, i3⟩ := idx_pos hin
        have HST := Lib.hid HGT.out
        rw [hin] at HST
        clear hin
        go_cut [65] (fun x wx => x = .bool true ∧ Below wc.heap.size wc wx)
        case first =>
          have GR := (Below.refl wc.heap.size wc)
          refine wp_region_held_drew (S := fun w' => Below wc.heap.size wc w') (by kernel_rfl) ?_ (fun hHeld => ?_)
          · (try dsimp only)
            first | exact Below.drew GR | exact hHeld
          refine rgTake (i := 1) (d := 67) (v := ?_) rfl rfl (by kernel_rfl) (by kernel_rfl) (by kernel_rfl) (fun _ _ _ h => h) (by rfl) ?_ (by assumption) ?_
          rotate_left
          · ((intro w hSw); (try dsimp only at hSw); go_simp; (try with_reducible rfl))
          try simp only [Act.put, List.setIfInBounds_toArray, List.set_cons_zero, List.set_cons_succ]
          refine rgTake (i := 2) (d := 68) (v := ?_) rfl rfl (by kernel_rfl) (by kernel_rfl) (by kernel_rfl) (fun _ _ _ h => h) (by rfl) ?_ (by assumption) ?_
          rotate_left
          · ((intro w hSw); (try dsimp only at hSw); go_simp; (try with_reducible rfl))
          try simp only [Act.put, List.setIfInBounds_toArray, List.set_cons_zero, List.set_cons_succ]
          refine rgTake (i := 3) (d := 69) (v := ?_) rfl rfl (by kernel_rfl) (by kernel_rfl) (by kernel_rfl) (fun _ _ _ h => h) (by rfl) ?_ (by assumption) ?_
          rotate_left
          · ((intro w hSw); (try dsimp only at hSw); go_simp; (try with_reducible rfl))
          try simp only [Act.put, List.setIfInBounds_toArray, List.set_cons_zero, List.set_cons_succ]
          refine rgTake (i := 4) (d := 70) (v := ?_) rfl rfl (by kernel_rfl) (by kernel_rfl) (by kernel_rfl) (fun _ _ _ h => h) (by rfl) ?_ (by assumption) ?_
          rotate_left
          · ((intro w hSw); (try dsimp only at hSw); (have ck1 := (hSw.cell (p := ⟨bw, ow + (k + 1), none⟩) hbw).trans ck1); go_simp; (try with_reducible rfl))
          try simp only [Act.put, List.setIfInBounds_toArray, List.set_cons_zero, List.set_cons_succ]
          refine wpAnyH_ready (rs := [0]) (by kernel_rfl) (by simp) ?_
          refine AllReadyH.cons rfl (fun K hK => ?_) AllReadyH.nil
          go_simp
          refine (l3Looks_any _).mono ?_; rintro e wa ⟨gw, rfl, Bw, hb6⟩
          go_wp2_with fail
          refine hK.out _ _ ?_ (fun hHeld => ?_)
          · (try dsimp only)
            exact hHeld.trans (hb6.mono hHeld.size)
          clear hK K
          try simp only [Act.put, List.setIfInBounds_toArray, List.set_cons_zero, List.set_cons_succ]
          refine wpAnyH_ready (rs := [5]) (by kernel_rfl) (by simp) ?_
          refine AllReadyH.cons rfl (fun K hK => ?_) AllReadyH.nil
          go_simp
          refine (l3At_any (Bw.rd2 (n := 4) rfl Bw.lt) (by omega)).mono ?_; rintro e wa ⟨rfl, rfl⟩
          go_wp2_with fail
          refine hK.out _ _ ?_ (fun hHeld => ?_)
          · (try dsimp only)
            exact hHeld
          clear hK K
          try simp only [Act.put, List.setIfInBounds_toArray, List.set_cons_zero, List.set_cons_succ]
          refine rgTake (i := 6) (d := 72) (v := ?_) rfl rfl (by kernel_rfl) (by kernel_rfl) (by kernel_rfl) (fun _ _ _ h => h) (by rfl) ?_ (by assumption) ?_
          rotate_left
          · ((intro w hSw); (try dsimp only at hSw); go_simp; (try with_reducible rfl))
          try simp only [Act.put, List.setIfInBounds_toArray, List.set_cons_zero, List.set_cons_succ]
          refine rgTake (i := 7) (d := 65) (v := ?_) rfl rfl (by kernel_rfl) (by kernel_rfl) (by kernel_rfl) (fun _ _ _ h => h) (by rfl) ?_ (by assumption) ?_
          rotate_left
          · ((intro w hSw); (try dsimp only at hSw); go_simp; (try with_reducible rfl))
          try simp only [Act.put, List.setIfInBounds_toArray, List.set_cons_zero, List.set_cons_succ]
          refine wpAnyH_done (by kernel_rfl) ?_ _
          go_wp2_with fail
          go_meet
          exact ⟨rfl, hHeld⟩
        case rest =>
        obtain ⟨rfl, hb⟩ := hcut
        replace ck1 := (hb.cell (p := ⟨bw, ow + (k + 1), none⟩) hbw).trans ck1
        replace hbw := Nat.lt_of_lt_of_le hbw hb.size
        replace X := X.on hb
        replace O := own_below O hb
        replace Z := Z.on hb
        replace G := G.trans (hb.mono G.size)
        clear hb
        obtain ⟨p0, p1, p2, p3, p4⟩ := blk5 X
        have hxl := X.lt
        have fx := X.frozen 3
        have HX := Lib.hid (X.set_ 3 (.string x9))
        have HO := Lib.hid (own_set9 O ⟨w1.heap.size, 3, none⟩ (.string x9) HOX.out)
        have HZ := Lib.hid (Z.far (p := ⟨w1.heap.size, 3, none⟩) (by show w.heap.size ≠ w1.heap.size; omega) (.string x9))
        have HG := Lib.hid (G.setCell (p := ⟨w1.heap.size, 3, none⟩) (by show w.heap.size ≤ w1.heap.size; omega) (.string x9))
        clear X O Z G
        go_wp2_with fail
        go_roundw
        case rel => exact ⟨k + 1, by omega, by go_num, (by rw [HST.out]; exact HX.out), HO.out, HZ.out, HG.out⟩
        case measure => simp [intOf]; omega
      obtain ⟨i1, i2, i3⟩ := idx_neg hin
      rw [hin] at HGT
      clear hin
      go_cut [65] (fun x wx => x = .bool false ∧ Below wc.heap.size wc wx)
      case first =>
        have GR := (Below.refl wc.heap.size wc)
        refine wp_region_held_drew (S := fun w' => Below wc.heap.size wc w') (by kernel_rfl) ?_ (fun hHeld => ?_)
        · (try dsimp only)
          first | exact Below.drew GR | exact hHeld
        refine rgTake (i := 1) (d := 67) (v := ?_) rfl rfl (by kernel_rfl) (by kernel_rfl) (by kernel_rfl) (fun _ _ _ h => h) (by rfl) ?_ (by assumption) ?_
        rotate_left
        · ((intro w hSw); (try dsimp only at hSw); go_simp; (try with_reducible rfl))
        try simp only [Act.put, List.setIfInBounds_toArray, List.set_cons_zero, List.set_cons_succ]
        refine rgTake (i := 2) (d := 68) (v := ?_) rfl rfl (by kernel_rfl) (by kernel_rfl) (by kernel_rfl) (fun _ _ _ h => h) (by rfl) ?_ (by assumption) ?_
        rotate_left
        · ((intro w hSw); (try dsimp only at hSw); go_simp; (try with_reducible rfl))
        try simp only [Act.put, List.setIfInBounds_toArray, List.set_cons_zero, List.set_cons_succ]
        refine rgTake (i := 3) (d := 69) (v := ?_) rfl rfl (by kernel_rfl) (by kernel_rfl) (by kernel_rfl) (fun _ _ _ h => h) (by rfl) ?_ (by assumption) ?_
        rotate_left
        · ((intro w hSw); (try dsimp only at hSw); go_simp; (try with_reducible rfl))
        try simp only [Act.put, List.setIfInBounds_toArray, List.set_cons_zero, List.set_cons_succ]
        refine rgTake (i := 4) (d := 70) (v := ?_) rfl rfl (by kernel_rfl) (by kernel_rfl) (by kernel_rfl) (fun _ _ _ h => h) (by rfl) ?_ (by assumption) ?_
        rotate_left
        · ((intro w hSw); (try dsimp only at hSw); (have ck1 := (hSw.cell (p := ⟨bw, ow + (k + 1), none⟩) hbw).trans ck1); go_simp; (try with_reducible rfl))
        try simp only [Act.put, List.setIfInBounds_toArray, List.set_cons_zero, List.set_cons_succ]
        refine wpAnyH_ready (rs := [0]) (by kernel_rfl) (by simp) ?_
        refine AllReadyH.cons rfl (fun K hK => ?_) AllReadyH.nil
        go_simp
        refine (l3Looks_any _).mono ?_; rintro e wa ⟨gw, rfl, Bw, hb6⟩
        go_wp2_with fail
        refine hK.out _ _ ?_ (fun hHeld => ?_)
        · (try dsimp only)
          exact hHeld.trans (hb6.mono hHeld.size)
        clear hK K
        try simp only [Act.put, List.setIfInBounds_toArray, List.set_cons_zero, List.set_cons_succ]
        refine wpAnyH_ready (rs := [5]) (by kernel_rfl) (by simp) ?_
        refine AllReadyH.cons rfl (fun K hK => ?_) AllReadyH.nil
        go_simp
        refine (l3At_any (Bw.rd2 (n := 4) rfl Bw.lt) (by omega)).mono ?_; rintro e wa ⟨rfl, rfl⟩
        go_wp2_with fail
        refine hK.out _ _ ?_ (fun hHeld => ?_)
        · (try dsimp only)
          exact hHeld
        clear hK K
        try simp only [Act.put, List.setIfInBounds_toArray, List.set_cons_zero, List.set_cons_succ]
        refine rgTake (i := 6) (d := 72) (v := ?_) rfl rfl (by kernel_rfl) (by kernel_rfl) (by kernel_rfl) (fun _ _ _ h => h) (by rfl) ?_ (by assumption) ?_
        rotate_left
        · ((intro w hSw); (try dsimp only at hSw); go_simp; (try with_reducible rfl))
        try simp only [Act.put, List.setIfInBounds_toArray, List.set_cons_zero, List.set_cons_succ]
        refine rgTake (i := 7) (d := 65) (v := ?_) rfl rfl (by kernel_rfl) (by kernel_rfl) (by kernel_rfl) (fun _ _ _ h => h) (by rfl) ?_ (by assumption) ?_
        rotate_left
        · ((intro w hSw); (try dsimp only at hSw); go_simp; (try with_reducible rfl))
        try simp only [Act.put, List.setIfInBounds_toArray, List.set_cons_zero, List.set_cons_succ]
        refine wpAnyH_done (by kernel_rfl) ?_ _
        go_wp2_with fail
        go_meet
        exact ⟨rfl, hHeld⟩
      case rest =>
      obtain ⟨rfl, hb⟩ := hcut
      replace ck1 := (hb.cell (p := ⟨bw, ow + (k + 1), none⟩) hbw).trans ck1
      replace hbw := Nat.lt_of_lt_of_le hbw hb.size
      replace X := X.on hb
      replace O := own_below O hb
      replace Z := Z.on hb
      replace G := G.trans (hb.mono G.size)
      clear hb
      have HST : Hid (gS ws (k + 1) = gS ws k) := (HGT.out : gS ws (k + 1) = gS ws k)
      go_wp2_with fail
      go_roundw
      case rel => exact ⟨k + 1, by omega, by go_num, (by rw [HST.out]; exact X), O, Z, G⟩
      case measure => simp [intOf]; omega
    · have hke : k + 1 = n := by omega
      have hki : ¬ (k : Int) + 1 < (n : Int) := by omega
      have HCF : Hid (cfS s = gS ws k) := (by unfold cfS; rw [HWS.out, HN.out, ← hke, Nat.add_sub_cancel] : cfS s = gS ws k)
      obtain ⟨f, hf⟩ : ∃ f, gS ws k = f := ⟨_, rfl⟩
      rw [hf] at HCF X
      have q1 : ((itoaB f.code ++ l3T f).toList != s.toList) = !decide (ftB f = s) := neb_test _ _
      have q2 : ((itoaB f.code ++ l3T f).toList == s.toList) = decide (ftB f = s) := eqb_test _ _
      clear hf O
      go_upto_region 17 with (fail)
      cases hok : okFt f
      · have HP := Lib.hid (ps_bad2 (s := s) (by rw [HCF.out]; exact hok))
        go_cut [90] (fun x wx => x = .bool true ∧ Below wr.heap.size wr wx)
        case first =>
          have GR := (Below.refl wr.heap.size wr)
          refine wp_region_held_drew (S := fun w' => Below wr.heap.size wr w') (by kernel_rfl) ?_ (fun hHeld => ?_)
          · (try dsimp only)
            first | exact Below.drew GR | exact hHeld
          refine rgTake (i := 0) (d := 78) (v := ?_) rfl rfl (by kernel_rfl) (by kernel_rfl) (by kernel_rfl) (fun _ _ _ h => h) (by rfl) ?_ (by assumption) ?_
          rotate_left
          · ((intro w hSw); (try dsimp only at hSw); (obtain ⟨p0, p1, p2, p3, p4⟩ := blk5 (X.below hSw X.lt)); go_simp; (try with_reducible rfl))
          try simp only [Act.put, List.setIfInBounds_toArray, List.set_cons_zero, List.set_cons_succ]
          refine wpAnyH_ready (rs := [1]) (by kernel_rfl) (by simp) ?_
          refine AllReadyH.cons rfl (fun K hK => ?_) AllReadyH.nil
          go_simp
          refine (l3One_any f _).mono ?_; rintro e wa ⟨rfl, hb6⟩; rw [hok]
          go_wp2_with fail
          refine hK.out _ _ ?_ (fun hHeld => ?_)
          · (try dsimp only)
            exact hHeld.trans (hb6.mono hHeld.size)
          clear hK K
          try simp only [Act.put, List.setIfInBounds_toArray, List.set_cons_zero, List.set_cons_succ]
          refine rgTake (i := 2) (d := 80) (v := ?_) rfl rfl (by kernel_rfl) (by kernel_rfl) (by kernel_rfl) (fun _ _ _ h => h) (by rfl) ?_ (by assumption) ?_
          rotate_left
          · ((intro w hSw); (try dsimp only at hSw); go_simp; (try with_reducible rfl))
          try simp only [Act.put, List.setIfInBounds_toArray, List.set_cons_zero, List.set_cons_succ]
          refine rgTake (i := 3) (d := 81) (v := ?_) rfl rfl (by kernel_rfl) (by kernel_rfl) (by kernel_rfl) (fun _ _ _ h => h) (by rfl) ?_ (by assumption) ?_
          rotate_left
          · ((intro w hSw); (try dsimp only at hSw); go_simp; (try with_reducible rfl))
          try simp only [Act.put, List.setIfInBounds_toArray, List.set_cons_zero, List.set_cons_succ]
          refine rgSkip (i := 4) (d := 82) rfl rfl (by kernel_rfl) (by kernel_rfl) (by kernel_rfl) (fun _ _ _ h => h) (by rfl) (by assumption) ?_
          try simp only [Act.put, List.setIfInBounds_toArray, List.set_cons_zero, List.set_cons_succ]
          refine rgSkip (i := 5) (d := 83) rfl rfl (by kernel_rfl) (by kernel_rfl) (by kernel_rfl) (fun _ _ _ h => h) (by rfl) (by assumption) ?_
          try simp only [Act.put, List.setIfInBounds_toArray, List.set_cons_zero, List.set_cons_succ]
          refine rgSkip (i := 6) (d := 84) rfl rfl (by kernel_rfl) (by kernel_rfl) (by kernel_rfl) (fun _ _ _ h => h) (by rfl) (by assumption) ?_
          try simp only [Act.put, List.setIfInBounds_toArray, List.set_cons_zero, List.set_cons_succ]
          refine rgSkip (i := 7) (d := 85) rfl rfl (by kernel_rfl) (by kernel_rfl) (by kernel_rfl) (fun _ _ _ h => h) (by rfl) (by assumption) ?_
          try simp only [Act.put, List.setIfInBounds_toArray, List.set_cons_zero, List.set_cons_succ]
          refine rgSkip (i := 8) (d := 86) rfl rfl (by kernel_rfl) (by kernel_rfl) (by kernel_rfl) (fun _ _ _ h => h) (by rfl) (by assumption) ?_
          try simp only [Act.put, List.setIfInBounds_toArray, List.set_cons_zero, List.set_cons_succ]
          refine rgSkip (i := 9) (d := 87) rfl rfl (by kernel_rfl) (by kernel_rfl) (by kernel_rfl) (fun _ _ _ h => h) (by rfl) (by assumption) ?_
          try simp only [Act.put, List.setIfInBounds_toArray, List.set_cons_zero, List.set_cons_succ]
          refine rgSkip (i := 10) (d := 88) rfl rfl (by kernel_rfl) (by kernel_rfl) (by kernel_rfl) (fun _ _ _ h => h) (by rfl) (by assumption) ?_
          try simp only [Act.put, List.setIfInBounds_toArray, List.set_cons_zero, List.set_cons_succ]
          refine rgSkip (i := 11) (d := 89) rfl rfl (by kernel_rfl) (by kernel_rfl) (by kernel_rfl) (fun _ _ _ h => h) (by rfl) (by assumption) ?_
          try simp only [Act.put, List.setIfInBounds_toArray, List.set_cons_zero, List.set_cons_succ]
          refine rgTake (i := 12) (d := 90) (v := ?_) rfl rfl (by kernel_rfl) (by kernel_rfl) (by kernel_rfl) (fun _ _ _ h => h) (by rfl) ?_ (by assumption) ?_
          rotate_left
          · ((intro w hSw); (try dsimp only at hSw); go_simp; (try with_reducible rfl))
          try simp only [Act.put, List.setIfInBounds_toArray, List.set_cons_zero, List.set_cons_succ]
          refine wpAnyH_done (by kernel_rfl) ?_ _
          go_wp2_with fail
          go_meet
          exact ⟨rfl, hHeld⟩
        case rest =>
        obtain ⟨rfl, hb⟩ := hcut
        replace Z := Z.on hb
        replace G := G.trans (hb.mono G.size)
        clear hb X
        obtain ⟨z0, z1, z2, z3, z4⟩ := blk5 Z
        have f0 := Z.frozen 0
        have f1 := Z.frozen 1
        have f2 := Z.frozen 2
        have f3 := Z.frozen 3
        have f4 := Z.frozen 4
        have Z2 := Z.put5 ftZ
        obtain ⟨q0, q1, q2, q3, q4⟩ := blk5 (show Blk _ _ _ (Ft.cells ftZ) from Z2)
        have GP := below_put5 G (Nat.le_refl w.heap.size) ftZ
        clear Z2
        simp only [ftZ] at q0 q1 q2 q3 q4 GP
        go_wp2_with fail
        refine bodyPost_ret (v := .tuple #[.agg #[.int .i64 0, .string ⟨#[]⟩, .string ⟨#[]⟩, .string ⟨#[]⟩, .string ⟨#[]⟩], .bool false]) (by simp [results, Tryz.results12, go_sem, q0, q1, q2, q3, q4]) rfl ⟨by rw [HP.out.1, HP.out.2] <;> rfl, GP⟩
      have hcd := (ft_bd hok).1
      have m1 : (9223372036854775807 < (itoaB f.code).size + (l3T f).size) = False := eq_false (by have h1 := itoaB_size (n := f.code) (by omega) (by omega); have h2 := l3T_size hok; omega)
      cases hz : decide (ftB f = s)
      · have HP := Lib.hid (ps_bad3 (s := s) (by rw [HCF.out]; exact hz))
        rw [hz] at q1 q2
        rw [Bool.not_false] at q1
        go_cut [90] (fun x wx => x = .bool true ∧ Below wr.heap.size wr wx)
        case first =>
          have GR := (Below.refl wr.heap.size wr)
          refine wp_region_held_drew (S := fun w' => Below wr.heap.size wr w') (by kernel_rfl) ?_ (fun hHeld => ?_)
          · (try dsimp only)
            first | exact Below.drew GR | exact hHeld
          refine rgTake (i := 0) (d := 78) (v := ?_) rfl rfl (by kernel_rfl) (by kernel_rfl) (by kernel_rfl) (fun _ _ _ h => h) (by rfl) ?_ (by assumption) ?_
          rotate_left
          · ((intro w hSw); (try dsimp only at hSw); (obtain ⟨p0, p1, p2, p3, p4⟩ := blk5 (X.below hSw X.lt)); go_simp; (try with_reducible rfl))
          try simp only [Act.put, List.setIfInBounds_toArray, List.set_cons_zero, List.set_cons_succ]
          refine wpAnyH_ready (rs := [1]) (by kernel_rfl) (by simp) ?_
          refine AllReadyH.cons rfl (fun K hK => ?_) AllReadyH.nil
          go_simp
          refine (l3One_any f _).mono ?_; rintro e wa ⟨rfl, hb6⟩; rw [hok]
          go_wp2_with fail
          refine hK.out _ _ ?_ (fun hHeld => ?_)
          · (try dsimp only)
            exact hHeld.trans (hb6.mono hHeld.size)
          clear hK K
          try simp only [Act.put, List.setIfInBounds_toArray, List.set_cons_zero, List.set_cons_succ]
          refine rgTake (i := 2) (d := 80) (v := ?_) rfl rfl (by kernel_rfl) (by kernel_rfl) (by kernel_rfl) (fun _ _ _ h => h) (by rfl) ?_ (by assumption) ?_
          rotate_left
          · ((intro w hSw); (try dsimp only at hSw); go_simp; (try with_reducible rfl))
          try simp only [Act.put, List.setIfInBounds_toArray, List.set_cons_zero, List.set_cons_succ]
          refine rgTake (i := 3) (d := 81) (v := ?_) rfl rfl (by kernel_rfl) (by kernel_rfl) (by kernel_rfl) (fun _ _ _ h => h) (by rfl) ?_ (by assumption) ?_
          rotate_left
          · ((intro w hSw); (try dsimp only at hSw); go_simp; (try with_reducible rfl))
          try simp only [Act.put, List.setIfInBounds_toArray, List.set_cons_zero, List.set_cons_succ]
          refine rgTake (i := 4) (d := 82) (v := ?_) rfl rfl (by kernel_rfl) (by kernel_rfl) (by kernel_rfl) (fun _ _ _ h => h) (by rfl) ?_ (by assumption) ?_
          rotate_left
          · ((intro w hSw); (try dsimp only at hSw); go_simp; (try with_reducible rfl))
          try simp only [Act.put, List.setIfInBounds_toArray, List.set_cons_zero, List.set_cons_succ]
          refine rgTake (i := 5) (d := 83) (v := ?_) rfl rfl (by kernel_rfl) (by kernel_rfl) (by kernel_rfl) (fun _ _ _ h => h) (by rfl) ?_ (by assumption) ?_
          rotate_left
          · ((intro w hSw); (try dsimp only at hSw); (obtain ⟨p0, p1, p2, p3, p4⟩ := blk5 (X.below hSw X.lt)); go_simp; (try with_reducible rfl))
          try simp only [Act.put, List.setIfInBounds_toArray, List.set_cons_zero, List.set_cons_succ]
          refine rgTake (i := 7) (d := 85) (v := ?_) rfl rfl (by kernel_rfl) (by kernel_rfl) (by kernel_rfl) (fun _ _ _ h => h) (by rfl) ?_ (by assumption) ?_
          rotate_left
          · ((intro w hSw); (try dsimp only at hSw); (obtain ⟨p0, p1, p2, p3, p4⟩ := blk5 (X.below hSw X.lt)); go_simp; (try with_reducible rfl))
          try simp only [Act.put, List.setIfInBounds_toArray, List.set_cons_zero, List.set_cons_succ]
          refine rgTake (i := 10) (d := 88) (v := ?_) rfl rfl (by kernel_rfl) (by kernel_rfl) (by kernel_rfl) (fun _ _ _ h => h) (by rfl) ?_ (by assumption) ?_
          rotate_left
          · ((intro w hSw); (try dsimp only at hSw); go_simp; (try with_reducible rfl))
          try simp only [Act.put, List.setIfInBounds_toArray, List.set_cons_zero, List.set_cons_succ]
          refine wpAnyH_ready (rs := [6]) (by kernel_rfl) (by simp) ?_
          refine AllReadyH.cons rfl (fun K hK => ?_) AllReadyH.nil
          go_simp
          refine (l1Num_any (by omega) (by omega)).mono ?_; rintro e wa ⟨rfl, hb6⟩
          go_wp2_with fail
          refine hK.out _ _ ?_ (fun hHeld => ?_)
          · (try dsimp only)
            exact hHeld.trans (hb6.mono hHeld.size)
          clear hK K
          try simp only [Act.put, List.setIfInBounds_toArray, List.set_cons_zero, List.set_cons_succ]
          refine wpAnyH_ready (rs := [8]) (by kernel_rfl) (by simp) ?_
          refine AllReadyH.cons rfl (fun K hK => ?_) AllReadyH.nil
          go_simp
          refine (l3Text_any hok).mono ?_; rintro e wa ⟨rfl, hb6⟩
          go_wp2_with fail
          refine hK.out _ _ ?_ (fun hHeld => ?_)
          · (try dsimp only)
            exact hHeld.trans (hb6.mono hHeld.size)
          clear hK K
          try simp only [Act.put, List.setIfInBounds_toArray, List.set_cons_zero, List.set_cons_succ]
          refine rgTake (i := 9) (d := 87) (v := ?_) rfl rfl (by kernel_rfl) (by kernel_rfl) (by kernel_rfl) (fun _ _ _ h => h) (by rfl) ?_ (by assumption) ?_
          rotate_left
          · ((intro w hSw); (try dsimp only at hSw); go_simp; (try with_reducible rfl))
          try simp only [Act.put, List.setIfInBounds_toArray, List.set_cons_zero, List.set_cons_succ]
          refine rgTake (i := 11) (d := 89) (v := ?_) rfl rfl (by kernel_rfl) (by kernel_rfl) (by kernel_rfl) (fun _ _ _ h => h) (by rfl) ?_ (by assumption) ?_
          rotate_left
          · ((intro w hSw); (try dsimp only at hSw); go_simp; (try with_reducible rfl))
          try simp only [Act.put, List.setIfInBounds_toArray, List.set_cons_zero, List.set_cons_succ]
          refine rgTake (i := 12) (d := 90) (v := ?_) rfl rfl (by kernel_rfl) (by kernel_rfl) (by kernel_rfl) (fun _ _ _ h => h) (by rfl) ?_ (by assumption) ?_
          rotate_left
          · ((intro w hSw); (try dsimp only at hSw); go_simp; (try with_reducible rfl))
          try simp only [Act.put, List.setIfInBounds_toArray, List.set_cons_zero, List.set_cons_succ]
          refine wpAnyH_done (by kernel_rfl) ?_ _
          go_wp2_with fail
          go_meet
          exact ⟨rfl, hHeld⟩
        case rest =>
        obtain ⟨rfl, hb⟩ := hcut
        replace Z := Z.on hb
        replace G := G.trans (hb.mono G.size)
        clear hb X
        obtain ⟨z0, z1, z2, z3, z4⟩ := blk5 Z
        have f0 := Z.frozen 0
        have f1 := Z.frozen 1
        have f2 := Z.frozen 2
        have f3 := Z.frozen 3
        have f4 := Z.frozen 4
        have Z2 := Z.put5 ftZ
        obtain ⟨q0, q1, q2, q3, q4⟩ := blk5 (show Blk _ _ _ (Ft.cells ftZ) from Z2)
        have GP := below_put5 G (Nat.le_refl w.heap.size) ftZ
        clear Z2
        simp only [ftZ] at q0 q1 q2 q3 q4 GP
        go_wp2_with fail
        refine bodyPost_ret (v := .tuple #[.agg #[.int .i64 0, .string ⟨#[]⟩, .string ⟨#[]⟩, .string ⟨#[]⟩, .string ⟨#[]⟩], .bool false]) (by simp [results, Tryz.results12, go_sem, q0, q1, q2, q3, q4]) rfl ⟨by rw [HP.out.1, HP.out.2] <;> rfl, GP⟩
      · have HP := Lib.hid (pf_some hok (of_decide_eq_true hz))
        rw [hz] at q1 q2
        rw [Bool.not_true] at q1
        go_cut [90] (fun x wx => x = .bool false ∧ Below wr.heap.size wr wx)
        case first =>
          have GR := (Below.refl wr.heap.size wr)
          refine wp_region_held_drew (S := fun w' => Below wr.heap.size wr w') (by kernel_rfl) ?_ (fun hHeld => ?_)
          · (try dsimp only)
            first | exact Below.drew GR | exact hHeld
          refine rgTake (i := 0) (d := 78) (v := ?_) rfl rfl (by kernel_rfl) (by kernel_rfl) (by kernel_rfl) (fun _ _ _ h => h) (by rfl) ?_ (by assumption) ?_
          rotate_left
          · ((intro w hSw); (try dsimp only at hSw); (obtain ⟨p0, p1, p2, p3, p4⟩ := blk5 (X.below hSw X.lt)); go_simp; (try with_reducible rfl))
          try simp only [Act.put, List.setIfInBounds_toArray, List.set_cons_zero, List.set_cons_succ]
          refine wpAnyH_ready (rs := [1]) (by kernel_rfl) (by simp) ?_
          refine AllReadyH.cons rfl (fun K hK => ?_) AllReadyH.nil
          go_simp
          refine (l3One_any f _).mono ?_; rintro e wa ⟨rfl, hb6⟩; rw [hok]
          go_wp2_with fail
          refine hK.out _ _ ?_ (fun hHeld => ?_)
          · (try dsimp only)
            exact hHeld.trans (hb6.mono hHeld.size)
          clear hK K
          try simp only [Act.put, List.setIfInBounds_toArray, List.set_cons_zero, List.set_cons_succ]
          refine rgTake (i := 2) (d := 80) (v := ?_) rfl rfl (by kernel_rfl) (by kernel_rfl) (by kernel_rfl) (fun _ _ _ h => h) (by rfl) ?_ (by assumption) ?_
          rotate_left
          · ((intro w hSw); (try dsimp only at hSw); go_simp; (try with_reducible rfl))
          try simp only [Act.put, List.setIfInBounds_toArray, List.set_cons_zero, List.set_cons_succ]
          refine rgTake (i := 3) (d := 81) (v := ?_) rfl rfl (by kernel_rfl) (by kernel_rfl) (by kernel_rfl) (fun _ _ _ h => h) (by rfl) ?_ (by assumption) ?_
          rotate_left
          · ((intro w hSw); (try dsimp only at hSw); go_simp; (try with_reducible rfl))
          try simp only [Act.put, List.setIfInBounds_toArray, List.set_cons_zero, List.set_cons_succ]
          refine rgTake (i := 4) (d := 82) (v := ?_) rfl rfl (by kernel_rfl) (by kernel_rfl) (by kernel_rfl) (fun _ _ _ h => h) (by rfl) ?_ (by assumption) ?_
          rotate_left
          · ((intro w hSw); (try dsimp only at hSw); go_simp; (try with_reducible rfl))
          try simp only [Act.put, List.setIfInBounds_toArray, List.set_cons_zero, List.set_cons_succ]
          refine rgTake (i := 5) (d := 83) (v := ?_) rfl rfl (by kernel_rfl) (by kernel_rfl) (by kernel_rfl) (fun _ _ _ h => h) (by rfl) ?_ (by assumption) ?_
          rotate_left
          · ((intro w hSw); (try dsimp only at hSw); (obtain ⟨p0, p1, p2, p3, p4⟩ := blk5 (X.below hSw X.lt)); go_simp; (try with_reducible rfl))
          try simp only [Act.put, List.setIfInBounds_toArray, List.set_cons_zero, List.set_cons_succ]
          refine rgTake (i := 7) (d := 85) (v := ?_) rfl rfl (by kernel_rfl) (by kernel_rfl) (by kernel_rfl) (fun _ _ _ h => h) (by rfl) ?_ (by assumption) ?_
          rotate_left
          · ((intro w hSw); (try dsimp only at hSw); (obtain ⟨p0, p1, p2, p3, p4⟩ := blk5 (X.below hSw X.lt)); go_simp; (try with_reducible rfl))
          try simp only [Act.put, List.setIfInBounds_toArray, List.set_cons_zero, List.set_cons_succ]
          refine rgTake (i := 10) (d := 88) (v := ?_) rfl rfl (by kernel_rfl) (by kernel_rfl) (by kernel_rfl) (fun _ _ _ h => h) (by rfl) ?_ (by assumption) ?_
          rotate_left
          · ((intro w hSw); (try dsimp only at hSw); go_simp; (try with_reducible rfl))
          try simp only [Act.put, List.setIfInBounds_toArray, List.set_cons_zero, List.set_cons_succ]
          refine wpAnyH_ready (rs := [6]) (by kernel_rfl) (by simp) ?_
          refine AllReadyH.cons rfl (fun K hK => ?_) AllReadyH.nil
          go_simp
          refine (l1Num_any (by omega) (by omega)).mono ?_; rintro e wa ⟨rfl, hb6⟩
          go_wp2_with fail
          refine hK.out _ _ ?_ (fun hHeld => ?_)
          · (try dsimp only)
            exact hHeld.trans (hb6.mono hHeld.size)
          clear hK K
          try simp only [Act.put, List.setIfInBounds_toArray, List.set_cons_zero, List.set_cons_succ]
          refine wpAnyH_ready (rs := [8]) (by kernel_rfl) (by simp) ?_
          refine AllReadyH.cons rfl (fun K hK => ?_) AllReadyH.nil
          go_simp
          refine (l3Text_any hok).mono ?_; rintro e wa ⟨rfl, hb6⟩
          go_wp2_with fail
          refine hK.out _ _ ?_ (fun hHeld => ?_)
          · (try dsimp only)
            exact hHeld.trans (hb6.mono hHeld.size)
          clear hK K
          try simp only [Act.put, List.setIfInBounds_toArray, List.set_cons_zero, List.set_cons_succ]
          refine rgTake (i := 9) (d := 87) (v := ?_) rfl rfl (by kernel_rfl) (by kernel_rfl) (by kernel_rfl) (fun _ _ _ h => h) (by rfl) ?_ (by assumption) ?_
          rotate_left
          · ((intro w hSw); (try dsimp only at hSw); go_simp; (try with_reducible rfl))
          try simp only [Act.put, List.setIfInBounds_toArray, List.set_cons_zero, List.set_cons_succ]
          refine rgTake (i := 11) (d := 89) (v := ?_) rfl rfl (by kernel_rfl) (by kernel_rfl) (by kernel_rfl) (fun _ _ _ h => h) (by rfl) ?_ (by assumption) ?_
          rotate_left
          · ((intro w hSw); (try dsimp only at hSw); go_simp; (try with_reducible rfl))
          try simp only [Act.put, List.setIfInBounds_toArray, List.set_cons_zero, List.set_cons_succ]
          refine rgTake (i := 12) (d := 90) (v := ?_) rfl rfl (by kernel_rfl) (by kernel_rfl) (by kernel_rfl) (fun _ _ _ h => h) (by rfl) ?_ (by assumption) ?_
          rotate_left
          · ((intro w hSw); (try dsimp only at hSw); go_simp; (try with_reducible rfl))
          try simp only [Act.put, List.setIfInBounds_toArray, List.set_cons_zero, List.set_cons_succ]
          refine wpAnyH_done (by kernel_rfl) ?_ _
          go_wp2_with fail
          go_meet
          exact ⟨rfl, hHeld⟩
        case rest =>
        obtain ⟨rfl, hb⟩ := hcut
        replace Z := Z.on hb
        replace X := X.on hb
        replace G := G.trans (hb.mono G.size)
        clear hb
        go_upto_region 19 with (fail)
        obtain ⟨p0, p1, p2, p3, p4⟩ := blk5 X
        obtain ⟨z0, z1, z2, z3, z4⟩ := blk5 Z
        have f0 := Z.frozen 0
        have f1 := Z.frozen 1
        have f2 := Z.frozen 2
        have f3 := Z.frozen 3
        have f4 := Z.frozen 4
        have Z2 := Z.put5 f
        obtain ⟨q0, q1, q2, q3, q4⟩ := blk5 (show Blk _ _ _ (Ft.cells f) from Z2)
        have GP := below_put5 G (Nat.le_refl w.heap.size) f
        clear Z2
        go_wp2_with fail
        refine bodyPost_ret (v := .tuple #[.agg #[.int .i64 f.code, .string f.which, .string f.what, .string f.look, .string f.side], .bool true]) (by simp [results, Tryz.results12, go_sem, q0, q1, q2, q3, q4]) rfl ⟨by rw [HP.out.1, HP.out.2] <;> rfl, GP⟩
end Go.Proofs.YtmmpcchjalgokaaGreatDoor
