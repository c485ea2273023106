/- The walk of FnExactParseMap. -/
import Derived.Test.YtmmpcchjalgokaaDoorPms
import Derived.Test.YtmmpcchjalgokaaDoorMmk
import Derived.Deep.DeepCutAuto
namespace Go.Proofs.YtmmpcchjalgokaaDoor
set_option linter.unusedVariables false
set_option linter.unusedSimpArgs false
open Go.RowKit
theorem pmV_len (s : ByteArray) : (pmV s).ri.length ≤ 36 ∧ (pmV s).co.length ≤ 36 := by
  cases h : pmOk s
  · by_cases hx : ∃ m, mtOk m = true ∧ mtV m = s
    · obtain ⟨m, h1, h2⟩ := hx
      rw [(pm_some h1 h2).1] at h; cases h
    · have e := (pm_fail (s := s) (fun m h1 h2 => hx ⟨m, h1, h2⟩)).2
      rw [e]
      exact ⟨Nat.zero_le _, Nat.zero_le _⟩
  · obtain ⟨h1, h2⟩ := pm_ok h
    have V := (mt_ok h1).1
    have := V.n36
    have := V.lc
    omega
set_option maxRecDepth 100000 in
set_option maxHeartbeats 4000000 in
theorem law_ParseMap {a0 : ByteArray} (w : World) (ia0 : a0.size ≤ maxLen) (T : Tab w) (M : Mxl w) :
    Calls Tryd.prog 5 #[.string a0] w fun e w' => e = .returned (.bool true) ∧ Below w.heap.size w w' := by
  by_cases hba : (1048576 : Int) < (a0.size : Int)
  · go_enter Tryd.func5, Tryd.ntmps5
    go_wp2_with fail
    go_ret
    exact ⟨rfl, (by repeat (first | exact Below.refl _ _ | refine below_drewN ?_ _ | refine Below.drew ?_ | refine Below.alloc ?_ (by first | omega | (simp; done) | (simp; omega)) _ | refine Below.setCell ?_ (by first | omega | (simp; done) | (simp; omega)) _))⟩
  have hs9 : a0.size ≤ 1048576 := by omega
  have G : Below w.heap.size w w := Below.refl _ _
  have HS := fun W : World => ParseMap_spec (s := a0) (w := W) hs9
  have HI := fun (W : World) (t : Tab W) (m : Mxl W) => ParseMap_impl (s := a0) (w := W) hs9 t m
  obtain ⟨hr1, hr2⟩ := pmV_len a0
  generalize pmOk a0 = okb at *
  generalize pmV a0 = rr at *
  have okne : (okb != okb) = false := by simp
  have hm1 : rr.ri.length ≤ maxLen := by simp only [maxLen]; omega
  have hm2 : rr.co.length ≤ maxLen := by simp only [maxLen]; omega
  have HSP := Lib.hid HS
  have HIM := Lib.hid HI
  clear HS HI
  go_enter Tryd.func5, Tryd.ntmps5
  go_wp2_with fail
  refine (HSP.out _).mono ?_
  rintro e w1 ⟨A0, B0, c0, d0, rfl, OA, OB, OAB, hb⟩
  clear OAB
  replace G := G.trans (hb.mono G.size)
  clear hb
  have szG1 := G.size
  have ltOA := Lib.hid (fun k (hk : Value.ownBlock (.slice A0 rr.ri.length c0) = some k) => (OA.lt k hk).2)
  have ltOB := Lib.hid (fun k (hk : Value.ownBlock (.slice B0 rr.co.length d0) = some k) => (OB.lt k hk).2)
  have Wb := Blk.new w1 47 [.int .i64 rr.wd, .int .i64 rr.ht, .slice A0 rr.ri.length c0, .slice B0 rr.co.length d0]
  replace OA := OA.alloc (.cells #[.int .i64 rr.wd, .int .i64 rr.ht, .slice A0 rr.ri.length c0, .slice B0 rr.co.length d0] 47)
  replace OB := OB.alloc (.cells #[.int .i64 rr.wd, .int .i64 rr.ht, .slice A0 rr.ri.length c0, .slice B0 rr.co.length d0] 47)
  replace G := G.alloc G.size (.cells #[.int .i64 rr.wd, .int .i64 rr.ht, .slice A0 rr.ri.length c0, .slice B0 rr.co.length d0] 47)
  obtain ⟨wb0, wb1, wb2, wb3⟩ := blk4 Wb
  go_wp2_with fail
  have ltWb := Wb.lt
  refine (HIM.out _ (T.on G) (M.on G)).mono ?_
  rintro e w2 ⟨A1, B1, c1, d1, rfl, PA, PB, PAB, hb⟩
  clear wb0 wb1 wb2 wb3
  have loPA := Lib.hid (fun k (hk : Value.ownBlock (.slice A1 rr.ri.length c1) = some k) => (PA.lt k hk))
  have loPB := Lib.hid (fun k (hk : Value.ownBlock (.slice B1 rr.co.length d1) = some k) => (PB.lt k hk))
  rw [World.size_alloc] at loPA loPB ltWb
  replace Wb := Wb.on hb
  replace OA := own_below OA hb
  replace OB := own_below OB hb
  replace G := G.trans (hb.mono G.size)
  clear hb
  have Gb := Blk.new w2 47 [.int .i64 rr.wd, .int .i64 rr.ht, .slice A1 rr.ri.length c1, .slice B1 rr.co.length d1]
  replace Wb := Wb.alloc (.cells #[.int .i64 rr.wd, .int .i64 rr.ht, .slice A1 rr.ri.length c1, .slice B1 rr.co.length d1] 47)
  replace OA := OA.alloc (.cells #[.int .i64 rr.wd, .int .i64 rr.ht, .slice A1 rr.ri.length c1, .slice B1 rr.co.length d1] 47)
  replace OB := OB.alloc (.cells #[.int .i64 rr.wd, .int .i64 rr.ht, .slice A1 rr.ri.length c1, .slice B1 rr.co.length d1] 47)
  replace PA := PA.alloc (.cells #[.int .i64 rr.wd, .int .i64 rr.ht, .slice A1 rr.ri.length c1, .slice B1 rr.co.length d1] 47)
  replace PB := PB.alloc (.cells #[.int .i64 rr.wd, .int .i64 rr.ht, .slice A1 rr.ri.length c1, .slice B1 rr.co.length d1] 47)
  replace G := G.alloc G.size (.cells #[.int .i64 rr.wd, .int .i64 rr.ht, .slice A1 rr.ri.length c1, .slice B1 rr.co.length d1] 47)
  obtain ⟨wb0, wb1, wb2, wb3⟩ := blk4 Wb
  obtain ⟨gb0, gb1, gb2, gb3⟩ := blk4 Gb
  go_wp2_with fail
  refine (eqMap_same (Rd.of_own PA) (Rd.of_own PB) hm1 hm2 (Rd.of_own OA) (Rd.of_own OB)).mono ?_
  rintro e w3 ⟨rfl, hb⟩
  clear wb0 wb1 wb2 wb3 gb0 gb1 gb2 gb3
  replace Wb := Wb.on hb
  replace Gb := Gb.on hb
  replace OA := own_below OA hb
  replace OB := own_below OB hb
  replace PA := own_below PA hb
  replace PB := own_below PB hb
  replace G := G.trans (hb.mono G.size)
  clear hb
  obtain ⟨wb0, wb1, wb2, wb3⟩ := blk4 Wb
  obtain ⟨gb0, gb1, gb2, gb3⟩ := blk4 Gb
  have szG := G.size
  go_wp2_with fail
  refine (markMap_own PA PB PAB (by omega) (by omega)).mono ?_
  clear wb0 wb1 wb2 wb3 gb0 gb1 gb2 gb3
  rintro e w9 ⟨rfl, PA2, PB2, hc⟩
  replace Wb := Wb.ch hc (by rintro (h | h) <;> first | (have := loPA.out _ h; omega) | (have := loPB.out _ h; omega))
  replace Gb := Gb.ch hc (by rintro (h | h) <;> first | (have := loPA.out _ h; omega) | (have := loPB.out _ h; omega))
  replace OA := own_ch OA hc (fun k hk h => by have h1 := ltOA.out k hk; rcases h with h | h <;> first | (have := loPA.out _ h; omega) | (have := loPB.out _ h; omega))
  replace OB := own_ch OB hc (fun k hk h => by have h1 := ltOB.out k hk; rcases h with h | h <;> first | (have := loPA.out _ h; omega) | (have := loPB.out _ h; omega))
  replace G := Below.ch G hc G.size (by rintro k (h | h) <;> first | (have := loPA.out _ h; omega) | (have := loPB.out _ h; omega))
  replace PA := PA2
  replace PB := PB2
  clear PA2 PB2 hc
  have r0 : ¬ ((1 : Int) + (rr.ri.length : Int) + (rr.co.length : Int)) < 0 := by omega
  have r0d : decide (((1 : Int) + (rr.ri.length : Int) + (rr.co.length : Int)) < 0) = false := decide_eq_false r0
  have r1 : (((1 : Int) + (rr.ri.length : Int) + (rr.co.length : Int)) != (1 + (rr.ri.length : Int) + (rr.co.length : Int))) = false := by simp
  obtain ⟨wb0, wb1, wb2, wb3⟩ := blk4 Wb
  obtain ⟨gb0, gb1, gb2, gb3⟩ := blk4 Gb
  go_wp2_with fail
  refine (heldMap_b (Rd.of_own PA) (Rd.of_own PB) (by omega) (by omega)).mono ?_
  rintro e w10 ⟨rfl, hb⟩
  clear wb0 wb1 wb2 wb3 gb0 gb1 gb2 gb3
  replace Wb := Wb.on hb
  replace Gb := Gb.on hb
  replace OA := own_below OA hb
  replace OB := own_below OB hb
  replace PA := own_below PA hb
  replace PB := own_below PB hb
  replace G := G.trans (hb.mono G.size)
  clear hb
  obtain ⟨wb0, wb1, wb2, wb3⟩ := blk4 Wb
  obtain ⟨gb0, gb1, gb2, gb3⟩ := blk4 Gb
  go_wp2_with fail
  refine (HIM.out _ (T.on G) (M.on G)).mono ?_
  rintro e w11 ⟨A2, B2, c2, d2, rfl, QA, QB, QAB, hb⟩
  clear wb0 wb1 wb2 wb3 gb0 gb1 gb2 gb3
  replace Wb := Wb.on hb
  replace Gb := Gb.on hb
  replace OA := own_below OA hb
  replace OB := own_below OB hb
  replace PA := own_below PA hb
  replace PB := own_below PB hb
  replace G := G.trans (hb.mono G.size)
  clear hb
  have Hb := Blk.new w11 47 [.int .i64 rr.wd, .int .i64 rr.ht, .slice A2 rr.ri.length c2, .slice B2 rr.co.length d2]
  replace Wb := Wb.alloc (.cells #[.int .i64 rr.wd, .int .i64 rr.ht, .slice A2 rr.ri.length c2, .slice B2 rr.co.length d2] 47)
  replace Gb := Gb.alloc (.cells #[.int .i64 rr.wd, .int .i64 rr.ht, .slice A2 rr.ri.length c2, .slice B2 rr.co.length d2] 47)
  replace OA := OA.alloc (.cells #[.int .i64 rr.wd, .int .i64 rr.ht, .slice A2 rr.ri.length c2, .slice B2 rr.co.length d2] 47)
  replace OB := OB.alloc (.cells #[.int .i64 rr.wd, .int .i64 rr.ht, .slice A2 rr.ri.length c2, .slice B2 rr.co.length d2] 47)
  replace PA := PA.alloc (.cells #[.int .i64 rr.wd, .int .i64 rr.ht, .slice A2 rr.ri.length c2, .slice B2 rr.co.length d2] 47)
  replace PB := PB.alloc (.cells #[.int .i64 rr.wd, .int .i64 rr.ht, .slice A2 rr.ri.length c2, .slice B2 rr.co.length d2] 47)
  replace QA := QA.alloc (.cells #[.int .i64 rr.wd, .int .i64 rr.ht, .slice A2 rr.ri.length c2, .slice B2 rr.co.length d2] 47)
  replace QB := QB.alloc (.cells #[.int .i64 rr.wd, .int .i64 rr.ht, .slice A2 rr.ri.length c2, .slice B2 rr.co.length d2] 47)
  replace G := G.alloc G.size (.cells #[.int .i64 rr.wd, .int .i64 rr.ht, .slice A2 rr.ri.length c2, .slice B2 rr.co.length d2] 47)
  obtain ⟨wb0, wb1, wb2, wb3⟩ := blk4 Wb
  obtain ⟨gb0, gb1, gb2, gb3⟩ := blk4 Gb
  obtain ⟨hb0, hb1, hb2, hb3⟩ := blk4 Hb
  go_wp2_with fail
  refine (eqMap_same (Rd.of_own QA) (Rd.of_own QB) hm1 hm2 (Rd.of_own OA) (Rd.of_own OB)).mono ?_
  rintro e w12 ⟨rfl, hb⟩
  clear wb0 wb1 wb2 wb3 gb0 gb1 gb2 gb3 hb0 hb1 hb2 hb3
  replace Wb := Wb.on hb
  replace Gb := Gb.on hb
  replace Hb := Hb.on hb
  replace OA := own_below OA hb
  replace OB := own_below OB hb
  replace PA := own_below PA hb
  replace PB := own_below PB hb
  replace QA := own_below QA hb
  replace QB := own_below QB hb
  replace G := G.trans (hb.mono G.size)
  clear hb
  obtain ⟨wb0, wb1, wb2, wb3⟩ := blk4 Wb
  obtain ⟨gb0, gb1, gb2, gb3⟩ := blk4 Gb
  obtain ⟨hb0, hb1, hb2, hb3⟩ := blk4 Hb
  go_wp2_with fail
  refine (heldMap_b (Rd.of_own PA) (Rd.of_own PB) (by omega) (by omega)).mono ?_
  rintro e w13 ⟨rfl, hb⟩
  clear wb0 wb1 wb2 wb3 gb0 gb1 gb2 gb3 hb0 hb1 hb2 hb3
  replace Wb := Wb.on hb
  replace Gb := Gb.on hb
  replace Hb := Hb.on hb
  replace OA := own_below OA hb
  replace OB := own_below OB hb
  replace PA := own_below PA hb
  replace PB := own_below PB hb
  replace QA := own_below QA hb
  replace QB := own_below QB hb
  replace G := G.trans (hb.mono G.size)
  clear hb
  go_wp2_with fail
  go_ret
  exact ⟨rfl, G⟩
end Go.Proofs.YtmmpcchjalgokaaDoor
