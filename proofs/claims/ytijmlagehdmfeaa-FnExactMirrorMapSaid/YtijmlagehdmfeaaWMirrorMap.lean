/- The walk of FnExactMirrorMap. -/
import Derived.Test.YtijmlagehdmfeaaMmk
import Derived.Test.YtijmlagehdmfeaaOpenMap
import Derived.Deep.RegionWith
namespace Go.Proofs.Ytijmlagehdmfeaa
set_option linter.unusedVariables false
set_option linter.unusedSimpArgs false
open Go.RowKit
theorem mrM_len (m : Mp) : (mrM m).ri.length ≤ 36 ∧ (mrM m).co.length ≤ 36 := by
  unfold mrM
  split
  · next h =>
    have V := valid_iff.1 h
    have hw : m.wd.toNat ≤ 6 := by have := V.w6; omega
    have hh : m.ht.toNat ≤ 6 := by have := V.h6; omega
    have h36 : m.wd.toNat * m.ht.toNat ≤ 6 * 6 := Nat.mul_le_mul hw hh
    have h37 : m.ht.toNat * m.wd.toNat ≤ 6 * 6 := Nat.mul_le_mul hh hw
    refine ⟨?_, ?_⟩ <;> (dsimp only; rw [allL_len]; omega)
  · exact ⟨by show 0 ≤ 36; omega, by show 0 ≤ 36; omega⟩
set_option maxRecDepth 100000 in
set_option maxHeartbeats 4000000 in
theorem law_MirrorMap {wd ht : Int} {A : Option Addr} {n c : Nat} {B : Option Addr} {m d : Nat} {ri co : List Int} (w : World) (_ : I64 wd) (_ : I64 ht)
    (hA : n ≤ maxLen ∧ c ≤ maxLen ∧ Rd w w.heap.size 1 A n (ints ri) ∧ ∀ x ∈ ri, I64 x) (hB : m ≤ maxLen ∧ d ≤ maxLen ∧ Rd w w.heap.size 1 B m (ints co) ∧ ∀ x ∈ co, I64 x) :
    Calls Try.prog 4 #[.agg #[.int .i64 wd, .int .i64 ht, .slice A n c, .slice B m d]] w fun e w' => e = .returned (.bool true) ∧ Below w.heap.size w w' := by
  obtain ⟨hn, _, hA, _⟩ := hA
  obtain ⟨hm, _, hB, _⟩ := hB
  by_cases hs : 1048576 < n + m
  · go_enter Try.func4, Try.ntmps4
    go_wp2_with fail
    refine (szMap_any hn hm).mono ?_
    rintro e w1 ⟨rfl, hb1⟩
    rw [if_pos hs]
    go_wp2_with fail
    go_ret
    exact ⟨rfl, Below.trans (by repeat (first | exact Below.refl _ _ | refine below_drewN ?_ _ | refine Below.drew ?_ | refine Below.alloc ?_ (by first | omega | (simp; done) | (simp; omega)) _ | refine Below.setCell ?_ (by first | omega | (simp; done) | (simp; omega)) _)) (hb1.mono (by first | omega | (simp; done) | (simp; omega)))⟩
  have hsn : n ≤ 1048576 := by omega
  have hsm : m ≤ 1048576 := by omega
  obtain ⟨mp, rfl, rfl, rfl, rfl⟩ : ∃ mp : Mp, mp.wd = wd ∧ mp.ht = ht ∧ mp.ri = ri ∧ mp.co = co := ⟨⟨wd, ht, ri, co⟩, rfl, rfl, rfl, rfl⟩
  have LR := Lib.hid hA.len
  have LC := Lib.hid hB.len
  obtain ⟨hr1, hr2⟩ := mrM_len mp
  obtain ⟨rr, hrr⟩ : ∃ rr, rr = mrM mp := ⟨_, rfl⟩
  obtain ⟨okb, hok⟩ : ∃ okb, okb = okM mp := ⟨_, rfl⟩
  have HSP : Hid (∀ (v : Value) (W : World), MapIn W mp v → Calls Try.prog 23 #[v] W fun e w' => MapEnd W rr okb e w') := (by rw [hrr, hok]; exact fun v W h => MirrorMap_spec h : ∀ (v : Value) (W : World), MapIn W mp v → Calls Try.prog 23 #[v] W fun e w' => MapEnd W rr okb e w')
  have HIM : Hid (∀ (v : Value) (W : World), MapIn W mp v → Calls Try.prog 24 #[v] W fun e w' => MapEnd W rr okb e w') := (by rw [hrr, hok]; exact fun v W h => MirrorMap_impl h : ∀ (v : Value) (W : World), MapIn W mp v → Calls Try.prog 24 #[v] W fun e w' => MapEnd W rr okb e w')
  rw [← hrr] at hr1 hr2
  clear hrr hok
  have hm1 : rr.ri.length ≤ maxLen := by simp only [maxLen]; omega
  have hm2 : rr.co.length ≤ maxLen := by simp only [maxLen]; omega
  have okne : (okb != okb) = false := by simp
  go_enter Try.func4, Try.ntmps4
  go_wp2_with fail
  refine (szMap_any hn hm).mono ?_
  rintro e w1 ⟨rfl, hb⟩
  rw [if_neg hs]
  have G : Below w.heap.size w w1 := Below.trans (by repeat (first | exact Below.refl _ _ | refine below_drewN ?_ _ | refine Below.drew ?_ | refine Below.alloc ?_ (by first | omega | (simp; done) | (simp; omega)) _ | refine Below.setCell ?_ (by first | omega | (simp; done) | (simp; omega)) _)) (hb.mono (by first | omega | (simp; done) | (simp; omega)))
  have K := (Blk.new w 24 [.int .i64 mp.wd, .int .i64 mp.ht, .slice A n c, .slice B m d]).on hb
  clear hb
  obtain ⟨k0, k1, k2, k3⟩ := blk4 K
  go_wp2_with fail
  refine (toMap_any ((hA.below G).more G.size) ((hB.below G).more G.size) hsn hsm).mono ?_
  rintro e w2 ⟨g1, g2, rfl, M1, M2, hg1, hg2, hb⟩
  clear k0 k1 k2 k3
  replace K := K.on hb
  replace G := G.trans (hb.mono G.size)
  clear hb
  go_wp2_with fail
  refine (HSP.out _ _ (MapIn.mk' (m := mp) (M1.rd (size := 1) (n := n) (by simp [ints, LR.out])) (M2.rd (size := 1) (n := m) (by simp [ints, LC.out])) hn hm)).mono ?_
  rintro e w3 ⟨A0, B0, c0, d0, rfl, OA, OB, OAB, hb⟩
  clear M1 M2 hg1 hg2 OAB
  replace K := K.on hb
  replace G := G.trans (hb.mono G.size)
  clear hb
  have ltOA := Lib.hid (fun k (hk : Value.ownBlock (.slice A0 rr.ri.length c0) = some k) => (OA.lt k hk).2)
  have ltOB := Lib.hid (fun k (hk : Value.ownBlock (.slice B0 rr.co.length d0) = some k) => (OB.lt k hk).2)
  have ltK := K.lt
  have Wb := Blk.new w3 28 [.int .i64 rr.wd, .int .i64 rr.ht, .slice A0 rr.ri.length c0, .slice B0 rr.co.length d0]
  replace K := K.alloc (.cells #[.int .i64 rr.wd, .int .i64 rr.ht, .slice A0 rr.ri.length c0, .slice B0 rr.co.length d0] 28)
  replace OA := OA.alloc (.cells #[.int .i64 rr.wd, .int .i64 rr.ht, .slice A0 rr.ri.length c0, .slice B0 rr.co.length d0] 28)
  replace OB := OB.alloc (.cells #[.int .i64 rr.wd, .int .i64 rr.ht, .slice A0 rr.ri.length c0, .slice B0 rr.co.length d0] 28)
  replace G := G.alloc G.size (.cells #[.int .i64 rr.wd, .int .i64 rr.ht, .slice A0 rr.ri.length c0, .slice B0 rr.co.length d0] 28)
  obtain ⟨k0, k1, k2, k3⟩ := blk4 K
  obtain ⟨wb0, wb1, wb2, wb3⟩ := blk4 Wb
  go_wp2_with fail
  refine (toMap_any ((hA.below G).more G.size) ((hB.below G).more G.size) hsn hsm).mono ?_
  rintro e w4 ⟨g3, g4, rfl, M3, M4, hg3, hg4, hb⟩
  rw [World.size_alloc] at hg3
  clear k0 k1 k2 k3 wb0 wb1 wb2 wb3
  replace K := K.on hb
  replace Wb := Wb.on hb
  replace OA := own_below OA hb
  replace OB := own_below OB hb
  replace G := G.trans (hb.mono G.size)
  clear hb
  have lt4 := M4.lt
  have X := Blk.new w4 28 [.int .i64 mp.wd, .int .i64 mp.ht, .slice (some ⟨g3, 0, none⟩) n n, .slice (some ⟨g4, 0, none⟩) m m]
  replace K := K.alloc (.cells #[.int .i64 mp.wd, .int .i64 mp.ht, .slice (some ⟨g3, 0, none⟩) n n, .slice (some ⟨g4, 0, none⟩) m m] 28)
  replace Wb := Wb.alloc (.cells #[.int .i64 mp.wd, .int .i64 mp.ht, .slice (some ⟨g3, 0, none⟩) n n, .slice (some ⟨g4, 0, none⟩) m m] 28)
  replace M3 := M3.alloc (.cells #[.int .i64 mp.wd, .int .i64 mp.ht, .slice (some ⟨g3, 0, none⟩) n n, .slice (some ⟨g4, 0, none⟩) m m] 28)
  replace M4 := M4.alloc (.cells #[.int .i64 mp.wd, .int .i64 mp.ht, .slice (some ⟨g3, 0, none⟩) n n, .slice (some ⟨g4, 0, none⟩) m m] 28)
  replace OA := OA.alloc (.cells #[.int .i64 mp.wd, .int .i64 mp.ht, .slice (some ⟨g3, 0, none⟩) n n, .slice (some ⟨g4, 0, none⟩) m m] 28)
  replace OB := OB.alloc (.cells #[.int .i64 mp.wd, .int .i64 mp.ht, .slice (some ⟨g3, 0, none⟩) n n, .slice (some ⟨g4, 0, none⟩) m m] 28)
  replace G := G.alloc G.size (.cells #[.int .i64 mp.wd, .int .i64 mp.ht, .slice (some ⟨g3, 0, none⟩) n n, .slice (some ⟨g4, 0, none⟩) m m] 28)
  obtain ⟨k0, k1, k2, k3⟩ := blk4 K
  obtain ⟨wb0, wb1, wb2, wb3⟩ := blk4 Wb
  obtain ⟨x0, x1, x2, x3⟩ := blk4 X
  go_wp2_with fail
  refine (HIM.out _ _ (MapIn.mk' (m := mp) (M3.rd (size := 1) (n := n) (by simp [ints, LR.out])) (M4.rd (size := 1) (n := m) (by simp [ints, LC.out])) hn hm)).mono ?_
  rintro e w5 ⟨A1, B1, c1, d1, rfl, PA, PB, PAB, hb⟩
  have szb := hb.size
  rw [World.size_alloc] at szb
  have loPA := Lib.hid (fun k (hk : Value.ownBlock (.slice A1 rr.ri.length c1) = some k) => (PA.lt k hk))
  have loPB := Lib.hid (fun k (hk : Value.ownBlock (.slice B1 rr.co.length d1) = some k) => (PB.lt k hk))
  rw [World.size_alloc] at loPA loPB
  clear k0 k1 k2 k3 wb0 wb1 wb2 wb3 x0 x1 x2 x3
  replace K := K.on hb
  replace Wb := Wb.on hb
  replace M3 := M3.on hb
  replace M4 := M4.on hb
  replace X := X.on hb
  replace OA := own_below OA hb
  replace OB := own_below OB hb
  replace G := G.trans (hb.mono G.size)
  clear hb
  have Gb := Blk.new w5 28 [.int .i64 rr.wd, .int .i64 rr.ht, .slice A1 rr.ri.length c1, .slice B1 rr.co.length d1]
  replace K := K.alloc (.cells #[.int .i64 rr.wd, .int .i64 rr.ht, .slice A1 rr.ri.length c1, .slice B1 rr.co.length d1] 28)
  replace Wb := Wb.alloc (.cells #[.int .i64 rr.wd, .int .i64 rr.ht, .slice A1 rr.ri.length c1, .slice B1 rr.co.length d1] 28)
  replace M3 := M3.alloc (.cells #[.int .i64 rr.wd, .int .i64 rr.ht, .slice A1 rr.ri.length c1, .slice B1 rr.co.length d1] 28)
  replace M4 := M4.alloc (.cells #[.int .i64 rr.wd, .int .i64 rr.ht, .slice A1 rr.ri.length c1, .slice B1 rr.co.length d1] 28)
  replace X := X.alloc (.cells #[.int .i64 rr.wd, .int .i64 rr.ht, .slice A1 rr.ri.length c1, .slice B1 rr.co.length d1] 28)
  replace OA := OA.alloc (.cells #[.int .i64 rr.wd, .int .i64 rr.ht, .slice A1 rr.ri.length c1, .slice B1 rr.co.length d1] 28)
  replace OB := OB.alloc (.cells #[.int .i64 rr.wd, .int .i64 rr.ht, .slice A1 rr.ri.length c1, .slice B1 rr.co.length d1] 28)
  replace PA := PA.alloc (.cells #[.int .i64 rr.wd, .int .i64 rr.ht, .slice A1 rr.ri.length c1, .slice B1 rr.co.length d1] 28)
  replace PB := PB.alloc (.cells #[.int .i64 rr.wd, .int .i64 rr.ht, .slice A1 rr.ri.length c1, .slice B1 rr.co.length d1] 28)
  replace G := G.alloc G.size (.cells #[.int .i64 rr.wd, .int .i64 rr.ht, .slice A1 rr.ri.length c1, .slice B1 rr.co.length d1] 28)
  obtain ⟨k0, k1, k2, k3⟩ := blk4 K
  obtain ⟨wb0, wb1, wb2, wb3⟩ := blk4 Wb
  obtain ⟨x0, x1, x2, x3⟩ := blk4 X
  obtain ⟨gb0, gb1, gb2, gb3⟩ := blk4 Gb
  go_wp2_with fail
  refine (eqMap_same (Rd.of_own PA) (Rd.of_own PB) hm1 hm2 (Rd.of_own OA) (Rd.of_own OB)).mono ?_
  rintro e w6 ⟨rfl, hb⟩
  clear k0 k1 k2 k3 wb0 wb1 wb2 wb3 x0 x1 x2 x3 gb0 gb1 gb2 gb3
  replace K := K.on hb
  replace Wb := Wb.on hb
  replace M3 := M3.on hb
  replace M4 := M4.on hb
  replace X := X.on hb
  replace Gb := Gb.on hb
  replace OA := own_below OA hb
  replace OB := own_below OB hb
  replace PA := own_below PA hb
  replace PB := own_below PB hb
  replace G := G.trans (hb.mono G.size)
  clear hb
  obtain ⟨k0, k1, k2, k3⟩ := blk4 K
  obtain ⟨wb0, wb1, wb2, wb3⟩ := blk4 Wb
  obtain ⟨x0, x1, x2, x3⟩ := blk4 X
  obtain ⟨gb0, gb1, gb2, gb3⟩ := blk4 Gb
  go_upto_region 10 with (fail)
  go_cut [45] (fun t wx => t = .bool false ∧ Below w6.heap.size w6 wx)
  case first =>
    have hA6 : Rd w6.drew w6.drew.heap.size 1 A n (ints mp.ri) := (hA.below G).more G.size
    have hB6 : Rd w6.drew w6.drew.heap.size 1 B m (ints mp.co) := (hB.below G).more G.size
    have X6 : Blk w6.drew w4.heap.size 28 [.int .i64 mp.wd, .int .i64 mp.ht, .slice (some ⟨g3, 0, none⟩) n n, .slice (some ⟨g4, 0, none⟩) m m] := X
    have M36 : Blk w6.drew g3 3 (ints mp.ri) := M3
    have M46 : Blk w6.drew g4 3 (ints mp.co) := M4
    go_region_with (first | (go_at_call 20; refine (toMap_any hA6 hB6 hsn hsm).mono ?_; rintro e wy ⟨g5, g6, rfl, M5, M6, hg5, hg6, hb6⟩; obtain ⟨y0, y1, y2, y3⟩ := blk4 (X6.on hb6)) | (go_at_call 22; refine (eqMap_same ((M36.on hb6).rd (size := 1) (n := n) (by simp [ints, LR.out])) ((M46.on hb6).rd (size := 1) (n := m) (by simp [ints, LC.out])) hn hm (M5.rd (size := 1) (n := n) (by simp [ints, LR.out])) (M6.rd (size := 1) (n := m) (by simp [ints, LC.out]))).mono ?_; rintro e wz ⟨rfl, hb7⟩))
    all_goals
      go_wp2_with fail
      go_meet
      exact ⟨rfl, (Below.refl _ _).drew.trans (hb6.trans (hb7.mono hb6.size))⟩
  case rest =>
  obtain ⟨rfl, hb⟩ := hcut
  clear k0 k1 k2 k3 wb0 wb1 wb2 wb3 x0 x1 x2 x3 gb0 gb1 gb2 gb3
  replace K := K.on hb
  replace Wb := Wb.on hb
  replace M3 := M3.on hb
  replace M4 := M4.on hb
  replace X := X.on hb
  replace Gb := Gb.on hb
  replace OA := own_below OA hb
  replace OB := own_below OB hb
  replace PA := own_below PA hb
  replace PB := own_below PB hb
  replace G := G.trans (hb.mono G.size)
  clear hb
  obtain ⟨k0, k1, k2, k3⟩ := blk4 K
  obtain ⟨wb0, wb1, wb2, wb3⟩ := blk4 Wb
  obtain ⟨x0, x1, x2, x3⟩ := blk4 X
  obtain ⟨gb0, gb1, gb2, gb3⟩ := blk4 Gb
  go_wp2_with fail
  refine (markMap_any M3 M4 LR.out LC.out (by omega) hsn hsm).mono ?_
  clear k0 k1 k2 k3 wb0 wb1 wb2 wb3 x0 x1 x2 x3 gb0 gb1 gb2 gb3
  rintro e w7 ⟨rfl, hc, _, _⟩
  have szG := G.size
  replace K := K.ch hc (by rintro (h | h) <;> omega)
  replace Wb := Wb.ch hc (by rintro (h | h) <;> omega)
  replace X := X.ch hc (by rintro (h | h) <;> omega)
  replace Gb := Gb.ch hc (by rintro (h | h) <;> omega)
  replace OA := own_ch OA hc (fun k hk h => by have := ltOA.out k hk; rcases h with h | h <;> omega)
  replace OB := own_ch OB hc (fun k hk h => by have := ltOB.out k hk; rcases h with h | h <;> omega)
  replace PA := own_ch PA hc (fun k hk h => by have := (loPA.out k hk).1; rcases h with h | h <;> omega)
  replace PB := own_ch PB hc (fun k hk h => by have := (loPB.out k hk).1; rcases h with h | h <;> omega)
  replace G := Below.ch G hc G.size (by rintro k (rfl | rfl) <;> omega)
  clear hc M3 M4
  obtain ⟨k0, k1, k2, k3⟩ := blk4 K
  obtain ⟨wb0, wb1, wb2, wb3⟩ := blk4 Wb
  obtain ⟨x0, x1, x2, x3⟩ := blk4 X
  obtain ⟨gb0, gb1, gb2, gb3⟩ := blk4 Gb
  go_wp2_with fail
  refine (eqMap_same (Rd.of_own PA) (Rd.of_own PB) hm1 hm2 (Rd.of_own OA) (Rd.of_own OB)).mono ?_
  rintro e w8 ⟨rfl, hb⟩
  clear k0 k1 k2 k3 wb0 wb1 wb2 wb3 x0 x1 x2 x3 gb0 gb1 gb2 gb3
  replace K := K.on hb
  replace Wb := Wb.on hb
  replace X := X.on hb
  replace Gb := Gb.on hb
  replace OA := own_below OA hb
  replace OB := own_below OB hb
  replace PA := own_below PA hb
  replace PB := own_below PB hb
  replace G := G.trans (hb.mono G.size)
  clear hb
  obtain ⟨k0, k1, k2, k3⟩ := blk4 K
  obtain ⟨wb0, wb1, wb2, wb3⟩ := blk4 Wb
  obtain ⟨x0, x1, x2, x3⟩ := blk4 X
  obtain ⟨gb0, gb1, gb2, gb3⟩ := blk4 Gb
  go_wp2_with fail
  refine (markMap_own PA PB PAB (by omega) (by omega)).mono ?_
  clear k0 k1 k2 k3 wb0 wb1 wb2 wb3 x0 x1 x2 x3 gb0 gb1 gb2 gb3
  rintro e w9 ⟨rfl, PA2, PB2, hc⟩
  replace K := K.ch hc (by rintro (h | h) <;> first | (have := loPA.out _ h; omega) | (have := loPB.out _ h; omega))
  replace Wb := Wb.ch hc (by rintro (h | h) <;> first | (have := loPA.out _ h; omega) | (have := loPB.out _ h; omega))
  replace X := X.ch hc (by rintro (h | h) <;> first | (have := loPA.out _ h; omega) | (have := loPB.out _ h; omega))
  replace Gb := Gb.ch hc (by rintro (h | h) <;> first | (have := loPA.out _ h; omega) | (have := loPB.out _ h; omega))
  replace OA := own_ch OA hc (fun k hk h => by have h1 := ltOA.out k hk; rcases h with h | h <;> first | (have := loPA.out _ h; omega) | (have := loPB.out _ h; omega))
  replace OB := own_ch OB hc (fun k hk h => by have h1 := ltOB.out k hk; rcases h with h | h <;> first | (have := loPA.out _ h; omega) | (have := loPB.out _ h; omega))
  replace G := Below.ch G hc G.size (by rintro k (h | h) <;> first | (have := loPA.out _ h; omega) | (have := loPB.out _ h; omega))
  replace PA := PA2
  replace PB := PB2
  clear PA2 PB2 hc
  obtain ⟨k0, k1, k2, k3⟩ := blk4 K
  obtain ⟨wb0, wb1, wb2, wb3⟩ := blk4 Wb
  obtain ⟨x0, x1, x2, x3⟩ := blk4 X
  obtain ⟨gb0, gb1, gb2, gb3⟩ := blk4 Gb
  have r0 : ¬ ((1 : Int) + (rr.ri.length : Int) + (rr.co.length : Int)) < 0 := by omega
  have r0d : decide (((1 : Int) + (rr.ri.length : Int) + (rr.co.length : Int)) < 0) = false := decide_eq_false r0
  have r1 : (((1 : Int) + (rr.ri.length : Int) + (rr.co.length : Int)) != (1 + (rr.ri.length : Int) + (rr.co.length : Int))) = false := by simp
  go_wp2_with fail
  refine (heldMap_b (Rd.of_own PA) (Rd.of_own PB) (by omega) (by omega)).mono ?_
  rintro e w10 ⟨rfl, hb⟩
  clear k0 k1 k2 k3 wb0 wb1 wb2 wb3 x0 x1 x2 x3 gb0 gb1 gb2 gb3
  replace K := K.on hb
  replace Wb := Wb.on hb
  replace X := X.on hb
  replace Gb := Gb.on hb
  replace OA := own_below OA hb
  replace OB := own_below OB hb
  replace PA := own_below PA hb
  replace PB := own_below PB hb
  replace G := G.trans (hb.mono G.size)
  clear hb
  obtain ⟨k0, k1, k2, k3⟩ := blk4 K
  obtain ⟨wb0, wb1, wb2, wb3⟩ := blk4 Wb
  obtain ⟨x0, x1, x2, x3⟩ := blk4 X
  obtain ⟨gb0, gb1, gb2, gb3⟩ := blk4 Gb
  go_wp2_with fail
  refine (toMap_any ((hA.below G).more G.size) ((hB.below G).more G.size) hsn hsm).mono ?_
  rintro e w11 ⟨g7, g8, rfl, M7, M8, hg7, hg8, hb⟩
  clear k0 k1 k2 k3 wb0 wb1 wb2 wb3 x0 x1 x2 x3 gb0 gb1 gb2 gb3
  replace K := K.on hb
  replace Wb := Wb.on hb
  replace X := X.on hb
  replace Gb := Gb.on hb
  replace OA := own_below OA hb
  replace OB := own_below OB hb
  replace PA := own_below PA hb
  replace PB := own_below PB hb
  replace G := G.trans (hb.mono G.size)
  clear hb
  go_wp2_with fail
  refine (HIM.out _ _ (MapIn.mk' (m := mp) (M7.rd (size := 1) (n := n) (by simp [ints, LR.out])) (M8.rd (size := 1) (n := m) (by simp [ints, LC.out])) hn hm)).mono ?_
  rintro e w12 ⟨A2, B2, c2, d2, rfl, QA, QB, QAB, hb⟩
  replace K := K.on hb
  replace Wb := Wb.on hb
  replace X := X.on hb
  replace Gb := Gb.on hb
  replace OA := own_below OA hb
  replace OB := own_below OB hb
  replace PA := own_below PA hb
  replace PB := own_below PB hb
  replace G := G.trans (hb.mono G.size)
  clear hb
  have Hb := Blk.new w12 28 [.int .i64 rr.wd, .int .i64 rr.ht, .slice A2 rr.ri.length c2, .slice B2 rr.co.length d2]
  replace K := K.alloc (.cells #[.int .i64 rr.wd, .int .i64 rr.ht, .slice A2 rr.ri.length c2, .slice B2 rr.co.length d2] 28)
  replace Wb := Wb.alloc (.cells #[.int .i64 rr.wd, .int .i64 rr.ht, .slice A2 rr.ri.length c2, .slice B2 rr.co.length d2] 28)
  replace X := X.alloc (.cells #[.int .i64 rr.wd, .int .i64 rr.ht, .slice A2 rr.ri.length c2, .slice B2 rr.co.length d2] 28)
  replace Gb := Gb.alloc (.cells #[.int .i64 rr.wd, .int .i64 rr.ht, .slice A2 rr.ri.length c2, .slice B2 rr.co.length d2] 28)
  replace OA := OA.alloc (.cells #[.int .i64 rr.wd, .int .i64 rr.ht, .slice A2 rr.ri.length c2, .slice B2 rr.co.length d2] 28)
  replace OB := OB.alloc (.cells #[.int .i64 rr.wd, .int .i64 rr.ht, .slice A2 rr.ri.length c2, .slice B2 rr.co.length d2] 28)
  replace PA := PA.alloc (.cells #[.int .i64 rr.wd, .int .i64 rr.ht, .slice A2 rr.ri.length c2, .slice B2 rr.co.length d2] 28)
  replace PB := PB.alloc (.cells #[.int .i64 rr.wd, .int .i64 rr.ht, .slice A2 rr.ri.length c2, .slice B2 rr.co.length d2] 28)
  replace QA := QA.alloc (.cells #[.int .i64 rr.wd, .int .i64 rr.ht, .slice A2 rr.ri.length c2, .slice B2 rr.co.length d2] 28)
  replace QB := QB.alloc (.cells #[.int .i64 rr.wd, .int .i64 rr.ht, .slice A2 rr.ri.length c2, .slice B2 rr.co.length d2] 28)
  replace G := G.alloc G.size (.cells #[.int .i64 rr.wd, .int .i64 rr.ht, .slice A2 rr.ri.length c2, .slice B2 rr.co.length d2] 28)
  obtain ⟨k0, k1, k2, k3⟩ := blk4 K
  obtain ⟨wb0, wb1, wb2, wb3⟩ := blk4 Wb
  obtain ⟨x0, x1, x2, x3⟩ := blk4 X
  obtain ⟨gb0, gb1, gb2, gb3⟩ := blk4 Gb
  obtain ⟨hh0, hh1, hh2, hh3⟩ := blk4 Hb
  go_wp2_with fail
  refine (eqMap_same (Rd.of_own QA) (Rd.of_own QB) hm1 hm2 (Rd.of_own OA) (Rd.of_own OB)).mono ?_
  rintro e w13 ⟨rfl, hb⟩
  clear k0 k1 k2 k3 wb0 wb1 wb2 wb3 x0 x1 x2 x3 gb0 gb1 gb2 gb3 hh0 hh1 hh2 hh3
  replace K := K.on hb
  replace Wb := Wb.on hb
  replace X := X.on hb
  replace Gb := Gb.on hb
  replace Hb := Hb.on hb
  replace OA := own_below OA hb
  replace OB := own_below OB hb
  replace PA := own_below PA hb
  replace PB := own_below PB hb
  replace QA := own_below QA hb
  replace QB := own_below QB hb
  replace G := G.trans (hb.mono G.size)
  clear hb
  obtain ⟨k0, k1, k2, k3⟩ := blk4 K
  obtain ⟨wb0, wb1, wb2, wb3⟩ := blk4 Wb
  obtain ⟨x0, x1, x2, x3⟩ := blk4 X
  obtain ⟨gb0, gb1, gb2, gb3⟩ := blk4 Gb
  obtain ⟨hh0, hh1, hh2, hh3⟩ := blk4 Hb
  go_wp2_with fail
  refine (heldMap_b (Rd.of_own PA) (Rd.of_own PB) (by omega) (by omega)).mono ?_
  rintro e w14 ⟨rfl, hb⟩
  clear k0 k1 k2 k3 wb0 wb1 wb2 wb3 x0 x1 x2 x3 gb0 gb1 gb2 gb3 hh0 hh1 hh2 hh3
  replace K := K.on hb
  replace Wb := Wb.on hb
  replace X := X.on hb
  replace Gb := Gb.on hb
  replace Hb := Hb.on hb
  replace OA := own_below OA hb
  replace OB := own_below OB hb
  replace PA := own_below PA hb
  replace PB := own_below PB hb
  replace QA := own_below QA hb
  replace QB := own_below QB hb
  replace G := G.trans (hb.mono G.size)
  clear hb
  obtain ⟨k0, k1, k2, k3⟩ := blk4 K
  obtain ⟨wb0, wb1, wb2, wb3⟩ := blk4 Wb
  obtain ⟨x0, x1, x2, x3⟩ := blk4 X
  obtain ⟨gb0, gb1, gb2, gb3⟩ := blk4 Gb
  obtain ⟨hh0, hh1, hh2, hh3⟩ := blk4 Hb
  go_wp2_with fail
  go_ret
  exact ⟨rfl, G⟩
end Go.Proofs.Ytijmlagehdmfeaa
