/- Contracts: FarthestCell, the program's and the reference's. -/
import Derived.Test.YtijmlagehdmfeaaFarPlain
namespace Go.Proofs.Ytijmlagehdmfeaa
set_option linter.unusedVariables false
set_option linter.unusedSimpArgs false
open Go.RowKit
set_option maxRecDepth 100000 in
set_option maxHeartbeats 2000000 in
theorem FarthestCell_impl {m : Mp} {v : Value} {a : Int} {w : World} (hv : MapIn w m v) :
    Calls Try.prog 48 #[v, .int .i64 a] w fun e w' => e = .returned (.tuple #[.int .i64 (fcV1 m a), .int .i64 (fcV2 m a), .bool (fcOk m a)]) ∧ Below w.heap.size w w' := by
  have hv' := hv
  obtain ⟨A, n, cp, B, k, d, rfl, h1, h2, h3, h4⟩ := hv
  have K := (Blk.new w 28 [.int .i64 m.wd, .int .i64 m.ht, .slice A n cp, .slice B k d]).alloc (.cells #[.int .i64 a] 3)
  have G : Below w.heap.size w ((w.alloc (.cells #[.int .i64 m.wd, .int .i64 m.ht, .slice A n cp, .slice B k d] 28)).alloc (.cells #[.int .i64 a] 3)) := (by repeat (first | exact Below.refl _ _ | refine below_drewN ?_ _ | refine Below.drew ?_ | refine Below.alloc ?_ (by first | omega | (simp; done) | (simp; omega)) _ | refine Below.setCell ?_ (by first | omega | (simp; done) | (simp; omega)) _))
  have hsz : (w.alloc (.cells #[.int .i64 m.wd, .int .i64 m.ht, .slice A n cp, .slice B k d] 28)).heap.size = w.heap.size + 1 := by simp
  have L0 := (Blk.new (w.alloc (.cells #[.int .i64 m.wd, .int .i64 m.ht, .slice A n cp, .slice B k d] 28)) 3 (ints [a])).rd (size := 1) (n := 1) rfl
  have L : Rd ((w.alloc (.cells #[.int .i64 m.wd, .int .i64 m.ht, .slice A n cp, .slice B k d] 28)).alloc (.cells #[.int .i64 a] 3)) ((w.alloc (.cells #[.int .i64 m.wd, .int .i64 m.ht, .slice A n cp, .slice B k d] 28)).alloc (.cells #[.int .i64 a] 3)).heap.size 1 (some ⟨w.heap.size + 1, 0, none⟩) 1 (ints [a]) := by rw [← hsz]; exact L0
  clear L0 hsz
  cases ha : asked m a a
  · have e1 : fcOk m a = false := ha
    have e2 : fcV1 m a = 0 := by unfold fcV1; rw [ha]; rfl
    have e3 : fcV2 m a = 0 := by unfold fcV2; rw [ha]; rfl
    rw [e1, e2, e3]; clear e1 e2 e3
    have HA := Lib.hid ha
    clear ha
    go_enter Try.func48, Try.ntmps48
    go_wp2_with fail
    refine (canRoute_1 (m := m) (hv'.on G) L).mono ?_
    rintro e w1 ⟨rfl, hb⟩
    replace K := K.on hb
    replace G := G.trans (hb.mono G.size)
    clear hb
    rw [HA.out]
    obtain ⟨k0, k1, k2, k3⟩ := blk4 K
    go_wp2_with fail
    go_ret3
    exact ⟨rfl, G⟩
  · obtain ⟨V, ⟨x, rfl, hx, ox⟩, _⟩ := asked_cases ha
    have e1 : fcOk m x = true := ha
    have e2 : fcV1 m x = (fcP m x m.co.length).1 := by unfold fcV1; rw [ha, if_pos rfl]; simp
    have e3 : fcV2 m x = (fcP m x m.co.length).2 := by unfold fcV2; rw [ha, if_pos rfl]; simp
    rw [e1, e2, e3]; clear e1 e2 e3
    have HA := Lib.hid ha
    have hkl := h2.len
    have hk36 : k ≤ 36 := by have := V.n36; omega
    obtain ⟨y, oy, rfl, hyb, hyc⟩ := h2.int (show 0 < k by have := V.n36; omega)
    have HL := Lib.hid hkl
    rw [hkl]
    clear ha hkl
    go_enter Try.func48, Try.ntmps48
    go_wp2_with fail
    refine (canRoute_1 (m := m) (hv'.on G) L).mono ?_
    rintro e w1 ⟨rfl, hb⟩
    replace K := K.on hb
    replace G := G.trans (hb.mono G.size)
    clear hb
    rw [HA.out]
    obtain ⟨k0, k1, k2, k3⟩ := blk4 K
    go_wp2_with fail
    clear k0 k1 k2 k3
    go_loopw [7, 8, 20] (fun p q i wr => ∃ j : Nat, j ≤ k ∧ i = .int .i64 j ∧ p = .int .i64 (fcP m x j).1 ∧ q = .int .i64 (fcP m x j).2 ∧ Blk wr w.heap.size 28 [.int .i64 m.wd, .int .i64 m.ht, .slice A n cp, .slice (some ⟨y, oy, none⟩) k d] ∧ Below w.heap.size w wr) (fun _ _ i _ => k - (intOf i).toNat)
    case atStart => exact ⟨0, Nat.zero_le _, rfl, rfl, rfl, K, G⟩
    clear K G
    case round =>
      obtain ⟨j, hj, rfl, rfl, rfl, K, G⟩ := hrel
      obtain ⟨k0, k1, k2, k3⟩ := blk4 K
      by_cases hlt : j < k
      · have kc : j < m.co.length := by rw [HL.out]; exact hlt
        have c2 := ((bcell G).1 y (oy + j) hyb).trans (hyc j kc)
        rw [← coA_nat] at c2
        have b1 := fcP_bd V hx j (by omega)
        have b2 := finV_hi V kc hx
        have b3 := finV_lo V kc hx
        have cb := V.co_bd j
        have S1 : 0 < coA m j → (fcP m x j).2 < finV m j x → Hid (fcP m x (j + 1) = ((j : Int), finV m j x)) := fun h h2 => by show _ = _; rw [fcP, if_pos ⟨h, h2⟩]
        have S2 : ¬ (0 < coA m j ∧ (fcP m x j).2 < finV m j x) → Hid (fcP m x (j + 1) = fcP m x j) := fun h => by show _ = _; rw [fcP, if_neg h]
        generalize hfv : finV m j x = fx at *
        generalize hbp : (fcP m x j).1 = bp at *
        generalize hbq : (fcP m x j).2 = bq at *
        have HFV := Lib.hid hfv
        have HBP := Lib.hid hbp
        have HBQ := Lib.hid hbq
        clear hfv hbp hbq
        generalize coA m j = cj at *
        go_wp2_with fail
        refine (leastTime_any (m := m) (hv'.on G) V hx kc).mono ?_
        rintro e w1 ⟨rfl, hb⟩
        clear k0 k1 k2 k3 c2
        replace K := K.on hb
        replace G := G.trans (hb.mono G.size)
        clear hb
        rw [HFV.out]
        by_cases hpos : 0 < cj
        · by_cases hgt : bq < fx
          · have HS := S1 hpos hgt
            have ee : enc fx = fx := by unfold enc; rw [if_neg (by omega)]
            rw [ee]
            have t1 : decide (fx < 1073741824) = true := by simp; omega
            clear S1 S2 ee
            go_wp2_with fail
            go_roundw
            case rel => exact ⟨j + 1, by omega, by go_num, by rw [HS.out], by rw [HS.out], K, G⟩
            case measure => simp [intOf]; omega
          · have HS := S2 (fun h => hgt h.2)
            cases tt : decide (enc fx < 1073741824)
            · clear S1 S2
              go_wp2_with fail
              go_roundw
              case rel => exact ⟨j + 1, by omega, by go_num, by rw [HS.out, HBP.out], by rw [HS.out, HBQ.out], K, G⟩
              case measure => simp [intOf]; omega
            · have ee : enc fx = fx := by
                have := of_decide_eq_true tt
                unfold enc at this ⊢
                split at this
                · omega
                · rename_i h; rw [if_neg h]
              rw [ee] at tt
              rw [ee]
              have t2 : decide (bq < fx) = false := by simpa using hgt
              clear S1 S2 ee
              go_wp2_with fail
              go_roundw
              case rel => exact ⟨j + 1, by omega, by go_num, by rw [HS.out, HBP.out], by rw [HS.out, HBQ.out], K, G⟩
              case measure => simp [intOf]; omega
        · have HS := S2 (fun h => hpos h.1)
          have t0 : decide (0 < cj) = false := by simpa using hpos
          clear S1 S2
          go_wp2_with fail
          go_roundw
          case rel => exact ⟨j + 1, by omega, by go_num, by rw [HS.out, HBP.out], by rw [HS.out, HBQ.out], K, G⟩
          case measure => simp [intOf]; omega
      · have hjk : j = k := by omega
        have HJ := Lib.hid hjk
        clear hjk
        go_wp2_with fail
        go_ret3
        exact ⟨by rw [← HJ.out]; rfl, G⟩
set_option maxRecDepth 100000 in
set_option maxHeartbeats 2000000 in
theorem FarthestCell_spec {m : Mp} {v : Value} {a : Int} {w : World} (hv : MapIn w m v) :
    Calls Try.prog 47 #[v, .int .i64 a] w fun e w' => e = .returned (.tuple #[.int .i64 (fcV1 m a), .int .i64 (fcV2 m a), .bool (fcOk m a)]) ∧ Below w.heap.size w w' := by
  have hv' := hv
  obtain ⟨A, n, cp, B, k, d, rfl, h1, h2, h3, h4⟩ := hv
  have K := Blk.new w 28 [.int .i64 m.wd, .int .i64 m.ht, .slice A n cp, .slice B k d]
  have G : Below w.heap.size w (w.alloc (.cells #[.int .i64 m.wd, .int .i64 m.ht, .slice A n cp, .slice B k d] 28)) := (by repeat (first | exact Below.refl _ _ | refine below_drewN ?_ _ | refine Below.drew ?_ | refine Below.alloc ?_ (by first | omega | (simp; done) | (simp; omega)) _ | refine Below.setCell ?_ (by first | omega | (simp; done) | (simp; omega)) _))
  cases ha : asked m a a
  · have e1 : fcOk m a = false := ha
    have e2 : fcV1 m a = 0 := by unfold fcV1; rw [ha]; rfl
    have e3 : fcV2 m a = 0 := by unfold fcV2; rw [ha]; rfl
    rw [e1, e2, e3]; clear e1 e2 e3
    have HA := Lib.hid ha
    clear ha
    go_enter Try.func47, Try.ntmps47
    go_wp2_with fail
    refine (l4Asked_any (m := m) (hv'.on G) ).mono ?_
    rintro e w1 ⟨rfl, hb⟩
    replace K := K.on hb
    replace G := G.trans (hb.mono G.size)
    clear hb
    rw [HA.out]
    obtain ⟨k0, k1, k2, k3⟩ := blk4 K
    go_wp2_with fail
    go_ret3
    exact ⟨rfl, G⟩
  · obtain ⟨V, ⟨x, rfl, hx, ox⟩, _⟩ := asked_cases ha
    have e1 : fcOk m x = true := ha
    have e2 : fcV1 m x = (fcP m x m.co.length).1 := by unfold fcV1; rw [ha, if_pos rfl]; simp
    have e3 : fcV2 m x = (fcP m x m.co.length).2 := by unfold fcV2; rw [ha, if_pos rfl]; simp
    rw [e1, e2, e3]; clear e1 e2 e3
    have HA := Lib.hid ha
    have hkl := h2.len
    have hk36 : k ≤ 36 := by have := V.n36; omega
    obtain ⟨y, oy, rfl, hyb, hyc⟩ := h2.int (show 0 < k by have := V.n36; omega)
    have HL := Lib.hid hkl
    rw [hkl]
    clear ha hkl
    go_enter Try.func47, Try.ntmps47
    go_wp2_with fail
    refine (l4Asked_any (m := m) (hv'.on G) ).mono ?_
    rintro e w1 ⟨rfl, hb⟩
    replace K := K.on hb
    replace G := G.trans (hb.mono G.size)
    clear hb
    rw [HA.out]
    obtain ⟨k0, k1, k2, k3⟩ := blk4 K
    go_wp2_with fail
    clear k0 k1 k2 k3
    go_loopw [7, 8, 9] (fun p q i wr => ∃ j : Nat, j ≤ k ∧ i = .int .i64 j ∧ p = .int .i64 (fcP m x j).1 ∧ q = .int .i64 (fcP m x j).2 ∧ Blk wr w.heap.size 28 [.int .i64 m.wd, .int .i64 m.ht, .slice A n cp, .slice (some ⟨y, oy, none⟩) k d] ∧ Below w.heap.size w wr) (fun _ _ i _ => k - (intOf i).toNat)
    case atStart => exact ⟨0, Nat.zero_le _, rfl, rfl, rfl, K, G⟩
    clear K G
    case round =>
      obtain ⟨j, hj, rfl, rfl, rfl, K, G⟩ := hrel
      obtain ⟨k0, k1, k2, k3⟩ := blk4 K
      by_cases hlt : j < k
      · have kc : j < m.co.length := by rw [HL.out]; exact hlt
        have c2 := ((bcell G).1 y (oy + j) hyb).trans (hyc j kc)
        rw [← coA_nat] at c2
        have b1 := fcP_bd V hx j (by omega)
        have b2 := finV_hi V kc hx
        have b3 := finV_lo V kc hx
        have cb := V.co_bd j
        have S1 : 0 < coA m j → (fcP m x j).2 < finV m j x → Hid (fcP m x (j + 1) = ((j : Int), finV m j x)) := fun h h2 => by show _ = _; rw [fcP, if_pos ⟨h, h2⟩]
        have S2 : ¬ (0 < coA m j ∧ (fcP m x j).2 < finV m j x) → Hid (fcP m x (j + 1) = fcP m x j) := fun h => by show _ = _; rw [fcP, if_neg h]
        generalize hfv : finV m j x = fx at *
        generalize hbp : (fcP m x j).1 = bp at *
        generalize hbq : (fcP m x j).2 = bq at *
        have HFV := Lib.hid hfv
        have HBP := Lib.hid hbp
        have HBQ := Lib.hid hbq
        clear hfv hbp hbq
        by_cases hz : coA m j = 0
        · have HS := S2 (fun h => by omega)
          have hz0 : (coA m j == 0) = true := by simp [hz]
          clear S1 S2 hz
          generalize coA m j = cj at *
          go_wp2_with fail
          go_roundw
          case rel => exact ⟨j + 1, by omega, by go_num, by rw [HS.out, HBP.out], by rw [HS.out, HBQ.out], K, G⟩
          case measure => simp [intOf]; omega
        · have hz0 : (coA m j == 0) = false := by simp [hz]
          have hpos : 0 < coA m j := by omega
          clear hz
          generalize coA m j = cj at *
          have X1 := Lib.hid (show x < (fin m j).length by rw [(fin_inv V kc).len]; exact hx)
          go_wp2_with fail
          refine (l4To_any (m := m) (hv'.on G) V kc).mono ?_
          rintro e w1 ⟨q1, p1, ex1, rfl, O1, hq1, hb⟩
          clear k0 k1 k2 k3 c2
          replace K := K.on hb
          replace G := G.trans (hb.mono G.size)
          clear hb
          obtain ⟨k0, k1, k2, k3⟩ := blk4 K
          have d1 := (O1.cell x).trans (ints_app_get X1.out)
          rw [show at_ (fin m j) x = fx from HFV.out] at d1
          by_cases hgt : bq < fx
          · have HS := S1 hpos hgt
            clear S1 S2
            go_wp2_with fail
            go_roundw
            case rel => exact ⟨j + 1, by omega, by go_num, by rw [HS.out], by rw [HS.out], K, G⟩
            case measure => simp [intOf]; omega
          · have HS := S2 (fun h => hgt h.2)
            have t2 : decide (bq < fx) = false := by simpa using hgt
            clear S1 S2
            go_wp2_with fail
            go_roundw
            case rel => exact ⟨j + 1, by omega, by go_num, by rw [HS.out, HBP.out], by rw [HS.out, HBQ.out], K, G⟩
            case measure => simp [intOf]; omega
      · have hjk : j = k := by omega
        have HJ := Lib.hid hjk
        clear hjk
        go_wp2_with fail
        go_ret3
        exact ⟨by rw [← HJ.out]; rfl, G⟩
end Go.Proofs.Ytijmlagehdmfeaa
