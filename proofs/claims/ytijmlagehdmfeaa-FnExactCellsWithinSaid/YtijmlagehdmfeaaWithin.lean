/- Contracts: CellsWithin, the program's and the reference's. -/
import Derived.Test.YtijmlagehdmfeaaFarPlain
namespace Go.Proofs.Ytijmlagehdmfeaa
set_option linter.unusedVariables false
set_option linter.unusedSimpArgs false
open Go.RowKit
set_option maxRecDepth 100000 in
set_option maxHeartbeats 2000000 in
theorem CellsWithin_impl {m : Mp} {v : Value} {a t : Int} {w : World} (hv : MapIn w m v) :
    Calls Try.prog 52 #[v, .int .i64 a, .int .i64 t] w fun e w' => ∃ A cp, e = .returned (.tuple #[.slice A (cwR m a t).length cp, .bool (cwOk m a t)]) ∧ w'.ownsRow w.heap.size 3 1 (.slice A (cwR m a t).length cp) (cwR m a t).length (ints (cwR m a t)) ∧ Below w.heap.size w w' := by
  have hv' := hv
  obtain ⟨A, n, cp, B, k, d, rfl, h1, h2, h3, h4⟩ := hv
  have K := (Blk.new w 28 [.int .i64 m.wd, .int .i64 m.ht, .slice A n cp, .slice B k d]).alloc (.cells #[.int .i64 a] 3)
  have G : Below w.heap.size w ((w.alloc (.cells #[.int .i64 m.wd, .int .i64 m.ht, .slice A n cp, .slice B k d] 28)).alloc (.cells #[.int .i64 a] 3)) := (by repeat (first | exact Below.refl _ _ | refine below_drewN ?_ _ | refine Below.drew ?_ | refine Below.alloc ?_ (by first | omega | (simp; done) | (simp; omega)) _ | refine Below.setCell ?_ (by first | omega | (simp; done) | (simp; omega)) _))
  have hsz : (w.alloc (.cells #[.int .i64 m.wd, .int .i64 m.ht, .slice A n cp, .slice B k d] 28)).heap.size = w.heap.size + 1 := by simp
  have L0 := (Blk.new (w.alloc (.cells #[.int .i64 m.wd, .int .i64 m.ht, .slice A n cp, .slice B k d] 28)) 3 (ints [a])).rd (size := 1) (n := 1) rfl
  have L : Rd ((w.alloc (.cells #[.int .i64 m.wd, .int .i64 m.ht, .slice A n cp, .slice B k d] 28)).alloc (.cells #[.int .i64 a] 3)) ((w.alloc (.cells #[.int .i64 m.wd, .int .i64 m.ht, .slice A n cp, .slice B k d] 28)).alloc (.cells #[.int .i64 a] 3)).heap.size 1 (some ⟨w.heap.size + 1, 0, none⟩) 1 (ints [a]) := by rw [← hsz]; exact L0
  clear L0 hsz
  cases ha : asked m a a
  · have e1 : cwOk m a t = false := by unfold cwOk; rw [ha]; rfl
    have e2 : cwR m a t = [] := by unfold cwR; rw [e1]; rfl
    rw [e1, e2]; clear e1 e2
    have HA := Lib.hid ha
    clear ha
    go_enter Try.func52, Try.ntmps52
    go_wp2_with fail
    refine (canRoute_1 (m := m) (hv'.on G) L).mono ?_
    rintro e w1 ⟨rfl, hb⟩
    replace K := K.on hb
    replace G := G.trans (hb.mono G.size)
    clear hb
    rw [HA.out]
    obtain ⟨k0, k1, k2, k3⟩ := blk4 K
    go_wp2_with fail
    go_ret2
    exact ⟨none, 0, rfl, World.ownsRow_nil _ _ _ _, G⟩
  · cases ht : decide (t < 0)
    · have t0 : 0 ≤ t := by have := of_decide_eq_false ht; omega
      obtain ⟨V, ⟨x, rfl, hx, ox⟩, _⟩ := asked_cases ha
      have e1 : cwOk m x t = true := by unfold cwOk; rw [ha]; simp; exact t0
      have e2 : cwR m x t = cast (cwL m x t m.co.length) := by unfold cwR; rw [e1, if_pos rfl]; simp
      rw [e1, e2]; clear e1 e2
      have HA := Lib.hid ha
      have hkl := h2.len
      have hk36 : k ≤ 36 := by have := V.n36; omega
      obtain ⟨y, oy, rfl, hyb, hyc⟩ := h2.int (show 0 < k by have := V.n36; omega)
      have HL := Lib.hid hkl
      obtain ⟨i0, hi0, hz0, hz1, hz2⟩ := info_parts int_info
      rw [hkl]
      clear ha hkl
      go_enter Try.func52, Try.ntmps52
      go_wp2_with fail
      refine (canRoute_1 (m := m) (hv'.on G) L).mono ?_
      rintro e w1 ⟨rfl, hb⟩
      replace K := K.on hb
      replace G := G.trans (hb.mono G.size)
      clear hb
      rw [HA.out]
      obtain ⟨k0, k1, k2, k3⟩ := blk4 K
      have ltK := K.lt
      go_wp2_with fail
      clear k0 k1 k2 k3 ltK
      go_loopw [8, 24] (fun o i wr => ∃ j : Nat, j ≤ k ∧ i = .int .i64 j ∧ wr.ownsRow (w.heap.size + 1) 3 1 o (cwL m x t j).length (ints (cast (cwL m x t j))) ∧ Blk wr w.heap.size 28 [.int .i64 m.wd, .int .i64 m.ht, .slice A n cp, .slice (some ⟨y, oy, none⟩) k d] ∧ Below w.heap.size w wr) (fun _ i _ => k - (intOf i).toNat)
      case atStart =>
        refine ⟨0, Nat.zero_le _, rfl, ?_, K.alloc _, G.alloc G.size _⟩
        have := World.ownsRow_lit (base := w.heap.size + 1) (size := 1) (e := 3) w1 #[] 0 (by have := K.lt; omega) (by simp) rfl
        simpa [ints, cast, cwL] using this
      clear K G
      case round =>
        obtain ⟨j, hj, rfl, hown, K, G⟩ := hrel
        obtain ⟨k0, k1, k2, k3⟩ := blk4 K
        have hlj := cwL_len m x t j
        by_cases hlt : j < k
        · have kc : j < m.co.length := by rw [HL.out]; exact hlt
          have c2 := ((bcell G).1 y (oy + j) hyb).trans (hyc j kc)
          rw [← coA_nat] at c2
          have b2 := finV_hi V kc hx
          have b3 := finV_lo V kc hx
          have cb := V.co_bd j
          have S1 : cwP m x t j = true → Hid (cwL m x t (j + 1) = cwL m x t j ++ [j]) := fun h => by show _ = _; rw [cwL_succ, if_pos h]
          have S2 : cwP m x t j = false → Hid (cwL m x t (j + 1) = cwL m x t j) := fun h => by show _ = _; rw [cwL_succ, h]; simp
          have SP : cwP m x t j = (decide (0 < coA m j) && (decide (0 ≤ finV m j x) && decide (finV m j x ≤ t))) := rfl
          rw [SP] at S1 S2; clear SP
          generalize hfv : finV m j x = fx at *
          have HFV := Lib.hid hfv
          clear hfv
          generalize coA m j = cj at *
          by_cases hpos : 0 < cj
          · go_wp2_with fail
            refine (leastTime_any (m := m) (hv'.on G) V hx kc).mono ?_
            rintro e w1 ⟨rfl, hb⟩
            clear k0 k1 k2 k3 c2
            replace K := K.on hb
            have hown1 := own_below hown hb
            have Gx := G.trans (hb.mono G.size)
            clear hb G hown
            rw [HFV.out]
            by_cases hmn : 1073741823 < t
            · by_cases hin : 0 ≤ fx ∧ fx ≤ t
              · have HS := S1 (by simp [hpos, hin.1, hin.2])
                have ee : enc fx = fx := by unfold enc; rw [if_neg (by omega)]
                rw [ee]
                have t3 : fx ≤ 1073741823 := by omega
                clear S1 S2 ee hin
                have hk1 := K.lt
                go_wp2_with (at_builtin; refine wpList_append_own _ rfl _ _ 22 rfl (w.heap.size + 1) 3 i0 (.int .i64 0) 1 8 Try.underlying22 hi0 hz0 hz1 hz2 rfl (by decide) _ _ _ rfl (hown1.alloc _) ⟨w1.heap.size, 0, none⟩ 1 1 [.int .i64 ((j : Int))] rfl rfl ?c1 ?c2 ?c3 ?c4 ?c5 ?_)
                case c1 => exact cell_one_new (w1) _ _
                case c2 => intro u hu; simp at hu; subst hu; rfl
                case c3 => simp only [maxLen]; omega
                case c4 => omega
                case c5 => simp; omega
                intro v9 w9 own1 grow1 _
                have bel1 : Below w.heap.size w w9 := (Below.alloc (Gx) (by have := (Gx).size; omega) _).grown grow1 (by have := (Gx).size; simp; omega) (fun j hj => by have := (hown1.lt j hj).1; omega)
                have e1 : ints (cast (cwL m x t j)) ++ [Value.int .i64 ((j : Int))] = ints (cast (cwL m x t j) ++ [(j : Int)]) := by simp [ints]
                rw [e1] at own1
                clear e1
                rw [cast_snoc] at own1
                have K9 := K.alloc (.cells #[.int .i64 (j : Int)] 3) |>.grown grow1 (by intro h; have := (hown1.lt _ h.symm).1; omega)
                clear hown1 K grow1 Gx
                go_wp2_with fail
                go_roundw
                case rel => exact ⟨j + 1, by omega, by go_num, by rw [HS.out, List.length_append]; exact own1, K9, bel1⟩
                case measure => simp [intOf]; omega
              · have HS := S2 (by simp only [hpos, decide_true, Bool.true_and, Bool.and_eq_false_iff, decide_eq_false_iff_not]; omega)
                have t1 : decide (enc fx ≤ 1073741823) = false := by simp; unfold enc; split <;> omega
                clear S1 S2 hin
                go_wp2_with fail
                go_roundw
                case rel => exact ⟨j + 1, by omega, by go_num, by rw [HS.out]; exact hown1, K, Gx⟩
                case measure => simp [intOf]; omega
            · by_cases hin : 0 ≤ fx ∧ fx ≤ t
              · have HS := S1 (by simp [hpos, hin.1, hin.2])
                have ee : enc fx = fx := by unfold enc; rw [if_neg (by omega)]
                rw [ee]
                have t3 : fx ≤ t := by omega
                clear S1 S2 ee hin
                have hk1 := K.lt
                go_wp2_with (at_builtin; refine wpList_append_own _ rfl _ _ 22 rfl (w.heap.size + 1) 3 i0 (.int .i64 0) 1 8 Try.underlying22 hi0 hz0 hz1 hz2 rfl (by decide) _ _ _ rfl (hown1.alloc _) ⟨w1.heap.size, 0, none⟩ 1 1 [.int .i64 ((j : Int))] rfl rfl ?c1 ?c2 ?c3 ?c4 ?c5 ?_)
                case c1 => exact cell_one_new (w1) _ _
                case c2 => intro u hu; simp at hu; subst hu; rfl
                case c3 => simp only [maxLen]; omega
                case c4 => omega
                case c5 => simp; omega
                intro v9 w9 own1 grow1 _
                have bel1 : Below w.heap.size w w9 := (Below.alloc (Gx) (by have := (Gx).size; omega) _).grown grow1 (by have := (Gx).size; simp; omega) (fun j hj => by have := (hown1.lt j hj).1; omega)
                have e1 : ints (cast (cwL m x t j)) ++ [Value.int .i64 ((j : Int))] = ints (cast (cwL m x t j) ++ [(j : Int)]) := by simp [ints]
                rw [e1] at own1
                clear e1
                rw [cast_snoc] at own1
                have K9 := K.alloc (.cells #[.int .i64 (j : Int)] 3) |>.grown grow1 (by intro h; have := (hown1.lt _ h.symm).1; omega)
                clear hown1 K grow1 Gx
                go_wp2_with fail
                go_roundw
                case rel => exact ⟨j + 1, by omega, by go_num, by rw [HS.out, List.length_append]; exact own1, K9, bel1⟩
                case measure => simp [intOf]; omega
              · have HS := S2 (by simp only [hpos, decide_true, Bool.true_and, Bool.and_eq_false_iff, decide_eq_false_iff_not]; omega)
                have t1 : decide (enc fx ≤ t) = false := by simp; unfold enc; split <;> omega
                clear S1 S2 hin
                go_wp2_with fail
                go_roundw
                case rel => exact ⟨j + 1, by omega, by go_num, by rw [HS.out]; exact hown1, K, Gx⟩
                case measure => simp [intOf]; omega
          · have t9 : decide (0 < cj) = false := by simpa using hpos
            have HS := S2 (by rw [t9]; rfl)
            clear S1 S2 hpos
            go_wp2_with fail
            go_roundw
            case rel => exact ⟨j + 1, by omega, by go_num, by rw [HS.out]; exact hown, K, G⟩
            case measure => simp [intOf]; omega
        · have hjk : j = k := by omega
          have HJ := Lib.hid hjk
          clear hjk
          obtain ⟨A', c', rfl⟩ := own_form hown
          go_wp2_with fail
          go_ret2
          rw [cast_len, ← HJ.out]
          exact ⟨A', c', rfl, own_le hown (by omega), G⟩
    · have e1 : cwOk m a t = false := by have := of_decide_eq_true ht; unfold cwOk; rw [show decide (0 ≤ t) = false by simp; omega]; simp
      have e2 : cwR m a t = [] := by unfold cwR; rw [e1]; rfl
      rw [e1, e2]; clear e1 e2
      have HA := Lib.hid ha
      clear ha
      go_enter Try.func52, Try.ntmps52
      go_wp2_with fail
      refine (canRoute_1 (m := m) (hv'.on G) L).mono ?_
      rintro e w1 ⟨rfl, hb⟩
      replace K := K.on hb
      replace G := G.trans (hb.mono G.size)
      clear hb
      rw [HA.out]
      obtain ⟨k0, k1, k2, k3⟩ := blk4 K
      go_wp2_with fail
      go_ret2
      exact ⟨none, 0, rfl, World.ownsRow_nil _ _ _ _, G⟩
set_option maxRecDepth 100000 in
set_option maxHeartbeats 2000000 in
theorem CellsWithin_spec {m : Mp} {v : Value} {a t : Int} {w : World} (hv : MapIn w m v) :
    Calls Try.prog 51 #[v, .int .i64 a, .int .i64 t] w fun e w' => ∃ A cp, e = .returned (.tuple #[.slice A (cwR m a t).length cp, .bool (cwOk m a t)]) ∧ w'.ownsRow w.heap.size 3 1 (.slice A (cwR m a t).length cp) (cwR m a t).length (ints (cwR m a t)) ∧ Below w.heap.size w w' := by
  have hv' := hv
  obtain ⟨A, n, cp, B, k, d, rfl, h1, h2, h3, h4⟩ := hv
  have K := Blk.new w 28 [.int .i64 m.wd, .int .i64 m.ht, .slice A n cp, .slice B k d]
  have G : Below w.heap.size w (w.alloc (.cells #[.int .i64 m.wd, .int .i64 m.ht, .slice A n cp, .slice B k d] 28)) := (by repeat (first | exact Below.refl _ _ | refine below_drewN ?_ _ | refine Below.drew ?_ | refine Below.alloc ?_ (by first | omega | (simp; done) | (simp; omega)) _ | refine Below.setCell ?_ (by first | omega | (simp; done) | (simp; omega)) _))
  have OW0 := World.ownsRow_lit (base := w.heap.size + 1) (size := 1) (e := 3) (w.alloc (.cells #[.int .i64 m.wd, .int .i64 m.ht, .slice A n cp, .slice B k d] 28)) #[] 0 (by simp) (by simp) rfl
  have OW : ((w.alloc (.cells #[.int .i64 m.wd, .int .i64 m.ht, .slice A n cp, .slice B k d] 28)).alloc (.cells #[] 3)).ownsRow (w.heap.size + 1) 3 1 (.slice (some ⟨w.heap.size + 1, 0, none⟩) 0 0) ([] : List Int).length (ints []) := by simpa [ints] using OW0
  clear OW0
  replace K := K.alloc (.cells #[] 3)
  replace G := G.alloc G.size (.cells #[] 3)
  cases ha : asked m a a
  · have e1 : cwOk m a t = false := by unfold cwOk; rw [ha]; rfl
    have e2 : cwR m a t = [] := by unfold cwR; rw [e1]; rfl
    rw [e1, e2]; clear e1 e2
    have HA := Lib.hid ha
    clear ha
    go_enter Try.func51, Try.ntmps51
    go_wp2_with fail
    refine (l4Asked_any (m := m) (hv'.on G) ).mono ?_
    rintro e w1 ⟨rfl, hb⟩
    rw [HA.out]
    have OW1 := own_below OW hb
    replace G := G.trans (hb.mono G.size)
    go_wp2_with fail
    go_ret2
    exact ⟨_, 0, rfl, own_le (base' := w.heap.size) OW1 (Nat.le_succ _), G⟩
  · cases ht : decide (t < 0)
    · have t0 : 0 ≤ t := by have := of_decide_eq_false ht; omega
      obtain ⟨V, ⟨x, rfl, hx, ox⟩, _⟩ := asked_cases ha
      have e1 : cwOk m x t = true := by unfold cwOk; rw [ha]; simp; exact t0
      have e2 : cwR m x t = cast (cwL m x t m.co.length) := by unfold cwR; rw [e1, if_pos rfl]; simp
      rw [e1, e2]; clear e1 e2
      have HA := Lib.hid ha
      have hkl := h2.len
      have hk36 : k ≤ 36 := by have := V.n36; omega
      obtain ⟨y, oy, rfl, hyb, hyc⟩ := h2.int (show 0 < k by have := V.n36; omega)
      have HL := Lib.hid hkl
      obtain ⟨i0, hi0, hz0, hz1, hz2⟩ := info_parts int_info
      rw [hkl]
      clear ha hkl
      go_enter Try.func51, Try.ntmps51
      go_wp2_with fail
      refine (l4Asked_any (m := m) (hv'.on G) ).mono ?_
      rintro e w1 ⟨rfl, hb⟩
      rw [HA.out]
      have OW9 := own_below OW hb
      clear OW
      replace K := K.on hb
      replace G := G.trans (hb.mono G.size)
      clear hb
      obtain ⟨k0, k1, k2, k3⟩ := blk4 K
      go_wp2_with fail
      clear k0 k1 k2 k3
      go_loopw [8, 9] (fun o i wr => ∃ j : Nat, j ≤ k ∧ i = .int .i64 j ∧ wr.ownsRow (w.heap.size + 1) 3 1 o (cwL m x t j).length (ints (cast (cwL m x t j))) ∧ Blk wr w.heap.size 28 [.int .i64 m.wd, .int .i64 m.ht, .slice A n cp, .slice (some ⟨y, oy, none⟩) k d] ∧ Below w.heap.size w wr) (fun _ i _ => k - (intOf i).toNat)
      case atStart =>
        refine ⟨0, Nat.zero_le _, rfl, ?_, K, G⟩
        have := World.ownsRow_nil w1 (w.heap.size + 1) 3 1
        simpa [ints, cast, cwL] using OW9
      clear K G
      case round =>
        obtain ⟨j, hj, rfl, hown, K, G⟩ := hrel
        obtain ⟨k0, k1, k2, k3⟩ := blk4 K
        have hlj := cwL_len m x t j
        by_cases hlt : j < k
        · have kc : j < m.co.length := by rw [HL.out]; exact hlt
          have c2 := ((bcell G).1 y (oy + j) hyb).trans (hyc j kc)
          rw [← coA_nat] at c2
          have b2 := finV_hi V kc hx
          have b3 := finV_lo V kc hx
          have cb := V.co_bd j
          have S1 : cwP m x t j = true → Hid (cwL m x t (j + 1) = cwL m x t j ++ [j]) := fun h => by show _ = _; rw [cwL_succ, if_pos h]
          have S2 : cwP m x t j = false → Hid (cwL m x t (j + 1) = cwL m x t j) := fun h => by show _ = _; rw [cwL_succ, h]; simp
          have SP : cwP m x t j = (decide (0 < coA m j) && (decide (0 ≤ finV m j x) && decide (finV m j x ≤ t))) := rfl
          rw [SP] at S1 S2; clear SP
          generalize hfv : finV m j x = fx at *
          have HFV := Lib.hid hfv
          clear hfv
          by_cases hz : coA m j = 0
          · have HS := S2 (by simp [hz])
            have hq0 : (coA m j == 0) = true := by simp [hz]
            clear S1 S2 hz
            generalize coA m j = cj at *
            go_wp2_with fail
            go_roundw
            case rel => exact ⟨j + 1, by omega, by go_num, by rw [HS.out]; exact hown, K, G⟩
            case measure => simp [intOf]; omega
          · have hq0 : (coA m j == 0) = false := by simp [hz]
            have hpos : 0 < coA m j := by omega
            clear hz
            generalize coA m j = cj at *
            have X1 := Lib.hid (show x < (fin m j).length by rw [(fin_inv V kc).len]; exact hx)
            go_wp2_with fail
            refine (l4To_any (m := m) (hv'.on G) V kc).mono ?_
            rintro e w1 ⟨q1, p1, ex1, rfl, O1, hq1, hb⟩
            clear k0 k1 k2 k3 c2
            replace K := K.on hb
            have hown1 := own_below hown hb
            have Gx := G.trans (hb.mono G.size)
            clear hb G hown
            obtain ⟨k0, k1, k2, k3⟩ := blk4 K
            have d1 := (O1.cell x).trans (ints_app_get X1.out)
            rw [show at_ (fin m j) x = fx from HFV.out] at d1
            clear O1
            by_cases h0 : 0 ≤ fx
            · by_cases h9 : fx ≤ t
              · have HS := S1 (by simp [hpos, h0, h9])
                clear S1 S2
                have hk1 := K.lt
                go_wp2_with (at_builtin; refine wpList_append_own _ rfl _ _ 22 rfl (w.heap.size + 1) 3 i0 (.int .i64 0) 1 8 Try.underlying22 hi0 hz0 hz1 hz2 rfl (by decide) _ _ _ rfl (hown1.alloc _) ⟨w1.heap.size, 0, none⟩ 1 1 [.int .i64 ((j : Int))] rfl rfl ?c1 ?c2 ?c3 ?c4 ?c5 ?_)
                case c1 => exact cell_one_new (w1) _ _
                case c2 => intro u hu; simp at hu; subst hu; rfl
                case c3 => simp only [maxLen]; omega
                case c4 => omega
                case c5 => simp; omega
                intro v9 w9 own1 grow1 _
                have bel1 : Below w.heap.size w w9 := (Below.alloc (Gx) (by have := (Gx).size; omega) _).grown grow1 (by have := (Gx).size; simp; omega) (fun j hj => by have := (hown1.lt j hj).1; omega)
                have e1 : ints (cast (cwL m x t j)) ++ [Value.int .i64 ((j : Int))] = ints (cast (cwL m x t j) ++ [(j : Int)]) := by simp [ints]
                rw [e1] at own1
                clear e1
                rw [cast_snoc] at own1
                have K9 := K.alloc (.cells #[.int .i64 (j : Int)] 3) |>.grown grow1 (by intro h; have := (hown1.lt _ h.symm).1; omega)
                clear hown1 K grow1 Gx
                go_wp2_with fail
                go_roundw
                case rel => exact ⟨j + 1, by omega, by go_num, by rw [HS.out, List.length_append]; exact own1, K9, bel1⟩
                case measure => simp [intOf]; omega
              · have t9 : decide (fx ≤ t) = false := by simpa using h9
                have HS := S2 (by rw [t9]; simp)
                clear S1 S2 h9
                go_wp2_with fail
                go_roundw
                case rel => exact ⟨j + 1, by omega, by go_num, by rw [HS.out]; exact hown1, K, Gx⟩
                case measure => simp [intOf]; omega
            · have t9 : decide (0 ≤ fx) = false := by simpa using h0
              have HS := S2 (by rw [t9]; simp)
              clear S1 S2 h0
              go_wp2_with fail
              go_roundw
              case rel => exact ⟨j + 1, by omega, by go_num, by rw [HS.out]; exact hown1, K, Gx⟩
              case measure => simp [intOf]; omega
        · have hjk : j = k := by omega
          have HJ := Lib.hid hjk
          clear hjk
          obtain ⟨A', c', rfl⟩ := own_form hown
          go_wp2_with fail
          go_ret2
          rw [cast_len, ← HJ.out]
          exact ⟨A', c', rfl, own_le hown (by omega), G⟩
    · have e1 : cwOk m a t = false := by have := of_decide_eq_true ht; unfold cwOk; rw [show decide (0 ≤ t) = false by simp; omega]; simp
      have e2 : cwR m a t = [] := by unfold cwR; rw [e1]; rfl
      rw [e1, e2]; clear e1 e2
      have HA := Lib.hid ha
      clear ha
      go_enter Try.func51, Try.ntmps51
      go_wp2_with fail
      refine (l4Asked_any (m := m) (hv'.on G) ).mono ?_
      rintro e w1 ⟨rfl, hb⟩
      rw [HA.out]
      have OW1 := own_below OW hb
      replace G := G.trans (hb.mono G.size)
      go_wp2_with fail
      go_ret2
      exact ⟨_, 0, rfl, own_le (base' := w.heap.size) OW1 (Nat.le_succ _), G⟩
end Go.Proofs.Ytijmlagehdmfeaa
