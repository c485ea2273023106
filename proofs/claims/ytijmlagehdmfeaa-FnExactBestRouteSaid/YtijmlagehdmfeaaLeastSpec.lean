/- Contracts: LeastTime, the reference's. -/
import Derived.Test.YtijmlagehdmfeaaLeastTime
namespace Go.Proofs.Ytijmlagehdmfeaa
set_option linter.unusedVariables false
set_option linter.unusedSimpArgs false
open Go.RowKit
set_option maxHeartbeats 400000 in
theorem l4Asked_any {m : Mp} {v : Value} {a b : Int} {w : World} (hv : MapIn w m v) :
    Calls Try.prog 81 #[v, .int .i64 a, .int .i64 b] w fun e w' => e = .returned (.bool (asked m a b)) ∧ Below w.heap.size w w' := by
  have hv' := hv
  obtain ⟨A, n, cp, B, k, d, rfl, h1, h2, h3, h4⟩ := hv
  have K := Blk.new w 28 [.int .i64 m.wd, .int .i64 m.ht, .slice A n cp, .slice B k d]
  have G : Below w.heap.size w (w.alloc (.cells #[.int .i64 m.wd, .int .i64 m.ht, .slice A n cp, .slice B k d] 28)) := (by repeat (first | exact Below.refl _ _ | refine below_drewN ?_ _ | refine Below.drew ?_ | refine Below.alloc ?_ (by first | omega | (simp; done) | (simp; omega)) _ | refine Below.setCell ?_ (by first | omega | (simp; done) | (simp; omega)) _))
  cases hok : okM m
  · have e1 : asked m a b = false := by unfold asked; rw [hok]; rfl
    rw [e1]; clear e1
    have HOK := Lib.hid hok
    clear hok
    go_enter Try.func81, Try.ntmps81
    go_wp2_with fail
    refine (l2Map_m (m := m) (hv'.on G)).mono ?_
    rintro e w1 ⟨rfl, hb1⟩
    rw [HOK.out]
    go_wp2_with fail
    go_ret
    exact ⟨rfl, G.trans (hb1.mono G.size)⟩
  · have V := valid_iff.1 hok
    have HOK := Lib.hid hok
    cases ha : opM m a
    · have e1 : asked m a b = false := by unfold asked; rw [ha]; simp
      rw [e1]; clear e1
      have HA := Lib.hid ha
      clear hok ha
      go_enter Try.func81, Try.ntmps81
      go_wp2_with fail
      refine (l2Map_m (m := m) (hv'.on G)).mono ?_
      rintro e w1 ⟨rfl, hb1⟩
      rw [HOK.out]
      have K1 := K.on hb1
      have G1 := G.trans (hb1.mono G.size)
      obtain ⟨k0, k1, k2, k3⟩ := blk4 K1
      go_wp2_with fail
      refine (l2Open_any (m := m) (hv'.on G1) V).mono ?_
      rintro e w2 ⟨rfl, hb2⟩
      rw [HA.out]
      go_wp2_with fail
      go_ret
      exact ⟨rfl, G1.trans (hb2.mono G1.size)⟩
    · have e1 : asked m a b = opM m b := by unfold asked; rw [ha, hok]; simp
      rw [e1]; clear e1
      have HA := Lib.hid ha
      clear hok ha
      go_enter Try.func81, Try.ntmps81
      go_wp2_with fail
      refine (l2Map_m (m := m) (hv'.on G)).mono ?_
      rintro e w1 ⟨rfl, hb1⟩
      rw [HOK.out]
      have K1 := K.on hb1
      have G1 := G.trans (hb1.mono G.size)
      obtain ⟨k0, k1, k2, k3⟩ := blk4 K1
      go_wp2_with fail
      refine (l2Open_any (m := m) (hv'.on G1) V).mono ?_
      rintro e w2 ⟨rfl, hb2⟩
      rw [HA.out]
      clear k0 k1 k2 k3
      have K2 := K1.on hb2
      have G2 := G1.trans (hb2.mono G1.size)
      obtain ⟨k0, k1, k2, k3⟩ := blk4 K2
      go_wp2_with fail
      refine (l2Open_any (m := m) (hv'.on G2) V).mono ?_
      rintro e w3 ⟨rfl, hb3⟩
      go_wp2_with fail
      go_ret
      exact ⟨ret_bool (by simp), G2.trans (hb3.mono G2.size)⟩
set_option maxRecDepth 100000 in
set_option maxHeartbeats 400000 in
theorem LeastTime_spec {m : Mp} {v : Value} {a b : Int} {w : World} (hv : MapIn w m v) :
    Calls Try.prog 43 #[v, .int .i64 a, .int .i64 b] w fun e w' => e = .returned (.tuple #[.int .i64 (ltV m a b), .bool (ltOk m a b)]) ∧ Below w.heap.size w w' := by
  have hv' := hv
  obtain ⟨A, n, cp, B, k, d, rfl, h1, h2, h3, h4⟩ := hv
  have K := Blk.new w 28 [.int .i64 m.wd, .int .i64 m.ht, .slice A n cp, .slice B k d]
  have G : Below w.heap.size w (w.alloc (.cells #[.int .i64 m.wd, .int .i64 m.ht, .slice A n cp, .slice B k d] 28)) := (by repeat (first | exact Below.refl _ _ | refine below_drewN ?_ _ | refine Below.drew ?_ | refine Below.alloc ?_ (by first | omega | (simp; done) | (simp; omega)) _ | refine Below.setCell ?_ (by first | omega | (simp; done) | (simp; omega)) _))
  cases ha : asked m a b
  · have e1 : ltOk m a b = false := by unfold ltOk; rw [ha]; rfl
    have e2 : ltV m a b = 0 := by unfold ltV; rw [e1]; rfl
    rw [e1, e2]; clear e1 e2
    have HA := Lib.hid ha
    clear ha
    go_enter Try.func43, Try.ntmps43
    go_wp2_with fail
    refine (l4Asked_any (m := m) (hv'.on G)).mono ?_
    rintro e w1 ⟨rfl, hb1⟩
    rw [HA.out]
    go_wp2_with fail
    go_ret2
    exact ⟨rfl, G.trans (hb1.mono G.size)⟩
  · obtain ⟨V, ⟨x, rfl, hx, ox⟩, ⟨y, rfl, hy, oy⟩⟩ := asked_cases ha
    have HA := Lib.hid ha
    have HF : Hid (fv m y x = finV m y x) := by show _ = _; simp [fv]
    have hxl : x < (fin m y).length := by rw [(fin_inv V hy).len]; exact hx
    have HXL := Lib.hid hxl
    cases hz : decide (finV m y x < 0)
    · have e1 : ltOk m x y = true := by unfold ltOk; rw [ha, HF.out]; simpa using hz
      have e2 : ltV m x y = finV m y x := by unfold ltV; rw [e1, if_pos rfl, HF.out]
      have e3 : decide (at_ (fin m y) x < 0) = false := hz
      rw [e1, e2]; clear e1 e2 ha hz hxl
      go_enter Try.func43, Try.ntmps43
      go_wp2_with fail
      refine (l4Asked_any (m := m) (hv'.on G)).mono ?_
      rintro e w1 ⟨rfl, hb1⟩
      rw [HA.out]
      have K1 := K.on hb1
      have G1 := G.trans (hb1.mono G.size)
      obtain ⟨k0, k1, k2, k3⟩ := blk4 K1
      go_wp2_with fail
      refine (l4To_any (m := m) (hv'.on G1) V hy).mono ?_
      rintro e w2 ⟨g, cq, ex, rfl, O, hg, hb2⟩
      clear k0 k1 k2 k3
      have K2 := K1.on hb2
      have G2 := G1.trans (hb2.mono G1.size)
      obtain ⟨k0, k1, k2, k3⟩ := blk4 K2
      have c1 := (O.cell x).trans (ints_app_get HXL.out)
      go_wp2_with fail
      refine (l4To_any (m := m) (hv'.on G2) V hy).mono ?_
      rintro e w3 ⟨g3, cq3, ex3, rfl, O3, hg3, hb3⟩
      have c3 := (O3.cell x).trans (ints_app_get HXL.out)
      go_wp2_with fail
      go_ret2
      exact ⟨rfl, G2.trans (hb3.mono G2.size)⟩
    · have e1 : ltOk m x y = false := by unfold ltOk; rw [ha, HF.out]; simpa using hz
      have e2 : ltV m x y = 0 := by unfold ltV; rw [e1]; rfl
      have e3 : at_ (fin m y) x < 0 := of_decide_eq_true hz
      rw [e1, e2]; clear e1 e2 ha hz hxl
      go_enter Try.func43, Try.ntmps43
      go_wp2_with fail
      refine (l4Asked_any (m := m) (hv'.on G)).mono ?_
      rintro e w1 ⟨rfl, hb1⟩
      rw [HA.out]
      have K1 := K.on hb1
      have G1 := G.trans (hb1.mono G.size)
      obtain ⟨k0, k1, k2, k3⟩ := blk4 K1
      go_wp2_with fail
      refine (l4To_any (m := m) (hv'.on G1) V hy).mono ?_
      rintro e w2 ⟨g, cq, ex, rfl, O, hg, hb2⟩
      have c1 := (O.cell x).trans (ints_app_get HXL.out)
      go_wp2_with fail
      go_ret2
      exact ⟨rfl, G1.trans (hb2.mono G1.size)⟩
end Go.Proofs.Ytijmlagehdmfeaa
