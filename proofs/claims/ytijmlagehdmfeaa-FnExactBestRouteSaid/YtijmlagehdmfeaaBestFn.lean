/- Contracts: BestRoute, the program's and the reference's. -/
import Derived.Test.YtijmlagehdmfeaaBest
namespace Go.Proofs.Ytijmlagehdmfeaa
set_option linter.unusedVariables false
set_option linter.unusedSimpArgs false
open Go.RowKit
set_option maxRecDepth 100000 in
set_option maxHeartbeats 400000 in
theorem BestRoute_impl {m : Mp} {v : Value} {a b : Int} {w : World} (hv : MapIn w m v) :
    Calls Try.prog 54 #[v, .int .i64 a, .int .i64 b] w fun e w' => ∃ A cp, e = .returned (.tuple #[.slice A (brR m a b).length cp, .bool (ltOk m a b)]) ∧ w'.ownsRow w.heap.size 3 1 (.slice A (brR m a b).length cp) (brR m a b).length (ints (brR m a b)) ∧ Below w.heap.size w w' := by
  have hv' := hv
  obtain ⟨A, n, cp, B, k, d, rfl, h1, h2, h3, h4⟩ := hv
  have K := (Blk.new w 28 [.int .i64 m.wd, .int .i64 m.ht, .slice A n cp, .slice B k d]).alloc (.cells #[.int .i64 a, .int .i64 b] 3)
  have G : Below w.heap.size w ((w.alloc (.cells #[.int .i64 m.wd, .int .i64 m.ht, .slice A n cp, .slice B k d] 28)).alloc (.cells #[.int .i64 a, .int .i64 b] 3)) := (by repeat (first | exact Below.refl _ _ | refine below_drewN ?_ _ | refine Below.drew ?_ | refine Below.alloc ?_ (by first | omega | (simp; done) | (simp; omega)) _ | refine Below.setCell ?_ (by first | omega | (simp; done) | (simp; omega)) _))
  have hsz : (w.alloc (.cells #[.int .i64 m.wd, .int .i64 m.ht, .slice A n cp, .slice B k d] 28)).heap.size = w.heap.size + 1 := by simp
  have L0 := (Blk.new (w.alloc (.cells #[.int .i64 m.wd, .int .i64 m.ht, .slice A n cp, .slice B k d] 28)) 3 (ints [a, b])).rd (size := 1) (n := 2) rfl
  have L : Rd ((w.alloc (.cells #[.int .i64 m.wd, .int .i64 m.ht, .slice A n cp, .slice B k d] 28)).alloc (.cells #[.int .i64 a, .int .i64 b] 3)) ((w.alloc (.cells #[.int .i64 m.wd, .int .i64 m.ht, .slice A n cp, .slice B k d] 28)).alloc (.cells #[.int .i64 a, .int .i64 b] 3)).heap.size 1 (some ⟨w.heap.size + 1, 0, none⟩) 2 (ints [a, b]) := by rw [← hsz]; exact L0
  clear L0 hsz
  cases ha : asked m a b
  · have e1 : ltOk m a b = false := by unfold ltOk; rw [ha]; rfl
    have e2 : brR m a b = [] := by unfold brR; rw [e1]; rfl
    rw [e1, e2]; clear e1 e2
    have HA := Lib.hid ha
    clear ha
    go_enter Try.func54, Try.ntmps54
    go_wp2_with fail
    refine (canRoute_2 (m := m) (hv'.on G) L).mono ?_
    rintro e w1 ⟨rfl, hb⟩
    replace K := K.on hb
    replace G := G.trans (hb.mono G.size)
    clear hb
    rw [HA.out]
    obtain ⟨k0, k1, k2, k3⟩ := blk4 K
    go_wp2_with fail
    go_ret2
    exact ⟨none, 0, rfl, World.ownsRow_nil _ _ _ _, G⟩
  · obtain ⟨V, ⟨x, rfl, hx, ox⟩, ⟨y, rfl, hy, oy⟩⟩ := asked_cases ha
    have HA := Lib.hid ha
    have hhi := finV_hi V hy hx
    have HF : Hid (fv m y x = finV m y x) := by show _ = _; simp [fv]
    have X1 := Lib.hid (show x < (fin m y).length by rw [(fin_inv V hy).len]; exact hx)
    cases hz : decide (finV m y x < 0)
    · have e1 : ltOk m x y = true := by unfold ltOk; rw [ha, HF.out]; simpa using hz
      have e2 : brR m x y = cast (brF m y 1440 x) := by unfold brR; rw [e1, if_pos rfl]; simp
      have h0 : 0 ≤ finV m y x := by have := of_decide_eq_false hz; omega
      have hop : 0 < coA m x := coA_open ox
      have e3 : (enc (finV m y x) == 1073741824) = false := by rw [enc_eq hhi, hz]
      rw [e1, e2]; clear e1 e2 ha hz
      go_enter Try.func54, Try.ntmps54
      go_wp2_with fail
      refine (canRoute_2 (m := m) (hv'.on G) L).mono ?_
      rintro e w1 ⟨rfl, hb⟩
      replace K := K.on hb
      replace G := G.trans (hb.mono G.size)
      clear hb
      rw [HA.out]
      obtain ⟨k0, k1, k2, k3⟩ := blk4 K
      go_wp2_with fail
      refine (leastTime_any (m := m) (hv'.on G) V hx hy).mono ?_
      rintro e w2 ⟨rfl, hb⟩
      clear k0 k1 k2 k3
      replace K := K.on hb
      replace G := G.trans (hb.mono G.size)
      clear hb
      obtain ⟨k0, k1, k2, k3⟩ := blk4 K
      go_wp2_with fail
      refine (bestRoute_any (m := m) (hv'.on G) V hx hy hop h0).mono ?_
      rintro e w9 ⟨A', c', rfl, O, hb⟩
      go_wp2_with fail
      go_ret2
      rw [cast_len]
      exact ⟨A', c', rfl, own_le O G.size, G.trans (hb.mono G.size)⟩
    · have e1 : ltOk m x y = false := by unfold ltOk; rw [ha, HF.out]; simpa using hz
      have e2 : brR m x y = [] := by unfold brR; rw [e1]; rfl
      rw [e1, e2]; clear e1 e2
      have e3 : (enc (finV m y x) == 1073741824) = true := by rw [enc_eq hhi, hz]
      clear ha hz
      go_enter Try.func54, Try.ntmps54
      go_wp2_with fail
      refine (canRoute_2 (m := m) (hv'.on G) L).mono ?_
      rintro e w1 ⟨rfl, hb⟩
      replace K := K.on hb
      replace G := G.trans (hb.mono G.size)
      clear hb
      rw [HA.out]
      obtain ⟨k0, k1, k2, k3⟩ := blk4 K
      go_wp2_with fail
      refine (leastTime_any (m := m) (hv'.on G) V hx hy).mono ?_
      rintro e w2 ⟨rfl, hb⟩
      clear k0 k1 k2 k3
      replace K := K.on hb
      replace G := G.trans (hb.mono G.size)
      clear hb
      obtain ⟨k0, k1, k2, k3⟩ := blk4 K
      go_wp2_with fail
      go_ret2
      exact ⟨none, 0, rfl, World.ownsRow_nil _ _ _ _, G⟩
set_option maxRecDepth 100000 in
set_option maxHeartbeats 400000 in
theorem BestRoute_spec {m : Mp} {v : Value} {a b : Int} {w : World} (hv : MapIn w m v) :
    Calls Try.prog 53 #[v, .int .i64 a, .int .i64 b] w fun e w' => ∃ A cp, e = .returned (.tuple #[.slice A (brR m a b).length cp, .bool (ltOk m a b)]) ∧ w'.ownsRow w.heap.size 3 1 (.slice A (brR m a b).length cp) (brR m a b).length (ints (brR m a b)) ∧ Below w.heap.size w w' := by
  have hv' := hv
  obtain ⟨A, n, cp, B, k, d, rfl, h1, h2, h3, h4⟩ := hv
  have K := Blk.new w 28 [.int .i64 m.wd, .int .i64 m.ht, .slice A n cp, .slice B k d]
  have G : Below w.heap.size w (w.alloc (.cells #[.int .i64 m.wd, .int .i64 m.ht, .slice A n cp, .slice B k d] 28)) := (by repeat (first | exact Below.refl _ _ | refine below_drewN ?_ _ | refine Below.drew ?_ | refine Below.alloc ?_ (by first | omega | (simp; done) | (simp; omega)) _ | refine Below.setCell ?_ (by first | omega | (simp; done) | (simp; omega)) _))
  cases ha : asked m a b
  · have e1 : ltOk m a b = false := by unfold ltOk; rw [ha]; rfl
    have e2 : brR m a b = [] := by unfold brR; rw [e1]; rfl
    rw [e1, e2]; clear e1 e2
    have HA := Lib.hid ha
    clear ha
    go_enter Try.func53, Try.ntmps53
    go_wp2_with fail
    refine (l4Asked_any (m := m) (hv'.on G) ).mono ?_
    rintro e w1 ⟨rfl, hb⟩
    replace K := K.on hb
    replace G := G.trans (hb.mono G.size)
    clear hb
    rw [HA.out]
    obtain ⟨k0, k1, k2, k3⟩ := blk4 K
    go_wp2_with fail
    go_ret2
    exact ⟨_, 0, rfl, World.ownsRow_lit _ #[] 0 G.size (by simp) rfl, G.alloc G.size _⟩
  · obtain ⟨V, ⟨x, rfl, hx, ox⟩, ⟨y, rfl, hy, oy⟩⟩ := asked_cases ha
    have HA := Lib.hid ha
    have hhi := finV_hi V hy hx
    have HF : Hid (fv m y x = finV m y x) := by show _ = _; simp [fv]
    have X1 := Lib.hid (show x < (fin m y).length by rw [(fin_inv V hy).len]; exact hx)
    cases hz : decide (finV m y x < 0)
    · have e1 : ltOk m x y = true := by unfold ltOk; rw [ha, HF.out]; simpa using hz
      have e2 : brR m x y = cast (brF m y 1440 x) := by unfold brR; rw [e1, if_pos rfl]; simp
      have h0 : 0 ≤ finV m y x := by have := of_decide_eq_false hz; omega
      have hop : 0 < coA m x := coA_open ox
      have e3 : decide (at_ (fin m y) x < 0) = false := hz
      rw [e1, e2]; clear e1 e2 ha hz
      go_enter Try.func53, Try.ntmps53
      go_wp2_with fail
      refine (l4Asked_any (m := m) (hv'.on G) ).mono ?_
      rintro e w1 ⟨rfl, hb⟩
      replace K := K.on hb
      replace G := G.trans (hb.mono G.size)
      clear hb
      rw [HA.out]
      obtain ⟨k0, k1, k2, k3⟩ := blk4 K
      go_wp2_with fail
      refine (l4To_any (m := m) (hv'.on G) V hy).mono ?_
      rintro e w2 ⟨q1, p1, ex1, rfl, O1, hq1, hb⟩
      clear k0 k1 k2 k3
      replace K := K.on hb
      replace G := G.trans (hb.mono G.size)
      clear hb
      obtain ⟨k0, k1, k2, k3⟩ := blk4 K
      have d1 := (O1.cell x).trans (ints_app_get X1.out)
      go_wp2_with fail
      refine (l4Best_any (m := m) (hv'.on G) V hx hy hop h0).mono ?_
      rintro e w9 ⟨A', c', rfl, O, hb⟩
      go_wp2_with fail
      go_ret2
      rw [cast_len]
      exact ⟨A', c', rfl, own_le O G.size, G.trans (hb.mono G.size)⟩
    · have e1 : ltOk m x y = false := by unfold ltOk; rw [ha, HF.out]; simpa using hz
      have e2 : brR m x y = [] := by unfold brR; rw [e1]; rfl
      rw [e1, e2]; clear e1 e2
      have e3 : decide (at_ (fin m y) x < 0) = true := hz
      have e4 : at_ (fin m y) x < 0 := of_decide_eq_true hz
      clear ha hz
      go_enter Try.func53, Try.ntmps53
      go_wp2_with fail
      refine (l4Asked_any (m := m) (hv'.on G) ).mono ?_
      rintro e w1 ⟨rfl, hb⟩
      replace K := K.on hb
      replace G := G.trans (hb.mono G.size)
      clear hb
      rw [HA.out]
      obtain ⟨k0, k1, k2, k3⟩ := blk4 K
      go_wp2_with fail
      refine (l4To_any (m := m) (hv'.on G) V hy).mono ?_
      rintro e w2 ⟨q1, p1, ex1, rfl, O1, hq1, hb⟩
      clear k0 k1 k2 k3
      replace K := K.on hb
      replace G := G.trans (hb.mono G.size)
      clear hb
      obtain ⟨k0, k1, k2, k3⟩ := blk4 K
      have d1 := (O1.cell x).trans (ints_app_get X1.out)
      go_wp2_with fail
      go_ret2
      exact ⟨_, 0, rfl, World.ownsRow_lit _ #[] 0 G.size (by simp) rfl, G.alloc G.size _⟩
end Go.Proofs.Ytijmlagehdmfeaa
