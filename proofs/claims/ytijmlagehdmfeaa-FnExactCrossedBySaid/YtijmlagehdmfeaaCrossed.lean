/- Contracts: CrossedBy, the program's and the reference's. -/
import Derived.Test.YtijmlagehdmfeaaDetour
namespace Go.Proofs.Ytijmlagehdmfeaa
set_option linter.unusedVariables false
set_option linter.unusedSimpArgs false
open Go.RowKit
def cbOk (m : Mp) (a b c : Int) : Bool := asked3 m a c b && decide (0 ≤ fv m b a)
def cbD (m : Mp) (a b c : Int) : Bool := dtOk m a c b && (dtV m a c b == 0)
def cbV (m : Mp) (a b c : Int) : Bool := cbOk m a b c && cbD m a b c
set_option maxRecDepth 100000 in
set_option maxHeartbeats 400000 in
theorem CrossedBy_impl {m : Mp} {v : Value} {a b c : Int} {w : World} (hv : MapIn w m v) :
    Calls Try.prog 50 #[v, .int .i64 a, .int .i64 b, .int .i64 c] w fun e w' => e = .returned (.tuple #[.bool (cbV m a b c), .bool (cbOk m a b c)]) ∧ Below w.heap.size w w' := by
  have hv' := hv
  obtain ⟨A, n, cp, B, k, d, rfl, h1, h2, h3, h4⟩ := hv
  have K := (Blk.new w 28 [.int .i64 m.wd, .int .i64 m.ht, .slice A n cp, .slice B k d]).alloc (.cells #[.int .i64 a, .int .i64 b, .int .i64 c] 3)
  have G : Below w.heap.size w ((w.alloc (.cells #[.int .i64 m.wd, .int .i64 m.ht, .slice A n cp, .slice B k d] 28)).alloc (.cells #[.int .i64 a, .int .i64 b, .int .i64 c] 3)) := (by repeat (first | exact Below.refl _ _ | refine below_drewN ?_ _ | refine Below.drew ?_ | refine Below.alloc ?_ (by first | omega | (simp; done) | (simp; omega)) _ | refine Below.setCell ?_ (by first | omega | (simp; done) | (simp; omega)) _))
  have hsz : (w.alloc (.cells #[.int .i64 m.wd, .int .i64 m.ht, .slice A n cp, .slice B k d] 28)).heap.size = w.heap.size + 1 := by simp
  have L0 := (Blk.new (w.alloc (.cells #[.int .i64 m.wd, .int .i64 m.ht, .slice A n cp, .slice B k d] 28)) 3 (ints [a, b, c])).rd (size := 1) (n := 3) rfl
  have L : Rd ((w.alloc (.cells #[.int .i64 m.wd, .int .i64 m.ht, .slice A n cp, .slice B k d] 28)).alloc (.cells #[.int .i64 a, .int .i64 b, .int .i64 c] 3)) ((w.alloc (.cells #[.int .i64 m.wd, .int .i64 m.ht, .slice A n cp, .slice B k d] 28)).alloc (.cells #[.int .i64 a, .int .i64 b, .int .i64 c] 3)).heap.size 1 (some ⟨w.heap.size + 1, 0, none⟩) 3 (ints [a, b, c]) := by rw [← hsz]; exact L0
  clear L0 hsz
  cases ha : asked3 m a b c
  · have e1 : cbOk m a b c = false := by unfold cbOk; rw [← asked3_swap, ha]; rfl
    have e2 : cbV m a b c = false := by unfold cbV; rw [e1]; rfl
    rw [e1, e2]; clear e1 e2
    have HA := Lib.hid ha
    clear ha
    go_enter Try.func50, Try.ntmps50
    go_wp2_with fail
    refine (canRoute_3 (m := m) (hv'.on G) L).mono ?_
    rintro e w1 ⟨rfl, hb⟩
    replace K := K.on hb
    replace G := G.trans (hb.mono G.size)
    clear hb
    rw [HA.out]
    obtain ⟨k0, k1, k2, k3⟩ := blk4 K
    go_wp2_with fail
    go_ret2
    exact ⟨rfl, G⟩
  · obtain ⟨V, ⟨x, rfl, hx, ox⟩, ⟨y, rfl, hy, oy⟩, ⟨z, rfl, hz, oz⟩⟩ := asked3_cases ha
    have HA := Lib.hid ha
    have hi1 := finV_hi V hy hx
    cases h1z : decide (0 ≤ finV m y x)
    · have e1 : cbOk m x y z = false := by unfold cbOk; rw [fv_nat, h1z]; simp
      have e2 : cbV m x y z = false := by unfold cbV; rw [e1]; rfl
      rw [e1, e2]; clear e1 e2
      have e3 : (enc (finV m y x) == 1073741824) = true := by rw [enc_eq hi1]; simp at h1z ⊢; exact h1z
      clear ha
      go_enter Try.func50, Try.ntmps50
      go_wp2_with fail
      refine (canRoute_3 (m := m) (hv'.on G) L).mono ?_
      rintro e w1 ⟨rfl, hb⟩
      replace K := K.on hb
      replace G := G.trans (hb.mono G.size)
      clear hb
      rw [HA.out]
      obtain ⟨k0, k1, k2, k3⟩ := blk4 K
      go_wp2_with fail
      refine (leastTime_any (m := m) (hv'.on G) V hx hy).mono ?_
      rintro e w2 ⟨rfl, hb⟩
      clear k0 k1 k2 k3
      replace K := K.on hb
      replace G := G.trans (hb.mono G.size)
      clear hb
      obtain ⟨k0, k1, k2, k3⟩ := blk4 K
      go_wp2_with fail
      go_ret2
      exact ⟨rfl, G⟩
    · have HC : Hid (cbOk m x y z = true) := by show _ = _; unfold cbOk; rw [fv_nat, h1z, ← asked3_swap, ha]; rfl
      have e3 : (enc (finV m y x) == 1073741824) = false := by rw [enc_eq hi1]; simp at h1z ⊢; exact h1z
      clear ha h1z
      cases hd : dtOk m x z y
      · have e1 : cbOk m x y z = true := HC.out
        have e2 : cbV m x y z = false := by unfold cbV cbD; rw [hd]; simp
        rw [e1, e2]; clear e1 e2
        have HD := Lib.hid hd
        clear hd
        go_enter Try.func50, Try.ntmps50
        go_wp2_with fail
        refine (canRoute_3 (m := m) (hv'.on G) L).mono ?_
        rintro e w1 ⟨rfl, hb⟩
        replace K := K.on hb
        replace G := G.trans (hb.mono G.size)
        clear hb
        rw [HA.out]
        obtain ⟨k0, k1, k2, k3⟩ := blk4 K
        go_wp2_with fail
        refine (leastTime_any (m := m) (hv'.on G) V hx hy).mono ?_
        rintro e w2 ⟨rfl, hb⟩
        clear k0 k1 k2 k3
        replace K := K.on hb
        replace G := G.trans (hb.mono G.size)
        clear hb
        obtain ⟨k0, k1, k2, k3⟩ := blk4 K
        go_wp2_with fail
        refine (DetourTime_impl (m := m) (hv'.on G) ).mono ?_
        rintro e w3 ⟨rfl, hb⟩
        clear k0 k1 k2 k3
        replace K := K.on hb
        replace G := G.trans (hb.mono G.size)
        clear hb
        rw [HD.out]
        obtain ⟨k0, k1, k2, k3⟩ := blk4 K
        go_wp2_with fail
        go_ret2
        exact ⟨rfl, G⟩
      · have e1 : cbOk m x y z = true := HC.out
        have e2 : cbV m x y z = (dtV m x z y == 0) := by unfold cbV cbD; rw [hd, e1]; rfl
        rw [e1, e2]; clear e1 e2
        have HD := Lib.hid hd
        clear hd
        go_enter Try.func50, Try.ntmps50
        go_wp2_with fail
        refine (canRoute_3 (m := m) (hv'.on G) L).mono ?_
        rintro e w1 ⟨rfl, hb⟩
        replace K := K.on hb
        replace G := G.trans (hb.mono G.size)
        clear hb
        rw [HA.out]
        obtain ⟨k0, k1, k2, k3⟩ := blk4 K
        go_wp2_with fail
        refine (leastTime_any (m := m) (hv'.on G) V hx hy).mono ?_
        rintro e w2 ⟨rfl, hb⟩
        clear k0 k1 k2 k3
        replace K := K.on hb
        replace G := G.trans (hb.mono G.size)
        clear hb
        obtain ⟨k0, k1, k2, k3⟩ := blk4 K
        go_wp2_with fail
        refine (DetourTime_impl (m := m) (hv'.on G) ).mono ?_
        rintro e w3 ⟨rfl, hb⟩
        clear k0 k1 k2 k3
        replace K := K.on hb
        replace G := G.trans (hb.mono G.size)
        clear hb
        rw [HD.out]
        obtain ⟨k0, k1, k2, k3⟩ := blk4 K
        go_wp2_with fail
        go_ret2
        exact ⟨rfl, G⟩
set_option maxRecDepth 100000 in
set_option maxHeartbeats 400000 in
theorem CrossedBy_spec {m : Mp} {v : Value} {a b c : Int} {w : World} (hv : MapIn w m v) :
    Calls Try.prog 49 #[v, .int .i64 a, .int .i64 b, .int .i64 c] w fun e w' => e = .returned (.tuple #[.bool (cbV m a b c), .bool (cbOk m a b c)]) ∧ Below w.heap.size w w' := by
  have hv' := hv
  obtain ⟨A, n, cp, B, k, d, rfl, h1, h2, h3, h4⟩ := hv
  have K := Blk.new w 28 [.int .i64 m.wd, .int .i64 m.ht, .slice A n cp, .slice B k d]
  have G : Below w.heap.size w (w.alloc (.cells #[.int .i64 m.wd, .int .i64 m.ht, .slice A n cp, .slice B k d] 28)) := (by repeat (first | exact Below.refl _ _ | refine below_drewN ?_ _ | refine Below.drew ?_ | refine Below.alloc ?_ (by first | omega | (simp; done) | (simp; omega)) _ | refine Below.setCell ?_ (by first | omega | (simp; done) | (simp; omega)) _))
  cases ha : asked m a b
  · have e1 : cbOk m a b c = false := by unfold cbOk; unfold asked3; rw [ha]; rfl
    have e2 : cbV m a b c = false := by unfold cbV; rw [e1]; rfl
    rw [e1, e2]; clear e1 e2
    have HA := Lib.hid ha
    clear ha
    go_enter Try.func49, Try.ntmps49
    go_wp2_with fail
    refine (l4Asked_any (m := m) (hv'.on G) ).mono ?_
    rintro e w1 ⟨rfl, hb⟩
    replace K := K.on hb
    replace G := G.trans (hb.mono G.size)
    clear hb
    rw [HA.out]
    obtain ⟨k0, k1, k2, k3⟩ := blk4 K
    go_wp2_with fail
    go_ret2
    exact ⟨rfl, G⟩
  · have V := (asked_cases ha).1
    cases hc : opM m c
    · have e1 : cbOk m a b c = false := by unfold cbOk; unfold asked3; rw [hc]; simp
      have e2 : cbV m a b c = false := by unfold cbV; rw [e1]; rfl
      rw [e1, e2]; clear e1 e2
      have HA := Lib.hid ha
      have HC := Lib.hid hc
      clear ha hc
      go_enter Try.func49, Try.ntmps49
      go_wp2_with fail
      refine (l4Asked_any (m := m) (hv'.on G) ).mono ?_
      rintro e w1 ⟨rfl, hb⟩
      replace K := K.on hb
      replace G := G.trans (hb.mono G.size)
      clear hb
      rw [HA.out]
      obtain ⟨k0, k1, k2, k3⟩ := blk4 K
      go_wp2_with fail
      refine (l2Open_any (m := m) (hv'.on G) V).mono ?_
      rintro e w2 ⟨rfl, hb⟩
      clear k0 k1 k2 k3
      replace K := K.on hb
      replace G := G.trans (hb.mono G.size)
      clear hb
      rw [HC.out]
      obtain ⟨k0, k1, k2, k3⟩ := blk4 K
      go_wp2_with fail
      go_ret2
      exact ⟨rfl, G⟩
    · have ha3 : asked3 m a c b = true := by unfold asked3; rw [ha, hc]; rfl
      obtain ⟨_, ⟨x, rfl, hx, ox⟩, ⟨z, rfl, hz, oz⟩, ⟨y, rfl, hy, oy⟩⟩ := asked3_cases ha3
      have HA := Lib.hid ha
      have HO := Lib.hid hc
      have X1 := Lib.hid (show x < (fin m y).length by rw [(fin_inv V hy).len]; exact hx)
      cases h1z : decide (at_ (fin m y) x < 0)
      · have HC : Hid (cbOk m x y z = true) := by
          show _ = _
          have := of_decide_eq_false h1z
          unfold cbOk; rw [ha3, fv_nat]; simp; unfold finV; omega
        clear ha ha3 hc
        cases hd : dtOk m x z y
        · have e1 : cbOk m x y z = true := HC.out
          have e2 : cbV m x y z = false := by unfold cbV cbD; rw [hd]; simp
          rw [e1, e2]; clear e1 e2
          have HD := Lib.hid hd
          clear hd
          go_enter Try.func49, Try.ntmps49
          go_wp2_with fail
          refine (l4Asked_any (m := m) (hv'.on G) ).mono ?_
          rintro e w1 ⟨rfl, hb⟩
          replace K := K.on hb
          replace G := G.trans (hb.mono G.size)
          clear hb
          rw [HA.out]
          obtain ⟨k0, k1, k2, k3⟩ := blk4 K
          go_wp2_with fail
          refine (l2Open_any (m := m) (hv'.on G) V).mono ?_
          rintro e w2 ⟨rfl, hb⟩
          clear k0 k1 k2 k3
          replace K := K.on hb
          replace G := G.trans (hb.mono G.size)
          clear hb
          rw [HO.out]
          obtain ⟨k0, k1, k2, k3⟩ := blk4 K
          go_wp2_with fail
          refine (l4To_any (m := m) (hv'.on G) V hy).mono ?_
          rintro e w3 ⟨q1, p1, ex1, rfl, O1, hq1, hb⟩
          clear k0 k1 k2 k3
          replace K := K.on hb
          replace G := G.trans (hb.mono G.size)
          clear hb
          obtain ⟨k0, k1, k2, k3⟩ := blk4 K
          have d1 := (O1.cell x).trans (ints_app_get X1.out)
          go_wp2_with fail
          refine (DetourTime_spec (m := m) (hv'.on G) ).mono ?_
          rintro e w4 ⟨rfl, hb⟩
          clear k0 k1 k2 k3
          replace K := K.on hb
          replace G := G.trans (hb.mono G.size)
          clear hb
          rw [HD.out]
          obtain ⟨k0, k1, k2, k3⟩ := blk4 K
          go_wp2_with fail
          go_ret2
          exact ⟨rfl, G⟩
        · have e1 : cbOk m x y z = true := HC.out
          have e2 : cbV m x y z = (dtV m x z y == 0) := by unfold cbV cbD; rw [hd, e1]; rfl
          rw [e1, e2]; clear e1 e2
          have HD := Lib.hid hd
          clear hd
          go_enter Try.func49, Try.ntmps49
          go_wp2_with fail
          refine (l4Asked_any (m := m) (hv'.on G) ).mono ?_
          rintro e w1 ⟨rfl, hb⟩
          replace K := K.on hb
          replace G := G.trans (hb.mono G.size)
          clear hb
          rw [HA.out]
          obtain ⟨k0, k1, k2, k3⟩ := blk4 K
          go_wp2_with fail
          refine (l2Open_any (m := m) (hv'.on G) V).mono ?_
          rintro e w2 ⟨rfl, hb⟩
          clear k0 k1 k2 k3
          replace K := K.on hb
          replace G := G.trans (hb.mono G.size)
          clear hb
          rw [HO.out]
          obtain ⟨k0, k1, k2, k3⟩ := blk4 K
          go_wp2_with fail
          refine (l4To_any (m := m) (hv'.on G) V hy).mono ?_
          rintro e w3 ⟨q1, p1, ex1, rfl, O1, hq1, hb⟩
          clear k0 k1 k2 k3
          replace K := K.on hb
          replace G := G.trans (hb.mono G.size)
          clear hb
          obtain ⟨k0, k1, k2, k3⟩ := blk4 K
          have d1 := (O1.cell x).trans (ints_app_get X1.out)
          go_wp2_with fail
          refine (DetourTime_spec (m := m) (hv'.on G) ).mono ?_
          rintro e w4 ⟨rfl, hb⟩
          clear k0 k1 k2 k3
          replace K := K.on hb
          replace G := G.trans (hb.mono G.size)
          clear hb
          rw [HD.out]
          obtain ⟨k0, k1, k2, k3⟩ := blk4 K
          go_wp2_with fail
          go_ret2
          exact ⟨rfl, G⟩
      · have e1 : cbOk m x y z = false := by unfold cbOk; rw [fv_nat, show decide (0 ≤ finV m y x) = false by have := of_decide_eq_true h1z; simp; unfold finV; omega]; simp
        have e2 : cbV m x y z = false := by unfold cbV; rw [e1]; rfl
        rw [e1, e2]; clear e1 e2
        clear ha ha3 hc
        go_enter Try.func49, Try.ntmps49
        go_wp2_with fail
        refine (l4Asked_any (m := m) (hv'.on G) ).mono ?_
        rintro e w1 ⟨rfl, hb⟩
        replace K := K.on hb
        replace G := G.trans (hb.mono G.size)
        clear hb
        rw [HA.out]
        obtain ⟨k0, k1, k2, k3⟩ := blk4 K
        go_wp2_with fail
        refine (l2Open_any (m := m) (hv'.on G) V).mono ?_
        rintro e w2 ⟨rfl, hb⟩
        clear k0 k1 k2 k3
        replace K := K.on hb
        replace G := G.trans (hb.mono G.size)
        clear hb
        rw [HO.out]
        obtain ⟨k0, k1, k2, k3⟩ := blk4 K
        go_wp2_with fail
        refine (l4To_any (m := m) (hv'.on G) V hy).mono ?_
        rintro e w3 ⟨q1, p1, ex1, rfl, O1, hq1, hb⟩
        clear k0 k1 k2 k3
        replace K := K.on hb
        replace G := G.trans (hb.mono G.size)
        clear hb
        obtain ⟨k0, k1, k2, k3⟩ := blk4 K
        have d1 := (O1.cell x).trans (ints_app_get X1.out)
        go_wp2_with fail
        go_ret2
        exact ⟨rfl, G⟩
end Go.Proofs.Ytijmlagehdmfeaa
