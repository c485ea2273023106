/- Contracts: DetourTime, the program's and the reference's. -/
import Derived.Test.YtijmlagehdmfeaaLeastSpec
import Derived.Test.YtijmlagehdmfeaaRg2
namespace Go.Proofs.Ytijmlagehdmfeaa
set_option linter.unusedVariables false
set_option linter.unusedSimpArgs false
open Go.RowKit
def asked3 (m : Mp) (a c b : Int) : Bool := asked m a b && opM m c
def dtOk (m : Mp) (a c b : Int) : Bool := asked3 m a c b && decide (0 ≤ fv m c a) && decide (0 ≤ fv m b c)
def dtV (m : Mp) (a c b : Int) : Int := if dtOk m a c b = true then fv m c a + fv m b c - fv m b a else 0
theorem askedL3 (m : Mp) (a c b : Int) : (!([a, c, b].any fun x => !(okM m && opM m x))) = asked3 m a c b := by
  unfold asked3 asked
  simp only [List.any_cons, List.any_nil]
  cases okM m <;> cases opM m a <;> cases opM m b <;> cases opM m c <;> rfl
theorem asked3_swap (m : Mp) (a c b : Int) : asked3 m a c b = asked3 m a b c := by
  unfold asked3 asked
  cases okM m <;> cases opM m a <;> cases opM m b <;> cases opM m c <;> rfl
theorem asked3_cases {m : Mp} {a c b : Int} (h : asked3 m a c b = true) : Valid m ∧ (∃ x : Nat, a = x ∧ x < m.co.length ∧ opM m x = true) ∧ (∃ x : Nat, c = x ∧ x < m.co.length ∧ opM m x = true) ∧ (∃ x : Nat, b = x ∧ x < m.co.length ∧ opM m x = true) := by
  unfold asked3 at h
  rw [Bool.and_eq_true] at h
  obtain ⟨h, h3⟩ := h
  obtain ⟨V, h1, h2⟩ := asked_cases h
  have g3 := (opM_iff.1 h3).1
  obtain ⟨z, rfl⟩ := Int.eq_ofNat_of_zero_le g3.1
  exact ⟨V, h1, ⟨z, rfl, by omega, h3⟩, h2⟩
theorem coA_open {m : Mp} {x : Nat} (h : opM m x = true) : 0 < coA m x := (opM_iff.1 h).2
theorem fv_nat (m : Mp) (b a : Nat) : fv m b a = finV m b a := by simp [fv]
theorem canRoute_3 {m : Mp} {v : Value} {A : Option Addr} {a c b : Int} {cq : Nat} {w : World} (hv : MapIn w m v) (hR : Rd w w.heap.size 1 A 3 (ints [a, c, b])) :
    Calls Try.prog 83 #[v, .slice A 3 cq] w fun e w' => e = .returned (.bool (asked3 m a c b)) ∧ Below w.heap.size w w' := by
  have := canRoute_any (l := [a, c, b]) (cq := cq) hv hR (by simp only [maxLen]; omega)
  rw [askedL3] at this
  exact this
set_option maxRecDepth 100000 in
set_option maxHeartbeats 400000 in
theorem DetourTime_impl {m : Mp} {v : Value} {a c b : Int} {w : World} (hv : MapIn w m v) :
    Calls Try.prog 46 #[v, .int .i64 a, .int .i64 c, .int .i64 b] w fun e w' => e = .returned (.tuple #[.int .i64 (dtV m a c b), .bool (dtOk m a c b)]) ∧ Below w.heap.size w w' := by
  have hv' := hv
  obtain ⟨A, n, cp, B, k, d, rfl, h1, h2, h3, h4⟩ := hv
  have K := (Blk.new w 28 [.int .i64 m.wd, .int .i64 m.ht, .slice A n cp, .slice B k d]).alloc (.cells #[.int .i64 a, .int .i64 c, .int .i64 b] 3)
  have G : Below w.heap.size w ((w.alloc (.cells #[.int .i64 m.wd, .int .i64 m.ht, .slice A n cp, .slice B k d] 28)).alloc (.cells #[.int .i64 a, .int .i64 c, .int .i64 b] 3)) := (by repeat (first | exact Below.refl _ _ | refine below_drewN ?_ _ | refine Below.drew ?_ | refine Below.alloc ?_ (by first | omega | (simp; done) | (simp; omega)) _ | refine Below.setCell ?_ (by first | omega | (simp; done) | (simp; omega)) _))
  have hsz : (w.alloc (.cells #[.int .i64 m.wd, .int .i64 m.ht, .slice A n cp, .slice B k d] 28)).heap.size = w.heap.size + 1 := by simp
  have L0 := (Blk.new (w.alloc (.cells #[.int .i64 m.wd, .int .i64 m.ht, .slice A n cp, .slice B k d] 28)) 3 (ints [a, c, b])).rd (size := 1) (n := 3) rfl
  have L : Rd ((w.alloc (.cells #[.int .i64 m.wd, .int .i64 m.ht, .slice A n cp, .slice B k d] 28)).alloc (.cells #[.int .i64 a, .int .i64 c, .int .i64 b] 3)) ((w.alloc (.cells #[.int .i64 m.wd, .int .i64 m.ht, .slice A n cp, .slice B k d] 28)).alloc (.cells #[.int .i64 a, .int .i64 c, .int .i64 b] 3)).heap.size 1 (some ⟨w.heap.size + 1, 0, none⟩) 3 (ints [a, c, b]) := by rw [← hsz]; exact L0
  clear L0 hsz
  cases ha : asked3 m a c b
  · have e1 : dtOk m a c b = false := by unfold dtOk; rw [ha]; rfl
    have e2 : dtV m a c b = 0 := by unfold dtV; rw [e1]; rfl
    rw [e1, e2]; clear e1 e2
    have HA := Lib.hid ha
    clear ha
    go_enter Try.func46, Try.ntmps46
    go_wp2_with fail
    refine (canRoute_3 (m := m) (hv'.on G) L).mono ?_
    rintro e w1 ⟨rfl, hb⟩
    replace K := K.on hb
    replace G := G.trans (hb.mono G.size)
    clear hb
    rw [HA.out]
    obtain ⟨k0, k1, k2, k3⟩ := blk4 K
    go_wp2_with fail
    go_ret2
    exact ⟨rfl, G⟩
  · obtain ⟨V, ⟨x, rfl, hx, ox⟩, ⟨y, rfl, hy, oy⟩, ⟨z, rfl, hz, oz⟩⟩ := asked3_cases ha
    have HA := Lib.hid ha
    have hi1 := finV_hi V hy hx
    have hi2 := finV_hi V hz hy
    have hi3 := finV_hi V hz hx
    cases h1z : decide (0 ≤ finV m y x)
    · have e1 : dtOk m x y z = false := by unfold dtOk; rw [fv_nat, fv_nat, h1z]; simp
      have e2 : dtV m x y z = 0 := by unfold dtV; rw [e1]; rfl
      rw [e1, e2]; clear e1 e2 ha
      have e3 : (enc (finV m y x) == 1073741824) = true := by rw [enc_eq hi1]; simp at h1z ⊢; exact h1z
      go_enter Try.func46, Try.ntmps46
      go_wp2_with fail
      refine (canRoute_3 (m := m) (hv'.on G) L).mono ?_
      rintro e w1 ⟨rfl, hb⟩
      replace K := K.on hb
      replace G := G.trans (hb.mono G.size)
      clear hb
      rw [HA.out]
      obtain ⟨k0, k1, k2, k3⟩ := blk4 K
      go_wp2_with fail
      refine (leastTime_any (m := m) (hv'.on G) V hx hy).mono ?_
      rintro e w2 ⟨rfl, hb⟩
      clear k0 k1 k2 k3
      replace K := K.on hb
      replace G := G.trans (hb.mono G.size)
      clear hb
      obtain ⟨k0, k1, k2, k3⟩ := blk4 K
      go_wp2_with fail
      go_ret2
      exact ⟨rfl, G⟩
    · cases h2z : decide (0 ≤ finV m z y)
      · have e1 : dtOk m x y z = false := by unfold dtOk; rw [fv_nat, fv_nat, h2z]; simp
        have e2 : dtV m x y z = 0 := by unfold dtV; rw [e1]; rfl
        rw [e1, e2]; clear e1 e2 ha
        have e3 : (enc (finV m y x) == 1073741824) = false := by rw [enc_eq hi1]; simp at h1z ⊢; exact h1z
        have e4 : (enc (finV m z y) == 1073741824) = true := by rw [enc_eq hi2]; simp at h2z ⊢; exact h2z
        go_enter Try.func46, Try.ntmps46
        go_wp2_with fail
        refine (canRoute_3 (m := m) (hv'.on G) L).mono ?_
        rintro e w1 ⟨rfl, hb⟩
        replace K := K.on hb
        replace G := G.trans (hb.mono G.size)
        clear hb
        rw [HA.out]
        obtain ⟨k0, k1, k2, k3⟩ := blk4 K
        go_wp2_with fail
        refine (leastTime_any (m := m) (hv'.on G) V hx hy).mono ?_
        rintro e w2 ⟨rfl, hb⟩
        clear k0 k1 k2 k3
        replace K := K.on hb
        replace G := G.trans (hb.mono G.size)
        clear hb
        obtain ⟨k0, k1, k2, k3⟩ := blk4 K
        go_wp2_with fail
        refine (leastTime_any (m := m) (hv'.on G) V hy hz).mono ?_
        rintro e w3 ⟨rfl, hb⟩
        clear k0 k1 k2 k3
        replace K := K.on hb
        replace G := G.trans (hb.mono G.size)
        clear hb
        obtain ⟨k0, k1, k2, k3⟩ := blk4 K
        go_wp2_with fail
        go_ret2
        exact ⟨rfl, G⟩
      · have g1 : 0 ≤ finV m y x := of_decide_eq_true h1z
        have g2 : 0 ≤ finV m z y := of_decide_eq_true h2z
        have g3 : 0 ≤ finV m z x := finV_trans V hz hy g2 _ x hx (coA_open ox) g1 (Nat.le_refl _)
        have e1 : dtOk m x y z = true := by unfold dtOk; rw [fv_nat, fv_nat, HA.out, h1z, h2z]; rfl
        have e2 : dtV m x y z = finV m y x + finV m z y - finV m z x := by unfold dtV; rw [e1, if_pos rfl, fv_nat, fv_nat, fv_nat]
        have e3 : (enc (finV m y x) == 1073741824) = false := by rw [enc_eq hi1]; simp; exact g1
        have e4 : (enc (finV m z y) == 1073741824) = false := by rw [enc_eq hi2]; simp; exact g2
        have c1 : enc (finV m y x) = finV m y x := by unfold enc; rw [if_neg (by omega)]
        have c2 : enc (finV m z y) = finV m z y := by unfold enc; rw [if_neg (by omega)]
        have c3 : enc (finV m z x) = finV m z x := by unfold enc; rw [if_neg (by omega)]
        rw [e1, e2]; clear e1 e2 ha h1z h2z ox oy oz
        rw [c1] at e3
        rw [c2] at e4
        go_enter Try.func46, Try.ntmps46
        go_wp2_with fail
        refine (canRoute_3 (m := m) (hv'.on G) L).mono ?_
        rintro e w1 ⟨rfl, hb⟩
        replace K := K.on hb
        replace G := G.trans (hb.mono G.size)
        clear hb
        rw [HA.out]
        obtain ⟨k0, k1, k2, k3⟩ := blk4 K
        go_wp2_with fail
        refine (leastTime_any (m := m) (hv'.on G) V hx hy).mono ?_
        rintro e w2 ⟨rfl, hb⟩
        clear k0 k1 k2 k3
        replace K := K.on hb
        replace G := G.trans (hb.mono G.size)
        clear hb
        rw [c1]
        obtain ⟨k0, k1, k2, k3⟩ := blk4 K
        go_wp2_with fail
        refine (leastTime_any (m := m) (hv'.on G) V hy hz).mono ?_
        rintro e w3 ⟨rfl, hb⟩
        clear k0 k1 k2 k3
        replace K := K.on hb
        replace G := G.trans (hb.mono G.size)
        clear hb
        rw [c2]
        obtain ⟨k0, k1, k2, k3⟩ := blk4 K
        clear k0 k1 k2 k3
        have p5 : IntKind.i64.wrap (finV m y x + finV m z y) = finV m y x + finV m z y := IntWalk.i64_in _ (by omega)
        have p6 : IntKind.i64.wrap (finV m y x + finV m z y - finV m z x) = finV m y x + finV m z y - finV m z x := IntWalk.i64_in _ (by omega)
        go_wp2_with fail
        refine wp_region_held_drew (S := fun w' => Blk w' w.heap.size 28 [.int .i64 m.wd, .int .i64 m.ht, .slice A n cp, .slice B k d] ∧ Below w.heap.size w w') (by kernel_rfl) ?_ (fun hHeld => ?_)
        · (try dsimp only)
          first | exact ⟨K.drew, G.drew⟩ | exact ⟨hHeld.1.on hb6, hHeld.2.trans (hb6.mono hHeld.2.size)⟩ | exact hHeld
        refine rgTake (i := 0) (d := 31) (v := ?_) rfl rfl (by kernel_rfl) (by kernel_rfl) (by kernel_rfl) (fun _ _ _ h => h) (by rfl) ?_ (by assumption) ?_
        rotate_left
        · ((intro w hSw); (try dsimp only at hSw); (obtain ⟨z0, z1, z2, z3⟩ := blk4 hSw.1); go_simp; (try with_reducible rfl))
        try simp only [Act.put, List.setIfInBounds_toArray, List.set_cons_zero, List.set_cons_succ]
        refine rgTake (i := 1) (d := 32) (v := ?_) rfl rfl (by kernel_rfl) (by kernel_rfl) (by kernel_rfl) (fun _ _ _ h => h) (by rfl) ?_ (by assumption) ?_
        rotate_left
        · ((intro w hSw); (try dsimp only at hSw); go_simp; (try with_reducible rfl))
        try simp only [Act.put, List.setIfInBounds_toArray, List.set_cons_zero, List.set_cons_succ]
        refine rgTake (i := 2) (d := 33) (v := ?_) rfl rfl (by kernel_rfl) (by kernel_rfl) (by kernel_rfl) (fun _ _ _ h => h) (by rfl) ?_ (by assumption) ?_
        rotate_left
        · ((intro w hSw); (try dsimp only at hSw); go_simp; (try with_reducible rfl))
        try simp only [Act.put, List.setIfInBounds_toArray, List.set_cons_zero, List.set_cons_succ]
        refine rgTake (i := 4) (d := 35) (v := ?_) rfl rfl (by kernel_rfl) (by kernel_rfl) (by kernel_rfl) (fun _ _ _ h => h) (by rfl) ?_ (by assumption) ?_
        rotate_left
        · ((intro w hSw); (try dsimp only at hSw); (obtain ⟨z0, z1, z2, z3⟩ := blk4 hSw.1); go_simp; (try with_reducible rfl))
        try simp only [Act.put, List.setIfInBounds_toArray, List.set_cons_zero, List.set_cons_succ]
        refine rgTake (i := 5) (d := 36) (v := ?_) rfl rfl (by kernel_rfl) (by kernel_rfl) (by kernel_rfl) (fun _ _ _ h => h) (by rfl) ?_ (by assumption) ?_
        rotate_left
        · ((intro w hSw); (try dsimp only at hSw); go_simp; (try with_reducible rfl))
        try simp only [Act.put, List.setIfInBounds_toArray, List.set_cons_zero, List.set_cons_succ]
        refine rgTake (i := 6) (d := 37) (v := ?_) rfl rfl (by kernel_rfl) (by kernel_rfl) (by kernel_rfl) (fun _ _ _ h => h) (by rfl) ?_ (by assumption) ?_
        rotate_left
        · ((intro w hSw); (try dsimp only at hSw); go_simp; (try with_reducible rfl))
        try simp only [Act.put, List.setIfInBounds_toArray, List.set_cons_zero, List.set_cons_succ]
        refine rgTake (i := 9) (d := 40) (v := ?_) rfl rfl (by kernel_rfl) (by kernel_rfl) (by kernel_rfl) (fun _ _ _ h => h) (by rfl) ?_ (by assumption) ?_
        rotate_left
        · ((intro w hSw); (try dsimp only at hSw); (obtain ⟨z0, z1, z2, z3⟩ := blk4 hSw.1); go_simp; (try with_reducible rfl))
        try simp only [Act.put, List.setIfInBounds_toArray, List.set_cons_zero, List.set_cons_succ]
        refine rgTake (i := 10) (d := 41) (v := ?_) rfl rfl (by kernel_rfl) (by kernel_rfl) (by kernel_rfl) (fun _ _ _ h => h) (by rfl) ?_ (by assumption) ?_
        rotate_left
        · ((intro w hSw); (try dsimp only at hSw); go_simp; (try with_reducible rfl))
        try simp only [Act.put, List.setIfInBounds_toArray, List.set_cons_zero, List.set_cons_succ]
        refine rgTake (i := 11) (d := 42) (v := ?_) rfl rfl (by kernel_rfl) (by kernel_rfl) (by kernel_rfl) (fun _ _ _ h => h) (by rfl) ?_ (by assumption) ?_
        rotate_left
        · ((intro w hSw); (try dsimp only at hSw); go_simp; (try with_reducible rfl))
        try simp only [Act.put, List.setIfInBounds_toArray, List.set_cons_zero, List.set_cons_succ]
        refine wpAnyH_ready (rs := [3]) (by kernel_rfl) (by simp) ?_
        refine AllReadyH.cons rfl (fun K hK => ?_) AllReadyH.nil
        go_simp
        refine (leastTime_any (m := m) (hv'.on hHeld.2) V hx hy).mono ?_; rintro e wy ⟨rfl, hb6⟩; rw [c1]
        go_wp2_with fail
        refine hK.out _ _ ?_ (fun hHeld => ?_)
        · (try dsimp only)
          first | exact ⟨K.drew, G.drew⟩ | exact ⟨hHeld.1.on hb6, hHeld.2.trans (hb6.mono hHeld.2.size)⟩ | exact hHeld
        clear hK K
        try simp only [Act.put, List.setIfInBounds_toArray, List.set_cons_zero, List.set_cons_succ]
        refine wpAnyH_ready (rs := [7]) (by kernel_rfl) (by simp) ?_
        refine AllReadyH.cons rfl (fun K hK => ?_) AllReadyH.nil
        go_simp
        refine (leastTime_any (m := m) (hv'.on hHeld.2) V hy hz).mono ?_; rintro e wy ⟨rfl, hb6⟩; rw [c2]
        go_wp2_with fail
        refine hK.out _ _ ?_ (fun hHeld => ?_)
        · (try dsimp only)
          first | exact ⟨K.drew, G.drew⟩ | exact ⟨hHeld.1.on hb6, hHeld.2.trans (hb6.mono hHeld.2.size)⟩ | exact hHeld
        clear hK K
        try simp only [Act.put, List.setIfInBounds_toArray, List.set_cons_zero, List.set_cons_succ]
        refine rgTake (i := 8) (d := 39) (v := ?_) rfl rfl (by kernel_rfl) (by kernel_rfl) (by kernel_rfl) (fun _ _ _ h => h) (by rfl) ?_ (by assumption) ?_
        rotate_left
        · ((intro w hSw); (try dsimp only at hSw); go_simp; (try with_reducible rfl))
        try simp only [Act.put, List.setIfInBounds_toArray, List.set_cons_zero, List.set_cons_succ]
        refine wpAnyH_ready (rs := [12]) (by kernel_rfl) (by simp) ?_
        refine AllReadyH.cons rfl (fun K hK => ?_) AllReadyH.nil
        go_simp
        refine (leastTime_any (m := m) (hv'.on hHeld.2) V hx hz).mono ?_; rintro e wy ⟨rfl, hb6⟩; rw [c3]
        go_wp2_with fail
        refine hK.out _ _ ?_ (fun hHeld => ?_)
        · (try dsimp only)
          first | exact ⟨K.drew, G.drew⟩ | exact ⟨hHeld.1.on hb6, hHeld.2.trans (hb6.mono hHeld.2.size)⟩ | exact hHeld
        clear hK K
        try simp only [Act.put, List.setIfInBounds_toArray, List.set_cons_zero, List.set_cons_succ]
        refine rgTake (i := 13) (d := 44) (v := ?_) rfl rfl (by kernel_rfl) (by kernel_rfl) (by kernel_rfl) (fun _ _ _ h => h) (by rfl) ?_ (by assumption) ?_
        rotate_left
        · ((intro w hSw); (try dsimp only at hSw); go_simp; (try with_reducible rfl))
        try simp only [Act.put, List.setIfInBounds_toArray, List.set_cons_zero, List.set_cons_succ]
        refine rgTake (i := 14) (d := 8) (v := ?_) rfl rfl (by kernel_rfl) (by kernel_rfl) (by kernel_rfl) (fun _ _ _ h => h) (by rfl) ?_ (by assumption) ?_
        rotate_left
        · ((intro w hSw); (try dsimp only at hSw); go_simp; (try with_reducible rfl))
        try simp only [Act.put, List.setIfInBounds_toArray, List.set_cons_zero, List.set_cons_succ]
        refine rgTake (i := 15) (d := 9) (v := ?_) rfl rfl (by kernel_rfl) (by kernel_rfl) (by kernel_rfl) (fun _ _ _ h => h) (by rfl) ?_ (by assumption) ?_
        rotate_left
        · ((intro w hSw); (try dsimp only at hSw); go_simp; (try with_reducible rfl))
        try simp only [Act.put, List.setIfInBounds_toArray, List.set_cons_zero, List.set_cons_succ]
        refine wpAnyH_done (by kernel_rfl) ?_ _
        clear p5 p6
        go_wp2_with fail
        go_ret2
        exact ⟨rfl, hHeld.2⟩
set_option maxRecDepth 100000 in
set_option maxHeartbeats 400000 in
theorem DetourTime_spec {m : Mp} {v : Value} {a c b : Int} {w : World} (hv : MapIn w m v) :
    Calls Try.prog 45 #[v, .int .i64 a, .int .i64 c, .int .i64 b] w fun e w' => e = .returned (.tuple #[.int .i64 (dtV m a c b), .bool (dtOk m a c b)]) ∧ Below w.heap.size w w' := by
  have hv' := hv
  obtain ⟨A, n, cp, B, k, d, rfl, h1, h2, h3, h4⟩ := hv
  have K := Blk.new w 28 [.int .i64 m.wd, .int .i64 m.ht, .slice A n cp, .slice B k d]
  have G : Below w.heap.size w (w.alloc (.cells #[.int .i64 m.wd, .int .i64 m.ht, .slice A n cp, .slice B k d] 28)) := (by repeat (first | exact Below.refl _ _ | refine below_drewN ?_ _ | refine Below.drew ?_ | refine Below.alloc ?_ (by first | omega | (simp; done) | (simp; omega)) _ | refine Below.setCell ?_ (by first | omega | (simp; done) | (simp; omega)) _))
  cases ha : asked m a b
  · have e1 : dtOk m a c b = false := by unfold dtOk asked3; rw [ha]; rfl
    have e2 : dtV m a c b = 0 := by unfold dtV; rw [e1]; rfl
    rw [e1, e2]; clear e1 e2
    have HA := Lib.hid ha
    clear ha
    go_enter Try.func45, Try.ntmps45
    go_wp2_with fail
    refine (l4Asked_any (m := m) (hv'.on G) ).mono ?_
    rintro e w1 ⟨rfl, hb⟩
    replace K := K.on hb
    replace G := G.trans (hb.mono G.size)
    clear hb
    rw [HA.out]
    obtain ⟨k0, k1, k2, k3⟩ := blk4 K
    go_wp2_with fail
    go_ret2
    exact ⟨rfl, G⟩
  · have V := (asked_cases ha).1
    cases hc : opM m c
    · have e1 : dtOk m a c b = false := by unfold dtOk asked3; rw [hc]; simp
      have e2 : dtV m a c b = 0 := by unfold dtV; rw [e1]; rfl
      rw [e1, e2]; clear e1 e2
      have HA := Lib.hid ha
      have HC := Lib.hid hc
      clear ha hc
      go_enter Try.func45, Try.ntmps45
      go_wp2_with fail
      refine (l4Asked_any (m := m) (hv'.on G) ).mono ?_
      rintro e w1 ⟨rfl, hb⟩
      replace K := K.on hb
      replace G := G.trans (hb.mono G.size)
      clear hb
      rw [HA.out]
      obtain ⟨k0, k1, k2, k3⟩ := blk4 K
      go_wp2_with fail
      refine (l2Open_any (m := m) (hv'.on G) V).mono ?_
      rintro e w2 ⟨rfl, hb⟩
      clear k0 k1 k2 k3
      replace K := K.on hb
      replace G := G.trans (hb.mono G.size)
      clear hb
      rw [HC.out]
      obtain ⟨k0, k1, k2, k3⟩ := blk4 K
      go_wp2_with fail
      go_ret2
      exact ⟨rfl, G⟩
    · have ha3 : asked3 m a c b = true := by unfold asked3; rw [ha, hc]; rfl
      obtain ⟨_, ⟨x, rfl, hx, ox⟩, ⟨y, rfl, hy, oy⟩, ⟨z, rfl, hz, oz⟩⟩ := asked3_cases ha3
      have HA := Lib.hid ha
      have HC := Lib.hid hc
      have HA3 := Lib.hid ha3
      have X1 := Lib.hid (show x < (fin m y).length by rw [(fin_inv V hy).len]; exact hx)
      have X2 := Lib.hid (show y < (fin m z).length by rw [(fin_inv V hz).len]; exact hy)
      have X3 := Lib.hid (show x < (fin m z).length by rw [(fin_inv V hz).len]; exact hx)
      have u1 : -1 ≤ at_ (fin m y) x ∧ at_ (fin m y) x ≤ 1440 := ⟨finV_lo V hy hx, finV_hi V hy hx⟩
      have u2 : -1 ≤ at_ (fin m z) y ∧ at_ (fin m z) y ≤ 1440 := ⟨finV_lo V hz hy, finV_hi V hz hy⟩
      have u3 : -1 ≤ at_ (fin m z) x ∧ at_ (fin m z) x ≤ 1440 := ⟨finV_lo V hz hx, finV_hi V hz hx⟩
      clear ha hc ha3
      go_enter Try.func45, Try.ntmps45
      go_wp2_with fail
      refine (l4Asked_any (m := m) (hv'.on G) ).mono ?_
      rintro e w1 ⟨rfl, hb⟩
      replace K := K.on hb
      replace G := G.trans (hb.mono G.size)
      clear hb
      rw [HA.out]
      obtain ⟨k0, k1, k2, k3⟩ := blk4 K
      go_wp2_with fail
      refine (l2Open_any (m := m) (hv'.on G) V).mono ?_
      rintro e w2 ⟨rfl, hb⟩
      clear k0 k1 k2 k3
      replace K := K.on hb
      replace G := G.trans (hb.mono G.size)
      clear hb
      rw [HC.out]
      obtain ⟨k0, k1, k2, k3⟩ := blk4 K
      clear k0 k1 k2 k3
      go_wp2_with fail
      refine wp_region_held_drew (S := fun w' => Blk w' w.heap.size 28 [.int .i64 m.wd, .int .i64 m.ht, .slice A n cp, .slice B k d] ∧ Below w.heap.size w w') (by kernel_rfl) ?_ (fun hHeld => ?_)
      · (try dsimp only)
        first | exact ⟨K.drew, G.drew⟩ | exact ⟨hHeld.1.on hb6, hHeld.2.trans (hb6.mono hHeld.2.size)⟩ | exact ⟨⟨hHeld.1.1.on hb6, hHeld.1.2.trans (hb6.mono hHeld.1.2.size)⟩, hHeld.2.on hb6⟩ | exact ⟨⟨⟨hHeld.1.1.1.on hb6, hHeld.1.1.2.trans (hb6.mono hHeld.1.1.2.size)⟩, hHeld.1.2.on hb6⟩, hHeld.2.on hb6⟩ | exact hHeld
      refine rgTake (i := 0) (d := 24) (v := ?_) rfl rfl (by kernel_rfl) (by kernel_rfl) (by kernel_rfl) (fun _ _ _ h => h) (by rfl) ?_ (by assumption) ?_
      rotate_left
      · ((intro w hSw); (try dsimp only at hSw); (obtain ⟨z0, z1, z2, z3⟩ := blk4 hSw.1); go_simp; (try with_reducible rfl))
      try simp only [Act.put, List.setIfInBounds_toArray, List.set_cons_zero, List.set_cons_succ]
      refine rgTake (i := 1) (d := 25) (v := ?_) rfl rfl (by kernel_rfl) (by kernel_rfl) (by kernel_rfl) (fun _ _ _ h => h) (by rfl) ?_ (by assumption) ?_
      rotate_left
      · ((intro w hSw); (try dsimp only at hSw); go_simp; (try with_reducible rfl))
      try simp only [Act.put, List.setIfInBounds_toArray, List.set_cons_zero, List.set_cons_succ]
      refine rgTake (i := 3) (d := 27) (v := ?_) rfl rfl (by kernel_rfl) (by kernel_rfl) (by kernel_rfl) (fun _ _ _ h => h) (by rfl) ?_ (by assumption) ?_
      rotate_left
      · ((intro w hSw); (try dsimp only at hSw); go_simp; (try with_reducible rfl))
      try simp only [Act.put, List.setIfInBounds_toArray, List.set_cons_zero, List.set_cons_succ]
      refine rgTake (i := 6) (d := 30) (v := ?_) rfl rfl (by kernel_rfl) (by kernel_rfl) (by kernel_rfl) (fun _ _ _ h => h) (by rfl) ?_ (by assumption) ?_
      rotate_left
      · ((intro w hSw); (try dsimp only at hSw); (obtain ⟨z0, z1, z2, z3⟩ := blk4 hSw.1); go_simp; (try with_reducible rfl))
      try simp only [Act.put, List.setIfInBounds_toArray, List.set_cons_zero, List.set_cons_succ]
      refine rgTake (i := 7) (d := 31) (v := ?_) rfl rfl (by kernel_rfl) (by kernel_rfl) (by kernel_rfl) (fun _ _ _ h => h) (by rfl) ?_ (by assumption) ?_
      rotate_left
      · ((intro w hSw); (try dsimp only at hSw); go_simp; (try with_reducible rfl))
      try simp only [Act.put, List.setIfInBounds_toArray, List.set_cons_zero, List.set_cons_succ]
      refine rgTake (i := 9) (d := 33) (v := ?_) rfl rfl (by kernel_rfl) (by kernel_rfl) (by kernel_rfl) (fun _ _ _ h => h) (by rfl) ?_ (by assumption) ?_
      rotate_left
      · ((intro w hSw); (try dsimp only at hSw); go_simp; (try with_reducible rfl))
      try simp only [Act.put, List.setIfInBounds_toArray, List.set_cons_zero, List.set_cons_succ]
      refine rgTake (i := 12) (d := 36) (v := ?_) rfl rfl (by kernel_rfl) (by kernel_rfl) (by kernel_rfl) (fun _ _ _ h => h) (by rfl) ?_ (by assumption) ?_
      rotate_left
      · ((intro w hSw); (try dsimp only at hSw); (obtain ⟨z0, z1, z2, z3⟩ := blk4 hSw.1); go_simp; (try with_reducible rfl))
      try simp only [Act.put, List.setIfInBounds_toArray, List.set_cons_zero, List.set_cons_succ]
      refine rgTake (i := 13) (d := 37) (v := ?_) rfl rfl (by kernel_rfl) (by kernel_rfl) (by kernel_rfl) (fun _ _ _ h => h) (by rfl) ?_ (by assumption) ?_
      rotate_left
      · ((intro w hSw); (try dsimp only at hSw); go_simp; (try with_reducible rfl))
      try simp only [Act.put, List.setIfInBounds_toArray, List.set_cons_zero, List.set_cons_succ]
      refine rgTake (i := 15) (d := 39) (v := ?_) rfl rfl (by kernel_rfl) (by kernel_rfl) (by kernel_rfl) (fun _ _ _ h => h) (by rfl) ?_ (by assumption) ?_
      rotate_left
      · ((intro w hSw); (try dsimp only at hSw); go_simp; (try with_reducible rfl))
      try simp only [Act.put, List.setIfInBounds_toArray, List.set_cons_zero, List.set_cons_succ]
      refine wpAnyH_ready (rs := [2]) (by kernel_rfl) (by simp) ?_
      refine AllReadyH.cons rfl (fun K hK => ?_) AllReadyH.nil
      go_simp
      refine (l4To_any (m := m) (hv'.on hHeld.2) V hy).mono ?_; rintro e wy ⟨q1, p1, ex1, rfl, O1, hq1, hb6⟩
      go_wp2_with fail
      refine hK.out _ _ ?_ (fun hHeld => ?_)
      · (try dsimp only)
        first | exact ⟨K.drew, G.drew⟩ | exact ⟨hHeld.1.on hb6, hHeld.2.trans (hb6.mono hHeld.2.size)⟩ | exact ⟨⟨hHeld.1.1.on hb6, hHeld.1.2.trans (hb6.mono hHeld.1.2.size)⟩, hHeld.2.on hb6⟩ | exact ⟨⟨⟨hHeld.1.1.1.on hb6, hHeld.1.1.2.trans (hb6.mono hHeld.1.1.2.size)⟩, hHeld.1.2.on hb6⟩, hHeld.2.on hb6⟩ | exact hHeld
      clear hK K
      try simp only [Act.put, List.setIfInBounds_toArray, List.set_cons_zero, List.set_cons_succ]
      refine rgAnd (fun w' => Blk w' q1 3 (ints (fin m y) ++ ex1)) hHeld (O1) (fun hMore => ?_)
      clear hHeld
      have hHeld := hMore
      clear hMore
      try dsimp only at hHeld
      refine rgTake (i := 4) (d := 28) (v := ?_) rfl rfl (by kernel_rfl) (by kernel_rfl) (by kernel_rfl) (fun _ _ _ h => h) (by rfl) ?_ (by assumption) ?_
      rotate_left
      · ((intro w hSw); (try dsimp only at hSw); go_simp; (try with_reducible rfl))
      try simp only [Act.put, List.setIfInBounds_toArray, List.set_cons_zero, List.set_cons_succ]
      refine rgTake (i := 5) (d := 29) (v := ?_) rfl rfl (by kernel_rfl) (by kernel_rfl) (by kernel_rfl) (fun _ _ _ h => h) (by rfl) ?_ (by assumption) ?_
      rotate_left
      · ((intro w hSw); (try dsimp only at hSw); (obtain ⟨z0, z1, z2, z3⟩ := blk4 hSw.1.1; have d1 := (hSw.2.cell x).trans (ints_app_get X1.out)); go_simp; (try with_reducible rfl))
      try simp only [Act.put, List.setIfInBounds_toArray, List.set_cons_zero, List.set_cons_succ]
      refine wpAnyH_ready (rs := [8]) (by kernel_rfl) (by simp) ?_
      refine AllReadyH.cons rfl (fun K hK => ?_) AllReadyH.nil
      go_simp
      refine (l4To_any (m := m) (hv'.on hHeld.1.2) V hz).mono ?_; rintro e wy ⟨q2, p2, ex2, rfl, O2, hq2, hb6⟩
      go_wp2_with fail
      refine hK.out _ _ ?_ (fun hHeld => ?_)
      · (try dsimp only)
        first | exact ⟨K.drew, G.drew⟩ | exact ⟨hHeld.1.on hb6, hHeld.2.trans (hb6.mono hHeld.2.size)⟩ | exact ⟨⟨hHeld.1.1.on hb6, hHeld.1.2.trans (hb6.mono hHeld.1.2.size)⟩, hHeld.2.on hb6⟩ | exact ⟨⟨⟨hHeld.1.1.1.on hb6, hHeld.1.1.2.trans (hb6.mono hHeld.1.1.2.size)⟩, hHeld.1.2.on hb6⟩, hHeld.2.on hb6⟩ | exact hHeld
      clear hK K
      try simp only [Act.put, List.setIfInBounds_toArray, List.set_cons_zero, List.set_cons_succ]
      refine rgAnd (fun w' => Blk w' q2 3 (ints (fin m z) ++ ex2)) hHeld (O2) (fun hMore => ?_)
      clear hHeld
      have hHeld := hMore
      clear hMore
      try dsimp only at hHeld
      refine rgTake (i := 10) (d := 34) (v := ?_) rfl rfl (by kernel_rfl) (by kernel_rfl) (by kernel_rfl) (fun _ _ _ h => h) (by rfl) ?_ (by assumption) ?_
      rotate_left
      · ((intro w hSw); (try dsimp only at hSw); go_simp; (try with_reducible rfl))
      try simp only [Act.put, List.setIfInBounds_toArray, List.set_cons_zero, List.set_cons_succ]
      refine rgTake (i := 11) (d := 35) (v := ?_) rfl rfl (by kernel_rfl) (by kernel_rfl) (by kernel_rfl) (fun _ _ _ h => h) (by rfl) ?_ (by assumption) ?_
      rotate_left
      · ((intro w hSw); (try dsimp only at hSw); (obtain ⟨z0, z1, z2, z3⟩ := blk4 hSw.1.1.1; have d1 := (hSw.1.2.cell x).trans (ints_app_get X1.out); have d2 := (hSw.2.cell y).trans (ints_app_get X2.out)); go_simp; (try with_reducible rfl))
      try simp only [Act.put, List.setIfInBounds_toArray, List.set_cons_zero, List.set_cons_succ]
      refine wpAnyH_ready (rs := [14]) (by kernel_rfl) (by simp) ?_
      refine AllReadyH.cons rfl (fun K hK => ?_) AllReadyH.nil
      go_simp
      refine (l4To_any (m := m) (hv'.on hHeld.1.1.2) V hz).mono ?_; rintro e wy ⟨q3, p3, ex3, rfl, O3, hq3, hb6⟩
      go_wp2_with fail
      refine hK.out _ _ ?_ (fun hHeld => ?_)
      · (try dsimp only)
        first | exact ⟨K.drew, G.drew⟩ | exact ⟨hHeld.1.on hb6, hHeld.2.trans (hb6.mono hHeld.2.size)⟩ | exact ⟨⟨hHeld.1.1.on hb6, hHeld.1.2.trans (hb6.mono hHeld.1.2.size)⟩, hHeld.2.on hb6⟩ | exact ⟨⟨⟨hHeld.1.1.1.on hb6, hHeld.1.1.2.trans (hb6.mono hHeld.1.1.2.size)⟩, hHeld.1.2.on hb6⟩, hHeld.2.on hb6⟩ | exact hHeld
      clear hK K
      try simp only [Act.put, List.setIfInBounds_toArray, List.set_cons_zero, List.set_cons_succ]
      refine rgAnd (fun w' => Blk w' q3 3 (ints (fin m z) ++ ex3)) hHeld (O3) (fun hMore => ?_)
      clear hHeld
      have hHeld := hMore
      clear hMore
      try dsimp only at hHeld
      refine rgTake (i := 16) (d := 40) (v := ?_) rfl rfl (by kernel_rfl) (by kernel_rfl) (by kernel_rfl) (fun _ _ _ h => h) (by rfl) ?_ (by assumption) ?_
      rotate_left
      · ((intro w hSw); (try dsimp only at hSw); go_simp; (try with_reducible rfl))
      try simp only [Act.put, List.setIfInBounds_toArray, List.set_cons_zero, List.set_cons_succ]
      refine rgTake (i := 17) (d := 41) (v := ?_) rfl rfl (by kernel_rfl) (by kernel_rfl) (by kernel_rfl) (fun _ _ _ h => h) (by rfl) ?_ (by assumption) ?_
      rotate_left
      · ((intro w hSw); (try dsimp only at hSw); (obtain ⟨z0, z1, z2, z3⟩ := blk4 hSw.1.1.1.1; have d1 := (hSw.1.1.2.cell x).trans (ints_app_get X1.out); have d2 := (hSw.1.2.cell y).trans (ints_app_get X2.out); have d3 := (hSw.2.cell x).trans (ints_app_get X3.out)); go_simp; (try with_reducible rfl))
      try simp only [Act.put, List.setIfInBounds_toArray, List.set_cons_zero, List.set_cons_succ]
      refine rgTake (i := 18) (d := 10) (v := ?_) rfl rfl (by kernel_rfl) (by kernel_rfl) (by kernel_rfl) (fun _ _ _ h => h) (by rfl) ?_ (by assumption) ?_
      rotate_left
      · ((intro w hSw); (try dsimp only at hSw); go_simp; (try with_reducible rfl))
      try simp only [Act.put, List.setIfInBounds_toArray, List.set_cons_zero, List.set_cons_succ]
      refine rgTake (i := 19) (d := 11) (v := ?_) rfl rfl (by kernel_rfl) (by kernel_rfl) (by kernel_rfl) (fun _ _ _ h => h) (by rfl) ?_ (by assumption) ?_
      rotate_left
      · ((intro w hSw); (try dsimp only at hSw); go_simp; (try with_reducible rfl))
      try simp only [Act.put, List.setIfInBounds_toArray, List.set_cons_zero, List.set_cons_succ]
      refine rgTake (i := 20) (d := 12) (v := ?_) rfl rfl (by kernel_rfl) (by kernel_rfl) (by kernel_rfl) (fun _ _ _ h => h) (by rfl) ?_ (by assumption) ?_
      rotate_left
      · ((intro w hSw); (try dsimp only at hSw); go_simp; (try with_reducible rfl))
      try simp only [Act.put, List.setIfInBounds_toArray, List.set_cons_zero, List.set_cons_succ]
      refine wpAnyH_done (by kernel_rfl) ?_ _
      have G9 := hHeld.1.1.1.2
      clear hHeld K
      cases h1z : decide (at_ (fin m y) x < 0)
      · cases h2z : decide (at_ (fin m z) y < 0)
        · have g1 : 0 ≤ finV m y x := by have := of_decide_eq_false h1z; unfold finV; omega
          have g2 : 0 ≤ finV m z y := by have := of_decide_eq_false h2z; unfold finV; omega
          have e1 : dtOk m x y z = true := by unfold dtOk; rw [fv_nat, fv_nat, HA3.out]; simp; exact ⟨g1, g2⟩
          have e2 : dtV m x y z = at_ (fin m y) x + at_ (fin m z) y - at_ (fin m z) x := by unfold dtV; rw [e1, if_pos rfl, fv_nat, fv_nat, fv_nat]; rfl
          have E1 := Lib.hid e1
          have E2 := Lib.hid e2
          have p5 : IntKind.i64.wrap (at_ (fin m y) x + at_ (fin m z) y) = at_ (fin m y) x + at_ (fin m z) y := IntWalk.i64_in _ (by omega)
          have p6 : IntKind.i64.wrap (at_ (fin m y) x + at_ (fin m z) y - at_ (fin m z) x) = at_ (fin m y) x + at_ (fin m z) y - at_ (fin m z) x := IntWalk.i64_in _ (by omega)
          clear e1 e2 g1 g2
          go_wp2_with fail
          go_ret2
          exact ⟨by rw [E1.out, E2.out]; rfl, G9⟩
        · have e1 : dtOk m x y z = false := by
            unfold dtOk; rw [fv_nat, fv_nat]
            have := of_decide_eq_true h2z
            rw [show decide (0 ≤ finV m z y) = false by simp; exact this]; simp
          have e2 : dtV m x y z = 0 := by unfold dtV; rw [e1]; rfl
          have E1 := Lib.hid e1
          have E2 := Lib.hid e2
          clear e1 e2
          go_wp2_with fail
          go_ret2
          exact ⟨by rw [E1.out, E2.out]; rfl, G9⟩
      · have e1 : dtOk m x y z = false := by
          unfold dtOk; rw [fv_nat, fv_nat]
          have := of_decide_eq_true h1z
          rw [show decide (0 ≤ finV m y x) = false by simp; exact this]; simp
        have e2 : dtV m x y z = 0 := by unfold dtV; rw [e1]; rfl
        have E1 := Lib.hid e1
        have E2 := Lib.hid e2
        clear e1 e2
        go_wp2_with fail
        go_ret2
        exact ⟨by rw [E1.out, E2.out]; rfl, G9⟩
end Go.Proofs.Ytijmlagehdmfeaa
