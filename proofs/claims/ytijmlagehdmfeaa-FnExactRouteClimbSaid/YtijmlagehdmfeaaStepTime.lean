/- Contracts: StepTime of the program and of the reference. -/
import Derived.Test.YtijmlagehdmfeaaCellsNextTo
namespace Go.Proofs.Ytijmlagehdmfeaa
set_option linter.unusedVariables false
set_option linter.unusedSimpArgs false
open Go.RowKit
def stOk (m : Mp) (a b : Int) : Bool := okM m && opM m a && opM m b && decide (gapV m.wd a b = 1)
def stV (m : Mp) (a b : Int) : Int := if stOk m a b then stepV m a b else 0
set_option maxHeartbeats 1000000 in
theorem l1Has_any {A : Option Addr} {n c : Nat} {l : List Int} {x : Int} {w : World} (h : Rd w w.heap.size 1 A n (ints l)) (hn : n ≤ maxLen) :
    Calls Try.prog 67 #[.slice A n c, .int .i64 x] w fun e w' => e = .returned (.bool (decide (x ∈ l))) ∧ Below w.heap.size w w' := by
  unfold maxLen at hn
  have HX := Lib.hid h.len
  go_enter Try.func67, Try.ntmps67
  go_wp2
  go_loopw [5] (fun i wr => ∃ j : Nat, j ≤ n ∧ i = .int .i64 j ∧ x ∉ l.take j ∧ ∃ q, wr = w.drewN q) (fun i _ => n - (intOf i).toNat)
  case atStart => exact ⟨0, Nat.zero_le _, rfl, by simp, 0, rfl⟩
  case round =>
    obtain ⟨j, hj, rfl, hno, q, rfl⟩ := hrel
    have HN := Lib.hid hno
    clear hno
    by_cases hlt : j < n
    · obtain ⟨b, off, rfl, _, hca⟩ := h.int hlt
      have kx : j < l.length := by rw [HX.out]; exact hlt
      have ha := hca j kx
      clear hca
      by_cases he : l[j] = x
      · have hbe : (l[j] == x) = true := by simp [he]
        have HE := Lib.hid he
        clear he
        go_wp2
        try go_quiet (fail)
        try go_wp2
        go_ret
        exact ⟨ret_bool (by symm; rw [decide_eq_true_iff, ← HE.out]; exact List.getElem_mem kx), by first | exact below_drewN (Below.refl _ _) _ | exact (by repeat (first | exact Below.refl _ _ | refine below_drewN ?_ _ | refine Below.drew ?_ | refine Below.alloc ?_ (by first | omega | (simp; done) | (simp; omega)) _ | refine Below.setCell ?_ (by first | omega | (simp; done) | (simp; omega)) _))⟩
      · have hbe : (l[j] == x) = false := by simp [he]
        have HE := Lib.hid he
        clear he
        go_wp2
        try go_quiet (fail)
        try go_wp2
        go_roundw
        case rel => exact ⟨j + 1, by omega, by go_num, by rw [List.take_succ_eq_append_getElem kx, List.mem_append]; intro h'; rcases h' with h' | h'; exact HN.out h'; (simp at h'; exact HE.out h'.symm), _, by first | rfl | exact World.drewN_drewN _ _ _⟩
        case measure => simp [intOf]; omega
    · go_wp2
      go_ret
      exact ⟨ret_bool (by symm; rw [decide_eq_false_iff_not]; have := HN.out; rwa [List.take_of_length_le (by rw [HX.out]; omega)] at this), by first | exact below_drewN (Below.refl _ _) _ | exact (by repeat (first | exact Below.refl _ _ | refine below_drewN ?_ _ | refine Below.drew ?_ | refine Below.alloc ?_ (by first | omega | (simp; done) | (simp; omega)) _ | refine Below.setCell ?_ (by first | omega | (simp; done) | (simp; omega)) _))⟩
theorem gap_mem {m : Mp} {a b : Int} (ha : 0 ≤ a) (hb : opM m b = true) : decide (b ∈ nextI m a) = decide (gapV m.wd a b = 1) := by
  obtain ⟨⟨b0, b1⟩, b2⟩ := opM_iff.1 hb
  obtain ⟨a, rfl⟩ := Int.eq_ofNat_of_zero_le ha
  obtain ⟨b, rfl⟩ := Int.eq_ofNat_of_zero_le b0
  rw [decide_eq_decide]
  unfold nextI cast
  rw [Int.toNat_natCast, List.mem_map]
  constructor
  · rintro ⟨k, hk, e⟩
    have e' : k = b := by omega
    subst e'
    exact (mem_nextN.1 hk).2.2
  · intro h
    exact ⟨b, mem_nextN.2 ⟨by omega, b2, h⟩, rfl⟩
set_option maxHeartbeats 1000000 in
theorem StepTime_impl {m : Mp} {v : Value} {a b : Int} {w : World} (hv : MapIn w m v) :
    Calls Try.prog 30 #[v, .int .i64 a, .int .i64 b] w fun e w' => e = .returned (.tuple #[.int .i64 (stV m a b), .bool (stOk m a b)]) ∧ Below w.heap.size w w' := by
  have hv' := hv
  obtain ⟨A, n, cp, B, k, d, rfl, h1, h2, h3, h4⟩ := hv

  cases q1 : okM m && opM m a
  · have e1 : stOk m a b = false := by unfold stOk; rw [q1]; rfl
    have e2 : stV m a b = 0 := by unfold stV; rw [e1]; rfl
    rw [e1, e2]; clear e1 e2
    go_enter Try.func30, Try.ntmps30
    go_wp2_with fail
    refine (isOpen_any (m := m) (by exact hv'.on (by repeat (first | exact Below.refl _ _ | refine below_drewN ?_ _ | refine Below.drew ?_ | refine Below.alloc ?_ (by first | omega | (simp; done) | (simp; omega)) _ | refine Below.setCell ?_ (by first | omega | (simp; done) | (simp; omega)) _)))).mono ?_
    rintro e w1 ⟨rfl, hb⟩
    have G : Below w.heap.size w w1 := Below.trans (by repeat (first | exact Below.refl _ _ | refine below_drewN ?_ _ | refine Below.drew ?_ | refine Below.alloc ?_ (by first | omega | (simp; done) | (simp; omega)) _ | refine Below.setCell ?_ (by first | omega | (simp; done) | (simp; omega)) _)) (hb.mono (by first | omega | (simp; done) | (simp; omega)))
    have K := (Blk.new w 28 [.int .i64 m.wd, .int .i64 m.ht, .slice A n cp, .slice B k d]).on hb
    obtain ⟨k0, k1, k2, k3⟩ := blk4 K
    clear hb
    rw [q1]
    go_wp2_with fail
    go_ret2
    exact ⟨rfl, G⟩
  rw [Bool.and_eq_true] at q1
  obtain ⟨qo, qa⟩ := q1
  have V := valid_iff.1 qo
  obtain ⟨⟨a1, a2⟩, _⟩ := opM_iff.1 qa
  have hc36 := V.n36
  have R1 : Hid ((okM m && opM m a) = true) := by show _ = _; rw [qo, qa]; rfl
  cases q2 : opM m b
  · have e1 : stOk m a b = false := by unfold stOk; rw [q2]; simp
    have e2 : stV m a b = 0 := by unfold stV; rw [e1]; rfl
    have R2 : Hid ((okM m && opM m b) = false) := by show _ = _; rw [qo, q2]; rfl
    rw [e1, e2]; clear e1 e2 q2 qo qa
    go_enter Try.func30, Try.ntmps30
    go_wp2_with fail
    refine (isOpen_any (m := m) (by exact hv'.on (by repeat (first | exact Below.refl _ _ | refine below_drewN ?_ _ | refine Below.drew ?_ | refine Below.alloc ?_ (by first | omega | (simp; done) | (simp; omega)) _ | refine Below.setCell ?_ (by first | omega | (simp; done) | (simp; omega)) _)))).mono ?_
    rintro e w1 ⟨rfl, hb⟩
    have G : Below w.heap.size w w1 := Below.trans (by repeat (first | exact Below.refl _ _ | refine below_drewN ?_ _ | refine Below.drew ?_ | refine Below.alloc ?_ (by first | omega | (simp; done) | (simp; omega)) _ | refine Below.setCell ?_ (by first | omega | (simp; done) | (simp; omega)) _)) (hb.mono (by first | omega | (simp; done) | (simp; omega)))
    have K := (Blk.new w 28 [.int .i64 m.wd, .int .i64 m.ht, .slice A n cp, .slice B k d]).on hb
    obtain ⟨k0, k1, k2, k3⟩ := blk4 K
    clear hb
    rw [R1.out]
    go_wp2_with fail
    refine (isOpen_any (m := m) (hv'.on G)).mono ?_
    rintro e w2 ⟨rfl, hb⟩
    clear k0 k1 k2 k3
    replace G := G.trans (hb.mono G.size)
    replace K := K.on hb
    obtain ⟨k0, k1, k2, k3⟩ := blk4 K
    clear hb
    rw [R2.out]
    go_wp2_with fail
    go_ret2
    exact ⟨rfl, G⟩
  obtain ⟨⟨b1, b2⟩, _⟩ := opM_iff.1 q2
  have R2 : Hid ((okM m && opM m b) = true) := by show _ = _; rw [qo, q2]; rfl
  have vw1 := V.w1
  have vw6 := V.w6
  by_cases q3 : gapV m.wd a b = 1
  · have e1 : stOk m a b = true := by unfold stOk; rw [qo, qa, q2]; simp [q3]
    have e2 : stV m a b = stepV m a b := by unfold stV; rw [e1]; rfl
    have r3 : (gapV m.wd a b != 1) = false := by simp [q3]
    rw [e1, e2]; clear e1 e2 q2 qo qa q3
    go_enter Try.func30, Try.ntmps30
    go_wp2_with fail
    refine (isOpen_any (m := m) (by exact hv'.on (by repeat (first | exact Below.refl _ _ | refine below_drewN ?_ _ | refine Below.drew ?_ | refine Below.alloc ?_ (by first | omega | (simp; done) | (simp; omega)) _ | refine Below.setCell ?_ (by first | omega | (simp; done) | (simp; omega)) _)))).mono ?_
    rintro e w1 ⟨rfl, hb⟩
    have G : Below w.heap.size w w1 := Below.trans (by repeat (first | exact Below.refl _ _ | refine below_drewN ?_ _ | refine Below.drew ?_ | refine Below.alloc ?_ (by first | omega | (simp; done) | (simp; omega)) _ | refine Below.setCell ?_ (by first | omega | (simp; done) | (simp; omega)) _)) (hb.mono (by first | omega | (simp; done) | (simp; omega)))
    have K := (Blk.new w 28 [.int .i64 m.wd, .int .i64 m.ht, .slice A n cp, .slice B k d]).on hb
    obtain ⟨k0, k1, k2, k3⟩ := blk4 K
    clear hb
    rw [R1.out]
    go_wp2_with fail
    refine (isOpen_any (m := m) (hv'.on G)).mono ?_
    rintro e w2 ⟨rfl, hb⟩
    clear k0 k1 k2 k3
    replace G := G.trans (hb.mono G.size)
    replace K := K.on hb
    obtain ⟨k0, k1, k2, k3⟩ := blk4 K
    clear hb
    rw [R2.out]
    go_wp2_with fail
    refine (gapOf_any (m := m) (hv'.on G) vw1 vw6 a1 (by omega) b1 (by omega)).mono ?_
    rintro e w3 ⟨rfl, hb⟩
    clear k0 k1 k2 k3
    replace G := G.trans (hb.mono G.size)
    replace K := K.on hb
    obtain ⟨k0, k1, k2, k3⟩ := blk4 K
    clear hb
    go_wp2_with fail
    refine (stepTime_any (m := m) (hv'.on G) V a1 a2 b1 b2).mono ?_
    rintro e w4 ⟨rfl, hb⟩
    clear k0 k1 k2 k3
    replace G := G.trans (hb.mono G.size)
    replace K := K.on hb
    obtain ⟨k0, k1, k2, k3⟩ := blk4 K
    clear hb
    go_wp2_with fail
    go_ret2
    exact ⟨rfl, G⟩
  · have e1 : stOk m a b = false := by unfold stOk; simp [q3]
    have e2 : stV m a b = 0 := by unfold stV; rw [e1]; rfl
    have r3 : (gapV m.wd a b != 1) = true := by simp [q3]
    rw [e1, e2]; clear e1 e2 q2 qo qa q3
    go_enter Try.func30, Try.ntmps30
    go_wp2_with fail
    refine (isOpen_any (m := m) (by exact hv'.on (by repeat (first | exact Below.refl _ _ | refine below_drewN ?_ _ | refine Below.drew ?_ | refine Below.alloc ?_ (by first | omega | (simp; done) | (simp; omega)) _ | refine Below.setCell ?_ (by first | omega | (simp; done) | (simp; omega)) _)))).mono ?_
    rintro e w1 ⟨rfl, hb⟩
    have G : Below w.heap.size w w1 := Below.trans (by repeat (first | exact Below.refl _ _ | refine below_drewN ?_ _ | refine Below.drew ?_ | refine Below.alloc ?_ (by first | omega | (simp; done) | (simp; omega)) _ | refine Below.setCell ?_ (by first | omega | (simp; done) | (simp; omega)) _)) (hb.mono (by first | omega | (simp; done) | (simp; omega)))
    have K := (Blk.new w 28 [.int .i64 m.wd, .int .i64 m.ht, .slice A n cp, .slice B k d]).on hb
    obtain ⟨k0, k1, k2, k3⟩ := blk4 K
    clear hb
    rw [R1.out]
    go_wp2_with fail
    refine (isOpen_any (m := m) (hv'.on G)).mono ?_
    rintro e w2 ⟨rfl, hb⟩
    clear k0 k1 k2 k3
    replace G := G.trans (hb.mono G.size)
    replace K := K.on hb
    obtain ⟨k0, k1, k2, k3⟩ := blk4 K
    clear hb
    rw [R2.out]
    go_wp2_with fail
    refine (gapOf_any (m := m) (hv'.on G) vw1 vw6 a1 (by omega) b1 (by omega)).mono ?_
    rintro e w3 ⟨rfl, hb⟩
    clear k0 k1 k2 k3
    replace G := G.trans (hb.mono G.size)
    replace K := K.on hb
    obtain ⟨k0, k1, k2, k3⟩ := blk4 K
    clear hb
    go_wp2_with fail
    go_ret2
    exact ⟨rfl, G⟩
set_option maxHeartbeats 1000000 in
theorem StepTime_spec {m : Mp} {v : Value} {a b : Int} {w : World} (hv : MapIn w m v) :
    Calls Try.prog 29 #[v, .int .i64 a, .int .i64 b] w fun e w' => e = .returned (.tuple #[.int .i64 (stV m a b), .bool (stOk m a b)]) ∧ Below w.heap.size w w' := by
  have hv' := hv
  obtain ⟨A, n, cp, B, k, d, rfl, h1, h2, h3, h4⟩ := hv

  cases qo : okM m
  · have e1 : stOk m a b = false := by unfold stOk; rw [qo]; rfl
    have e2 : stV m a b = 0 := by unfold stV; rw [e1]; rfl
    rw [e1, e2]; clear e1 e2
    go_enter Try.func29, Try.ntmps29
    go_wp2_with fail
    refine (l2Map_m (m := m) (by exact hv'.on (by repeat (first | exact Below.refl _ _ | refine below_drewN ?_ _ | refine Below.drew ?_ | refine Below.alloc ?_ (by first | omega | (simp; done) | (simp; omega)) _ | refine Below.setCell ?_ (by first | omega | (simp; done) | (simp; omega)) _)))).mono ?_
    rintro e w1 ⟨rfl, hb⟩
    have G : Below w.heap.size w w1 := Below.trans (by repeat (first | exact Below.refl _ _ | refine below_drewN ?_ _ | refine Below.drew ?_ | refine Below.alloc ?_ (by first | omega | (simp; done) | (simp; omega)) _ | refine Below.setCell ?_ (by first | omega | (simp; done) | (simp; omega)) _)) (hb.mono (by first | omega | (simp; done) | (simp; omega)))
    have K := (Blk.new w 28 [.int .i64 m.wd, .int .i64 m.ht, .slice A n cp, .slice B k d]).on hb
    obtain ⟨k0, k1, k2, k3⟩ := blk4 K
    clear hb
    rw [qo]
    go_wp2_with fail
    go_ret2
    exact ⟨rfl, G⟩
  have V := valid_iff.1 qo
  cases qa : opM m a
  · have e1 : stOk m a b = false := by unfold stOk; rw [qa]; simp
    have e2 : stV m a b = 0 := by unfold stV; rw [e1]; rfl
    rw [e1, e2]; clear e1 e2
    go_enter Try.func29, Try.ntmps29
    go_wp2_with fail
    refine (l2Map_m (m := m) (by exact hv'.on (by repeat (first | exact Below.refl _ _ | refine below_drewN ?_ _ | refine Below.drew ?_ | refine Below.alloc ?_ (by first | omega | (simp; done) | (simp; omega)) _ | refine Below.setCell ?_ (by first | omega | (simp; done) | (simp; omega)) _)))).mono ?_
    rintro e w1 ⟨rfl, hb⟩
    have G : Below w.heap.size w w1 := Below.trans (by repeat (first | exact Below.refl _ _ | refine below_drewN ?_ _ | refine Below.drew ?_ | refine Below.alloc ?_ (by first | omega | (simp; done) | (simp; omega)) _ | refine Below.setCell ?_ (by first | omega | (simp; done) | (simp; omega)) _)) (hb.mono (by first | omega | (simp; done) | (simp; omega)))
    have K := (Blk.new w 28 [.int .i64 m.wd, .int .i64 m.ht, .slice A n cp, .slice B k d]).on hb
    obtain ⟨k0, k1, k2, k3⟩ := blk4 K
    clear hb
    rw [qo]
    go_wp2_with fail
    refine (l2Open_any (m := m) (hv'.on G) V).mono ?_
    rintro e w2 ⟨rfl, hb⟩
    clear k0 k1 k2 k3
    replace G := G.trans (hb.mono G.size)
    replace K := K.on hb
    obtain ⟨k0, k1, k2, k3⟩ := blk4 K
    clear hb
    rw [qa]
    go_wp2_with fail
    go_ret2
    exact ⟨rfl, G⟩
  obtain ⟨⟨a1, a2⟩, _⟩ := opM_iff.1 qa
  cases q2 : opM m b
  · have e1 : stOk m a b = false := by unfold stOk; rw [q2]; simp
    have e2 : stV m a b = 0 := by unfold stV; rw [e1]; rfl
    rw [e1, e2]; clear e1 e2
    go_enter Try.func29, Try.ntmps29
    go_wp2_with fail
    refine (l2Map_m (m := m) (by exact hv'.on (by repeat (first | exact Below.refl _ _ | refine below_drewN ?_ _ | refine Below.drew ?_ | refine Below.alloc ?_ (by first | omega | (simp; done) | (simp; omega)) _ | refine Below.setCell ?_ (by first | omega | (simp; done) | (simp; omega)) _)))).mono ?_
    rintro e w1 ⟨rfl, hb⟩
    have G : Below w.heap.size w w1 := Below.trans (by repeat (first | exact Below.refl _ _ | refine below_drewN ?_ _ | refine Below.drew ?_ | refine Below.alloc ?_ (by first | omega | (simp; done) | (simp; omega)) _ | refine Below.setCell ?_ (by first | omega | (simp; done) | (simp; omega)) _)) (hb.mono (by first | omega | (simp; done) | (simp; omega)))
    have K := (Blk.new w 28 [.int .i64 m.wd, .int .i64 m.ht, .slice A n cp, .slice B k d]).on hb
    obtain ⟨k0, k1, k2, k3⟩ := blk4 K
    clear hb
    rw [qo]
    go_wp2_with fail
    refine (l2Open_any (m := m) (hv'.on G) V).mono ?_
    rintro e w2 ⟨rfl, hb⟩
    clear k0 k1 k2 k3
    replace G := G.trans (hb.mono G.size)
    replace K := K.on hb
    obtain ⟨k0, k1, k2, k3⟩ := blk4 K
    clear hb
    rw [qa]
    go_wp2_with fail
    refine (l2Open_any (m := m) (hv'.on G) V).mono ?_
    rintro e w3 ⟨rfl, hb⟩
    clear k0 k1 k2 k3
    replace G := G.trans (hb.mono G.size)
    replace K := K.on hb
    obtain ⟨k0, k1, k2, k3⟩ := blk4 K
    clear hb
    rw [q2]
    go_wp2_with fail
    go_ret2
    exact ⟨rfl, G⟩
  obtain ⟨⟨b1, b2⟩, _⟩ := opM_iff.1 q2
  have hn36 : (nextI m a).length ≤ maxLen := by unfold nextI; rw [cast_len]; have := nextN_len V a.toNat; simp only [maxLen]; omega
  have gm := gap_mem (m := m) a1 q2
  cases q3 : decide (gapV m.wd a b = 1)
  · have e1 : stOk m a b = false := by unfold stOk; rw [qo, qa, q2, q3]; rfl
    have e2 : stV m a b = 0 := by unfold stV; rw [e1]; rfl
    rw [q3] at gm
    have GM := Lib.hid gm
    have Q3 := Lib.hid q3
    rw [e1, e2]; clear e1 e2 gm q3
    go_enter Try.func29, Try.ntmps29
    go_wp2_with fail
    refine (l2Map_m (m := m) (by exact hv'.on (by repeat (first | exact Below.refl _ _ | refine below_drewN ?_ _ | refine Below.drew ?_ | refine Below.alloc ?_ (by first | omega | (simp; done) | (simp; omega)) _ | refine Below.setCell ?_ (by first | omega | (simp; done) | (simp; omega)) _)))).mono ?_
    rintro e w1 ⟨rfl, hb⟩
    have G : Below w.heap.size w w1 := Below.trans (by repeat (first | exact Below.refl _ _ | refine below_drewN ?_ _ | refine Below.drew ?_ | refine Below.alloc ?_ (by first | omega | (simp; done) | (simp; omega)) _ | refine Below.setCell ?_ (by first | omega | (simp; done) | (simp; omega)) _)) (hb.mono (by first | omega | (simp; done) | (simp; omega)))
    have K := (Blk.new w 28 [.int .i64 m.wd, .int .i64 m.ht, .slice A n cp, .slice B k d]).on hb
    obtain ⟨k0, k1, k2, k3⟩ := blk4 K
    clear hb
    rw [qo]
    go_wp2_with fail
    refine (l2Open_any (m := m) (hv'.on G) V).mono ?_
    rintro e w2 ⟨rfl, hb⟩
    clear k0 k1 k2 k3
    replace G := G.trans (hb.mono G.size)
    replace K := K.on hb
    obtain ⟨k0, k1, k2, k3⟩ := blk4 K
    clear hb
    rw [qa]
    go_wp2_with fail
    refine (l2Open_any (m := m) (hv'.on G) V).mono ?_
    rintro e w3 ⟨rfl, hb⟩
    clear k0 k1 k2 k3
    replace G := G.trans (hb.mono G.size)
    replace K := K.on hb
    obtain ⟨k0, k1, k2, k3⟩ := blk4 K
    clear hb
    rw [q2]
    go_wp2_with fail
    refine (l2Next_any (m := m) (hv'.on G) V a1 a2).mono ?_
    rintro e w4 ⟨A', c', rfl, O, hb⟩
    clear k0 k1 k2 k3
    replace G := G.trans (hb.mono G.size)
    replace K := K.on hb
    clear hb
    go_wp2_with fail
    refine (l1Has_any (Rd.of_own O) hn36).mono ?_
    rintro e w5 ⟨rfl, hb⟩
    rw [GM.out]
    replace G := G.trans (hb.mono G.size)
    replace K := K.on hb
    obtain ⟨k0, k1, k2, k3⟩ := blk4 K
    clear hb
    go_wp2_with fail
    go_ret2
    exact ⟨rfl, G⟩
  · have e1 : stOk m a b = true := by unfold stOk; rw [qo, qa, q2, q3]; rfl
    have e2 : stV m a b = stepV m a b := by unfold stV; rw [e1]; rfl
    rw [q3] at gm
    have GM := Lib.hid gm
    have Q3 := Lib.hid q3
    rw [e1, e2]; clear e1 e2 gm q3
    go_enter Try.func29, Try.ntmps29
    go_wp2_with fail
    refine (l2Map_m (m := m) (by exact hv'.on (by repeat (first | exact Below.refl _ _ | refine below_drewN ?_ _ | refine Below.drew ?_ | refine Below.alloc ?_ (by first | omega | (simp; done) | (simp; omega)) _ | refine Below.setCell ?_ (by first | omega | (simp; done) | (simp; omega)) _)))).mono ?_
    rintro e w1 ⟨rfl, hb⟩
    have G : Below w.heap.size w w1 := Below.trans (by repeat (first | exact Below.refl _ _ | refine below_drewN ?_ _ | refine Below.drew ?_ | refine Below.alloc ?_ (by first | omega | (simp; done) | (simp; omega)) _ | refine Below.setCell ?_ (by first | omega | (simp; done) | (simp; omega)) _)) (hb.mono (by first | omega | (simp; done) | (simp; omega)))
    have K := (Blk.new w 28 [.int .i64 m.wd, .int .i64 m.ht, .slice A n cp, .slice B k d]).on hb
    obtain ⟨k0, k1, k2, k3⟩ := blk4 K
    clear hb
    rw [qo]
    go_wp2_with fail
    refine (l2Open_any (m := m) (hv'.on G) V).mono ?_
    rintro e w2 ⟨rfl, hb⟩
    clear k0 k1 k2 k3
    replace G := G.trans (hb.mono G.size)
    replace K := K.on hb
    obtain ⟨k0, k1, k2, k3⟩ := blk4 K
    clear hb
    rw [qa]
    go_wp2_with fail
    refine (l2Open_any (m := m) (hv'.on G) V).mono ?_
    rintro e w3 ⟨rfl, hb⟩
    clear k0 k1 k2 k3
    replace G := G.trans (hb.mono G.size)
    replace K := K.on hb
    obtain ⟨k0, k1, k2, k3⟩ := blk4 K
    clear hb
    rw [q2]
    go_wp2_with fail
    refine (l2Next_any (m := m) (hv'.on G) V a1 a2).mono ?_
    rintro e w4 ⟨A', c', rfl, O, hb⟩
    clear k0 k1 k2 k3
    replace G := G.trans (hb.mono G.size)
    replace K := K.on hb
    clear hb
    go_wp2_with fail
    refine (l1Has_any (Rd.of_own O) hn36).mono ?_
    rintro e w5 ⟨rfl, hb⟩
    rw [GM.out]
    replace G := G.trans (hb.mono G.size)
    replace K := K.on hb
    obtain ⟨k0, k1, k2, k3⟩ := blk4 K
    clear hb
    go_wp2_with fail
    refine (l2Step_any (m := m) (hv'.on G) V a1 a2 b1 b2).mono ?_
    rintro e w6 ⟨rfl, hb⟩
    replace G := G.trans (hb.mono G.size)
    go_wp2_with fail
    go_ret2
    exact ⟨rfl, G⟩
end Go.Proofs.Ytijmlagehdmfeaa
