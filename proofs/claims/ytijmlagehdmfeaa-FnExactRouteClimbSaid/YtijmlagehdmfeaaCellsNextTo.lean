/- Contracts: CellsNextTo and StepTime of the program and of the reference. -/
import Derived.Test.YtijmlagehdmfeaaL2Next
namespace Go.Proofs.Ytijmlagehdmfeaa
set_option linter.unusedVariables false
set_option linter.unusedSimpArgs false
open Go.RowKit
def cntOk (m : Mp) (c : Int) : Bool := okM m && inM m c
def cntR (m : Mp) (c : Int) : List Int := if cntOk m c then nextI m c else []
theorem cntR_36 (m : Mp) (c : Int) : (cntR m c).length ≤ 36 := by
  unfold cntR cntOk
  split
  · next h =>
    rw [Bool.and_eq_true, valid_iff] at h
    unfold nextI; rw [cast_len]; exact nextN_len h.1 _
  · simp
theorem cntR_b (m : Mp) (c : Int) : (cntR m c).length ≤ 1000 := by have := cntR_36 m c; omega
set_option maxHeartbeats 1000000 in
theorem CellsNextTo_impl {m : Mp} {v : Value} {c : Int} {w : World} (hv : MapIn w m v) :
    Calls Try.prog 32 #[v, .int .i64 c] w fun e w' => ∃ A cp, e = .returned (.tuple #[.slice A (cntR m c).length cp, .bool (cntOk m c)]) ∧ w'.ownsRow w.heap.size 3 1 (.slice A (cntR m c).length cp) (cntR m c).length (ints (cntR m c)) ∧ Below w.heap.size w w' := by
  have hv' := hv
  obtain ⟨A, n, cp, B, k, d, rfl, h1, h2, h3, h4⟩ := hv
  cases hok : okM m && inM m c
  · have e1 : cntOk m c = false := hok
    have e2 : cntR m c = [] := by unfold cntR; rw [e1]; rfl
    rw [e1, e2]
    clear e1 e2
    go_enter Try.func32, Try.ntmps32
    go_wp2_with fail
    refine (isCell_any (m := m) (by exact hv'.on (by repeat (first | exact Below.refl _ _ | refine below_drewN ?_ _ | refine Below.drew ?_ | refine Below.alloc ?_ (by first | omega | (simp; done) | (simp; omega)) _ | refine Below.setCell ?_ (by first | omega | (simp; done) | (simp; omega)) _)))).mono ?_
    rintro e w1 ⟨rfl, hb1⟩
    rw [hok]
    go_wp2_with fail
    go_ret2
    exact ⟨none, 0, rfl, World.ownsRow_nil _ _ _ _, Below.trans (by repeat (first | exact Below.refl _ _ | refine below_drewN ?_ _ | refine Below.drew ?_ | refine Below.alloc ?_ (by first | omega | (simp; done) | (simp; omega)) _ | refine Below.setCell ?_ (by first | omega | (simp; done) | (simp; omega)) _)) (hb1.mono (by first | omega | (simp; done) | (simp; omega)))⟩
  · have e1 : cntOk m c = true := hok
    have e2 : cntR m c = nextI m c := by unfold cntR; rw [e1]; rfl
    rw [e1, e2]
    have hok' := hok
    rw [Bool.and_eq_true, valid_iff, inM_iff] at hok'
    obtain ⟨V, o2, o3⟩ := hok'
    have HO := Lib.hid hok
    clear e1 e2 hok
    go_enter Try.func32, Try.ntmps32
    go_wp2_with fail
    refine (isCell_any (m := m) (by exact hv'.on (by repeat (first | exact Below.refl _ _ | refine below_drewN ?_ _ | refine Below.drew ?_ | refine Below.alloc ?_ (by first | omega | (simp; done) | (simp; omega)) _ | refine Below.setCell ?_ (by first | omega | (simp; done) | (simp; omega)) _)))).mono ?_
    rintro e w1 ⟨rfl, hb1⟩
    rw [HO.out]
    obtain ⟨k0, k1, k2, k3⟩ := blk4 ((Blk.new w 28 [.int .i64 m.wd, .int .i64 m.ht, .slice A n cp, .slice B k d]).on hb1)
    have G : Below w.heap.size w w1 := Below.trans (by repeat (first | exact Below.refl _ _ | refine below_drewN ?_ _ | refine Below.drew ?_ | refine Below.alloc ?_ (by first | omega | (simp; done) | (simp; omega)) _ | refine Below.setCell ?_ (by first | omega | (simp; done) | (simp; omega)) _)) (hb1.mono (by first | omega | (simp; done) | (simp; omega)))
    go_wp2_with fail
    refine (cellsNextTo_any (m := m) (hv'.on G) V o2 o3).mono ?_
    rintro e w2 ⟨A', c', rfl, O, hb2⟩
    go_wp2_with fail
    go_ret2
    exact ⟨A', c', rfl, own_le O G.size, G.trans (hb2.mono G.size)⟩
set_option maxHeartbeats 1000000 in
theorem CellsNextTo_spec {m : Mp} {v : Value} {c : Int} {w : World} (hv : MapIn w m v) :
    Calls Try.prog 31 #[v, .int .i64 c] w fun e w' => ∃ A cp, e = .returned (.tuple #[.slice A (cntR m c).length cp, .bool (cntOk m c)]) ∧ w'.ownsRow w.heap.size 3 1 (.slice A (cntR m c).length cp) (cntR m c).length (ints (cntR m c)) ∧ Below w.heap.size w w' := by
  have hv' := hv
  obtain ⟨A, n, cp, B, k, d, rfl, h1, h2, h3, h4⟩ := hv
  cases hok : okM m
  · have e1 : cntOk m c = false := by unfold cntOk; rw [hok]; rfl
    have e2 : cntR m c = [] := by unfold cntR; rw [e1]; rfl
    rw [e1, e2]
    clear e1 e2
    go_enter Try.func31, Try.ntmps31
    go_wp2_with fail
    refine (l2Map_m (m := m) (by exact hv'.on (by repeat (first | exact Below.refl _ _ | refine below_drewN ?_ _ | refine Below.drew ?_ | refine Below.alloc ?_ (by first | omega | (simp; done) | (simp; omega)) _ | refine Below.setCell ?_ (by first | omega | (simp; done) | (simp; omega)) _)))).mono ?_
    rintro e w1 ⟨rfl, hb1⟩
    rw [hok]
    go_wp2_with fail
    go_ret2
    have G : Below w.heap.size w w1 := Below.trans (by repeat (first | exact Below.refl _ _ | refine below_drewN ?_ _ | refine Below.drew ?_ | refine Below.alloc ?_ (by first | omega | (simp; done) | (simp; omega)) _ | refine Below.setCell ?_ (by first | omega | (simp; done) | (simp; omega)) _)) (hb1.mono (by first | omega | (simp; done) | (simp; omega)))
    exact ⟨_, 0, rfl, World.ownsRow_lit w1 #[] 0 G.size (by simp) rfl, G.alloc G.size _⟩
  · have V := valid_iff.1 hok
    have HO := Lib.hid hok
    cases hin : inM m c
    · have e1 : cntOk m c = false := by unfold cntOk; rw [hin]; simp
      have e2 : cntR m c = [] := by unfold cntR; rw [e1]; rfl
      rw [e1, e2]
      clear e1 e2 hok
      go_enter Try.func31, Try.ntmps31
      go_wp2_with fail
      refine (l2Map_m (m := m) (by exact hv'.on (by repeat (first | exact Below.refl _ _ | refine below_drewN ?_ _ | refine Below.drew ?_ | refine Below.alloc ?_ (by first | omega | (simp; done) | (simp; omega)) _ | refine Below.setCell ?_ (by first | omega | (simp; done) | (simp; omega)) _)))).mono ?_
      rintro e w1 ⟨rfl, hb1⟩
      rw [HO.out]
      obtain ⟨k0, k1, k2, k3⟩ := blk4 ((Blk.new w 28 [.int .i64 m.wd, .int .i64 m.ht, .slice A n cp, .slice B k d]).on hb1)
      have G : Below w.heap.size w w1 := Below.trans (by repeat (first | exact Below.refl _ _ | refine below_drewN ?_ _ | refine Below.drew ?_ | refine Below.alloc ?_ (by first | omega | (simp; done) | (simp; omega)) _ | refine Below.setCell ?_ (by first | omega | (simp; done) | (simp; omega)) _)) (hb1.mono (by first | omega | (simp; done) | (simp; omega)))
      go_wp2_with fail
      refine (l2Cell_any (m := m) (hv'.on G) V).mono ?_
      rintro e w2 ⟨rfl, hb2⟩
      rw [hin]
      have G2 := G.trans (hb2.mono G.size)
      go_wp2_with fail
      go_ret2
      exact ⟨_, 0, rfl, World.ownsRow_lit w2 #[] 0 G2.size (by simp) rfl, G2.alloc G2.size _⟩
    · have e1 : cntOk m c = true := by unfold cntOk; rw [hin, hok]; rfl
      have e2 : cntR m c = nextI m c := by unfold cntR; rw [e1]; rfl
      obtain ⟨o2, o3⟩ := inM_iff.1 hin
      have HI := Lib.hid hin
      rw [e1, e2]
      clear e1 e2 hok hin
      go_enter Try.func31, Try.ntmps31
      go_wp2_with fail
      refine (l2Map_m (m := m) (by exact hv'.on (by repeat (first | exact Below.refl _ _ | refine below_drewN ?_ _ | refine Below.drew ?_ | refine Below.alloc ?_ (by first | omega | (simp; done) | (simp; omega)) _ | refine Below.setCell ?_ (by first | omega | (simp; done) | (simp; omega)) _)))).mono ?_
      rintro e w1 ⟨rfl, hb1⟩
      rw [HO.out]
      have K1 := (Blk.new w 28 [.int .i64 m.wd, .int .i64 m.ht, .slice A n cp, .slice B k d]).on hb1
      obtain ⟨k0, k1, k2, k3⟩ := blk4 K1
      have G : Below w.heap.size w w1 := Below.trans (by repeat (first | exact Below.refl _ _ | refine below_drewN ?_ _ | refine Below.drew ?_ | refine Below.alloc ?_ (by first | omega | (simp; done) | (simp; omega)) _ | refine Below.setCell ?_ (by first | omega | (simp; done) | (simp; omega)) _)) (hb1.mono (by first | omega | (simp; done) | (simp; omega)))
      go_wp2_with fail
      refine (l2Cell_any (m := m) (hv'.on G) V).mono ?_
      rintro e w2 ⟨rfl, hb2⟩
      rw [HI.out]
      have G2 := G.trans (hb2.mono G.size)
      clear k0 k1 k2 k3
      obtain ⟨k0, k1, k2, k3⟩ := blk4 (K1.on hb2)
      go_wp2_with fail
      refine (l2Next_any (m := m) (hv'.on G2) V o2 o3).mono ?_
      rintro e w3 ⟨A', c', rfl, O, hb3⟩
      go_wp2_with fail
      go_ret2
      exact ⟨A', c', rfl, own_le O G2.size, G2.trans (hb3.mono G2.size)⟩
end Go.Proofs.Ytijmlagehdmfeaa
