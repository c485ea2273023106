/- Contracts: LeastTime, the program's and the reference's. -/
import Derived.Test.YtijmlagehdmfeaaCanRoute
namespace Go.Proofs.Ytijmlagehdmfeaa
set_option linter.unusedVariables false
set_option linter.unusedSimpArgs false
open Go.RowKit
def asked (m : Mp) (a b : Int) : Bool := okM m && opM m a && opM m b
def fv (m : Mp) (b a : Int) : Int := finV m b.toNat a.toNat
def ltOk (m : Mp) (a b : Int) : Bool := asked m a b && decide (0 ≤ fv m b a)
def ltV (m : Mp) (a b : Int) : Int := if ltOk m a b = true then fv m b a else 0
theorem asked_cases {m : Mp} {a b : Int} (h : asked m a b = true) : Valid m ∧ (∃ x : Nat, a = x ∧ x < m.co.length ∧ opM m x = true) ∧ (∃ x : Nat, b = x ∧ x < m.co.length ∧ opM m x = true) := by
  unfold asked at h
  rw [Bool.and_eq_true, Bool.and_eq_true] at h
  obtain ⟨⟨h1, h2⟩, h3⟩ := h
  have g2 := (opM_iff.1 h2).1
  have g3 := (opM_iff.1 h3).1
  obtain ⟨x, rfl⟩ := Int.eq_ofNat_of_zero_le g2.1
  obtain ⟨y, rfl⟩ := Int.eq_ofNat_of_zero_le g3.1
  exact ⟨valid_iff.1 h1, ⟨x, rfl, by omega, h2⟩, ⟨y, rfl, by omega, h3⟩⟩
theorem asked2 (m : Mp) (a b : Int) : (!([a, b].any fun x => !(okM m && opM m x))) = asked m a b := by
  unfold asked
  simp only [List.any_cons, List.any_nil]
  cases okM m <;> cases opM m a <;> cases opM m b <;> rfl
theorem enc_eq {x : Int} (h : x ≤ 1440) : (enc x == 1073741824) = decide (x < 0) := by
  unfold enc
  by_cases e : x < 0
  · rw [if_pos e]; simp [e]
  · rw [if_neg e]; rw [Bool.eq_iff_iff]; simp; omega
theorem canRoute_2 {m : Mp} {v : Value} {A : Option Addr} {a b : Int} {cq : Nat} {w : World} (hv : MapIn w m v) (hR : Rd w w.heap.size 1 A 2 (ints [a, b])) :
    Calls Try.prog 83 #[v, .slice A 2 cq] w fun e w' => e = .returned (.bool (asked m a b)) ∧ Below w.heap.size w w' := by
  have := canRoute_any (l := [a, b]) (cq := cq) hv hR (by simp only [maxLen]; omega)
  rw [asked2] at this
  exact this
set_option maxRecDepth 100000 in
set_option maxHeartbeats 400000 in
theorem LeastTime_impl {m : Mp} {v : Value} {a b : Int} {w : World} (hv : MapIn w m v) :
    Calls Try.prog 44 #[v, .int .i64 a, .int .i64 b] w fun e w' => e = .returned (.tuple #[.int .i64 (ltV m a b), .bool (ltOk m a b)]) ∧ Below w.heap.size w w' := by
  have hv' := hv
  obtain ⟨A, n, cp, B, k, d, rfl, h1, h2, h3, h4⟩ := hv
  have K := (Blk.new w 28 [.int .i64 m.wd, .int .i64 m.ht, .slice A n cp, .slice B k d]).alloc (.cells #[.int .i64 a, .int .i64 b] 3)
  have G : Below w.heap.size w ((w.alloc (.cells #[.int .i64 m.wd, .int .i64 m.ht, .slice A n cp, .slice B k d] 28)).alloc (.cells #[.int .i64 a, .int .i64 b] 3)) := (by repeat (first | exact Below.refl _ _ | refine below_drewN ?_ _ | refine Below.drew ?_ | refine Below.alloc ?_ (by first | omega | (simp; done) | (simp; omega)) _ | refine Below.setCell ?_ (by first | omega | (simp; done) | (simp; omega)) _))
  have hsz : (w.alloc (.cells #[.int .i64 m.wd, .int .i64 m.ht, .slice A n cp, .slice B k d] 28)).heap.size = w.heap.size + 1 := by simp
  have L0 := (Blk.new (w.alloc (.cells #[.int .i64 m.wd, .int .i64 m.ht, .slice A n cp, .slice B k d] 28)) 3 (ints [a, b])).rd (size := 1) (n := 2) rfl
  have L : Rd ((w.alloc (.cells #[.int .i64 m.wd, .int .i64 m.ht, .slice A n cp, .slice B k d] 28)).alloc (.cells #[.int .i64 a, .int .i64 b] 3)) ((w.alloc (.cells #[.int .i64 m.wd, .int .i64 m.ht, .slice A n cp, .slice B k d] 28)).alloc (.cells #[.int .i64 a, .int .i64 b] 3)).heap.size 1 (some ⟨w.heap.size + 1, 0, none⟩) 2 (ints [a, b]) := by rw [← hsz]; exact L0
  clear L0 hsz
  have HA2 := Lib.hid (asked2 m a b)
  cases ha : asked m a b
  · have e1 : ltOk m a b = false := by unfold ltOk; rw [ha]; rfl
    have e2 : ltV m a b = 0 := by unfold ltV; rw [e1]; rfl
    rw [e1, e2]; clear e1 e2
    have HA := Lib.hid ha
    clear ha
    go_enter Try.func44, Try.ntmps44
    go_wp2_with fail
    refine (canRoute_2 (m := m) (hv'.on G) L).mono ?_
    rintro e w1 ⟨rfl, hb1⟩
    rw [HA.out]
    go_wp2_with fail
    go_ret2
    exact ⟨rfl, G.trans (hb1.mono G.size)⟩
  · obtain ⟨V, ⟨x, rfl, hx, ox⟩, ⟨y, rfl, hy, oy⟩⟩ := asked_cases ha
    have HA := Lib.hid ha
    have hhi := finV_hi V hy hx
    have HF : Hid (fv m y x = finV m y x) := by show _ = _; simp [fv]
    cases hz : decide (finV m y x < 0)
    · have e1 : ltOk m x y = true := by unfold ltOk; rw [ha, HF.out]; simpa using hz
      have e2 : ltV m x y = enc (finV m y x) := by unfold ltV; rw [e1, if_pos rfl, HF.out]; unfold enc; rw [if_neg (by simpa using hz)]
      have e3 : (enc (finV m y x) == 1073741824) = false := by rw [enc_eq hhi, hz]
      rw [e1, e2]; clear e1 e2 ha
      go_enter Try.func44, Try.ntmps44
      go_wp2_with fail
      refine (canRoute_2 (m := m) (hv'.on G) L).mono ?_
      rintro e w1 ⟨rfl, hb1⟩
      rw [HA.out]
      have K1 := K.on hb1
      have G1 := G.trans (hb1.mono G.size)
      obtain ⟨k0, k1, k2, k3⟩ := blk4 K1
      go_wp2_with fail
      refine (leastTime_any (m := m) (hv'.on G1) V hx hy).mono ?_
      rintro e w2 ⟨rfl, hb2⟩
      clear k0 k1 k2 k3
      have K2 := K1.on hb2
      have G2 := G1.trans (hb2.mono G1.size)
      obtain ⟨k0, k1, k2, k3⟩ := blk4 K2
      go_wp2_with fail
      refine (leastTime_any (m := m) (hv'.on G2) V hx hy).mono ?_
      rintro e w3 ⟨rfl, hb3⟩
      go_wp2_with fail
      go_ret2
      exact ⟨rfl, G2.trans (hb3.mono G2.size)⟩
    · have e1 : ltOk m x y = false := by unfold ltOk; rw [ha, HF.out]; simpa using hz
      have e2 : ltV m x y = 0 := by unfold ltV; rw [e1]; rfl
      have e3 : (enc (finV m y x) == 1073741824) = true := by rw [enc_eq hhi, hz]
      rw [e1, e2]; clear e1 e2 ha
      go_enter Try.func44, Try.ntmps44
      go_wp2_with fail
      refine (canRoute_2 (m := m) (hv'.on G) L).mono ?_
      rintro e w1 ⟨rfl, hb1⟩
      rw [HA.out]
      have K1 := K.on hb1
      have G1 := G.trans (hb1.mono G.size)
      obtain ⟨k0, k1, k2, k3⟩ := blk4 K1
      go_wp2_with fail
      refine (leastTime_any (m := m) (hv'.on G1) V hx hy).mono ?_
      rintro e w2 ⟨rfl, hb2⟩
      go_wp2_with fail
      go_ret2
      exact ⟨rfl, G1.trans (hb2.mono G1.size)⟩
end Go.Proofs.Ytijmlagehdmfeaa
