/- Contracts: the marks that the laws lay into a map that a call handed back. -/
import Derived.Test.YtmmpcchjalgokaaDoorMirFn
namespace Go.Proofs.YtmmpcchjalgokaaDoor
set_option linter.unusedVariables false
set_option linter.unusedSimpArgs false
open Go.RowKit
set_option maxHeartbeats 1000000 in
theorem markMap_own {wd ht : Int} {A B : Option Addr} {c d n m base : Nat} {xs ys : List Value} {w : World} (hA : w.ownsRow base 3 1 (.slice A n c) n xs) (hB : w.ownsRow base 3 1 (.slice B m d) m ys)
    (ap : ∀ k, Value.ownBlock (.slice A n c) = some k → Value.ownBlock (.slice B m d) ≠ some k) (hn : n ≤ 1048576) (hm : m ≤ 1048576) :
    Calls Tryd.prog 30 #[.agg #[.int .i64 wd, .int .i64 ht, .slice A n c, .slice B m d], .int .i64 1] w fun e w' => e = .returned (.int .i64 (1 + n + m)) ∧ w'.ownsRow base 3 1 (.slice A n c) n (marksI 1 n) ∧ w'.ownsRow base 3 1 (.slice B m d) m (marksI (1 + n) m) ∧
      Ch (fun k => Value.ownBlock (.slice A n c) = some k ∨ Value.ownBlock (.slice B m d) = some k) w w' := by
  go_enter Tryd.func30, Tryd.ntmps30
  go_wp2_with fail
  refine (markIntS_any _ _ _ base _ _ _ (hA.alloc _) (by omega) (by omega) (by omega)).mono ?_
  rintro e w1 ⟨rfl, O1, gr1⟩
  have K := ((Blk.new w 47 [.int .i64 wd, .int .i64 ht, .slice A n c, .slice B m d]).grown gr1 (by intro h; have := (hA.lt _ h.symm).2; omega))
  have N2 := own_ch (hB.alloc (.cells #[.int .i64 wd, .int .i64 ht, .slice A n c, .slice B m d] 47)) (Ch.of_grown (S := fun k => Value.ownBlock (.slice A n c) = some k) gr1 (fun _ h => h)) (fun k hk h => ap k h hk)
  obtain ⟨k0, k1, k2, k3⟩ := blk4 K
  go_wp2_with fail
  refine (markIntS_any _ _ _ base _ _ _ N2 (by omega) (by omega) (by omega)).mono ?_
  rintro e w2 ⟨rfl, O2, gr2⟩
  have O3 := own_ch O1 (Ch.of_grown (S := fun k => Value.ownBlock (.slice B m d) = some k) gr2 (fun _ h => h)) (fun k hk h => ap k hk h)
  go_wp2_with fail
  go_ret
  refine ⟨rfl, O3, O2, ?_⟩
  exact (Ch.of_below (show Below w.heap.size w _ from (by repeat (first | exact Below.refl _ _ | refine below_drewN ?_ _ | refine Below.drew ?_ | refine Below.alloc ?_ (by first | omega | (simp; done) | (simp; omega)) _ | refine Below.setCell ?_ (by first | omega | (simp; done) | (simp; omega)) _)))).trans ((Ch.of_grown gr1 (fun k hk => .inl hk)).trans (Ch.of_grown gr2 (fun k hk => .inr hk)))
set_option maxHeartbeats 1000000 in
theorem heldMap_b {wd ht : Int} {A B : Option Addr} {c d n m : Nat} {w : World} (hA : Rd w w.heap.size 1 A n (marksI 1 n)) (hB : Rd w w.heap.size 1 B m (marksI (1 + n) m)) (hn : n ≤ 1048576) (hm : m ≤ 1048576) :
    Calls Tryd.prog 31 #[.agg #[.int .i64 wd, .int .i64 ht, .slice A n c, .slice B m d], .int .i64 1] w fun e w' => e = .returned (.int .i64 (1 + n + m)) ∧ Below w.heap.size w w' := by
  have K0 := Blk.new w 47 [.int .i64 wd, .int .i64 ht, .slice A n c, .slice B m d]
  have G0 : Below w.heap.size w (w.alloc (.cells #[.int .i64 wd, .int .i64 ht, .slice A n c, .slice B m d] 47)) := (by repeat (first | exact Below.refl _ _ | refine below_drewN ?_ _ | refine Below.drew ?_ | refine Below.alloc ?_ (by first | omega | (simp; done) | (simp; omega)) _ | refine Below.setCell ?_ (by first | omega | (simp; done) | (simp; omega)) _))
  obtain ⟨k0, k1, k2, k3⟩ := blk4 K0
  go_enter Tryd.func31, Tryd.ntmps31
  go_wp2_with fail
  refine (heldIntS_b (k := 1) (hA.on G0) (by omega) (by omega) (by omega)).mono ?_
  rintro e w1 ⟨rfl, hb⟩
  have G1 := G0.trans (hb.mono G0.size)
  have K1 := K0.on hb
  clear k0 k1 k2 k3 hb
  obtain ⟨k0, k1, k2, k3⟩ := blk4 K1
  have h1 : ¬ ((1 : Int) + (n : Int)) < 0 := by omega
  have h1d : decide (((1 : Int) + (n : Int)) < 0) = false := decide_eq_false h1
  go_wp2_with fail
  refine (heldIntS_b (k := 1 + n) (hB.on G1) (by omega) (by omega) (by omega)).mono ?_
  rintro e w2 ⟨rfl, hb⟩
  have G2 := G1.trans (hb.mono G1.size)
  have h2 : ¬ ((1 : Int) + (n : Int) + (m : Int)) < 0 := by omega
  have h2d : decide (((1 : Int) + (n : Int) + (m : Int)) < 0) = false := decide_eq_false h2
  go_wp2_with fail
  go_ret
  exact ⟨rfl, G2⟩
end Go.Proofs.YtmmpcchjalgokaaDoor
