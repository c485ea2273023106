/- The walk of FnExactSidesFor. -/
import Derived.Test.YtcbjphicicjmoaaSid
import Derived.Test.YtcbjphicicjmoaaMkt
import Derived.Test.YtcbjphicicjmoaaCh
import Derived.Deep.DeepCutAuto
namespace Go.Proofs.Ytcbjphicicjmoaa
set_option linter.unusedVariables false
set_option linter.unusedSimpArgs false
open Go.RowKit
set_option maxRecDepth 100000 in
set_option maxHeartbeats 4000000 in
theorem law_SidesFor {a0 : ByteArray} (w : World) (ia0 : a0.size ≤ maxLen) :
    Calls Try.prog 3 #[.string a0] w fun e w' => e = .returned (.bool true) ∧ Below w.heap.size w w' := by
  by_cases hba0 : (1048576 : Int) < (a0.size : Int)
  · go_enter Try.func3, Try.ntmps3
    go_wp2_with fail
    go_ret
    exact ⟨rfl, (by repeat (first | exact Below.refl _ _ | refine below_drewN ?_ _ | refine Below.drew ?_ | refine Below.alloc ?_ (by first | omega | (simp; done) | (simp; omega)) _ | refine Below.setCell ?_ (by first | omega | (simp; done) | (simp; omega)) _))⟩
  have sa0 : a0.size ≤ 1048576 := by omega
  have G : Below w.heap.size w w := Below.refl _ _
  have hRb := sfR_b a0
  have hR36 : (sfR a0).length ≤ maxLen := by first | omega | (simp only [maxLen]; omega)
  have okne : ((sfOk a0) != (sfOk a0)) = false := by simp
  go_enter Try.func3, Try.ntmps3
  go_wp2_with fail
  refine (SidesFor_spec a0 _).mono ?_
  rintro e w1 ⟨A0, cc0, rfl, O, hb⟩
  replace G := G.trans (hb.mono G.size)
  clear hb
  have ltO := Lib.hid (fun k (hk : Value.ownBlock (.slice A0 (sfR a0).length cc0) = some k) => (O.lt k hk).2)
  have hq3 := G.size
  have hq4 := G.size
  go_wp2_with fail
  refine (SidesFor_impl a0 _).mono ?_
  rintro e w2 ⟨A1, cc1, rfl, P, hb⟩
  have apO := Lib.hid (own_apart O P (Nat.le_refl _))
  replace O := own_below O hb
  replace G := G.trans (hb.mono G.size)
  clear hb
  go_wp2_with fail
  refine (eqStringS_b (Rd.of_own P) (Rd.of_own O) hR36).mono ?_
  rintro e w3 ⟨rfl, hb⟩
  replace O := own_below O hb
  replace P := own_below P hb
  replace G := G.trans (hb.mono G.size)
  clear hb
  go_wp2_with fail
  refine (markStringS_any (k := 1) P (by omega) (by omega) (by omega)).mono ?_
  rintro e w4 ⟨rfl, P2, gr⟩
  replace O := own_ch O (Ch.of_grown (S := fun k => Value.ownBlock (.slice A1 (sfR a0).length cc1) = some k) gr (fun _ h => h)) apO.out
  replace G := G.grown gr G.size (fun k hk => by have := (P.lt k hk).1; omega)
  replace P := P2
  clear P2 gr
  have r1 : ((1 + ((sfR a0).length : Int)) != (1 + ((sfR a0).length : Int))) = false := by simp
  have r2 : (0 : Int) ≤ ((sfR a0).length : Int) := Int.natCast_nonneg _
  have r3 : ((sfR a0).length : Int) ≤ 2000000 := by omega
  go_wp2_with fail
  refine (heldStringS_any (k := 1) (Rd.of_own P) (by omega) (by omega) (by omega)).mono ?_
  rintro e w5 ⟨rfl, hb⟩
  replace O := own_below O hb
  replace P := own_below P hb
  replace G := G.trans (hb.mono G.size)
  clear hb
  go_wp2_with fail
  refine (SidesFor_impl a0 _).mono ?_
  rintro e w6 ⟨A2, cc2, rfl, Q, hb⟩
  replace O := own_below O hb
  replace P := own_below P hb
  replace G := G.trans (hb.mono G.size)
  clear hb
  go_wp2_with fail
  refine (eqStringS_b (Rd.of_own Q) (Rd.of_own O) hR36).mono ?_
  rintro e w7 ⟨rfl, hb⟩
  replace O := own_below O hb
  replace P := own_below P hb
  replace Q := own_below Q hb
  replace G := G.trans (hb.mono G.size)
  clear hb
  go_wp2_with fail
  refine (heldStringS_any (k := 1) (Rd.of_own P) (by omega) (by omega) (by omega)).mono ?_
  rintro e w8 ⟨rfl, hb⟩
  replace O := own_below O hb
  replace P := own_below P hb
  replace Q := own_below Q hb
  replace G := G.trans (hb.mono G.size)
  clear hb
  go_wp2_with fail
  go_ret
  exact ⟨rfl, G⟩
end Go.Proofs.Ytcbjphicicjmoaa
