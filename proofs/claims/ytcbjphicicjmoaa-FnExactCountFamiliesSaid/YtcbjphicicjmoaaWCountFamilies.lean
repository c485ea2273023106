/- The walk of FnExactCountFamilies. -/
import Derived.Test.YtcbjphicicjmoaaCnt
import Derived.Test.YtcbjphicicjmoaaFts
import Derived.Test.YtcbjphicicjmoaaCh
import Derived.Deep.DeepCutAuto
namespace Go.Proofs.Ytcbjphicicjmoaa
set_option linter.unusedVariables false
set_option linter.unusedSimpArgs false
open Go.RowKit
set_option maxRecDepth 100000 in
set_option maxHeartbeats 4000000 in
theorem law_CountFamilies {R0 : Option Addr} {q0 c0 : Nat} {a0 : List Ft} (w : World)
    (ha0 : q0 ≤ maxLen ∧ c0 ≤ maxLen ∧ a0.length = q0 ∧ Rd w w.heap.size 5 R0 q0 (a0.flatMap Ft.cells) ∧ ∀ x ∈ a0, Ft.Ok x) :
    Calls Try.prog 6 #[.slice R0 q0 c0] w fun e w' => e = .returned (.bool true) ∧ Below w.heap.size w w' := by
  obtain ⟨ma0, _, _, ha09, ok0⟩ := ha0
  have ha0 : Rd w w.heap.size 5 R0 q0 (fts a0) := ha09
  have hs0 := ok0
  have HS0 := Lib.hid hs0
  clear ha09 ok0
  have La0 := Lib.hid ha0.flen
  by_cases hbig : 1048576 < q0 + fsz a0
  · have hz9 : szR q0 (fsz a0) = -1 := by unfold szR; rw [if_pos hbig]
    clear hs0
    go_enter Try.func6, Try.ntmps6
    go_wp2_with fail
    refine (szFeatureS_any ha0 ma0 HS0.out).mono ?_
    rintro e w1 ⟨rfl, hb⟩
    rw [hz9]
    go_wp2_with fail
    go_ret
    exact ⟨rfl, hb⟩
  have za0 : q0 ≤ 1048576 := by omega
  have hz9 : szR q0 (fsz a0) = 1048576 - (q0 : Int) - (fsz a0 : Int) := by unfold szR; rw [if_neg hbig]
  have hn9 : ¬ (1048576 - (q0 : Int) - (fsz a0 : Int)) < 0 := by omega
  have hd9 : decide ((1048576 - (q0 : Int) - (fsz a0 : Int)) < 0) = false := by simp; omega
  clear hs0
  have hRb := ctR_b a0
  have hR36 : (ctR a0).length ≤ maxLen := by first | omega | (simp only [maxLen]; omega)
  have okne : ((okFts a0) != (okFts a0)) = false := by simp
  go_enter Try.func6, Try.ntmps6
  go_wp2_with fail
  refine (szFeatureS_any ha0 ma0 HS0.out).mono ?_
  rintro e w1 ⟨rfl, G⟩
  rw [hz9]
  go_wp2_with fail
  refine (toFeatureS_b ((ha0.below G).more G.size) za0).mono ?_
  rintro e w2 ⟨gSp, rfl, Sp, hSp, hb⟩
  replace G := G.trans (hb.mono G.size)
  clear hb
  go_wp2_with fail
  refine (CountFamilies_spec (Sp.rd (size := 5) (n := q0) (by rw [fts_len, La0.out])) za0 (Nat.le_refl _) HS0.out).mono ?_
  rintro e w3 ⟨A0, cc0, rfl, O, hb⟩
  replace G := G.trans (hb.mono G.size)
  clear hb
  clear Sp hSp
  have ltO := Lib.hid (fun k (hk : Value.ownBlock (.slice A0 (ctR a0).length cc0) = some k) => (O.lt k hk).2)
  have hq3 := G.size
  go_wp2_with fail
  refine (toFeatureS_b ((ha0.below G).more G.size) za0).mono ?_
  rintro e w4 ⟨gY, rfl, Y, hY, hb⟩
  replace O := own_below O hb
  replace G := G.trans (hb.mono G.size)
  clear hb
  have ltY := Y.lt
  have hq4 := G.size
  go_wp2_with fail
  refine (CountFamilies_impl (Y.rd (size := 5) (n := q0) (by rw [fts_len, La0.out])) za0 (Nat.le_refl _) HS0.out).mono ?_
  rintro e w5 ⟨A1, cc1, rfl, P, hb⟩
  have apO := Lib.hid (own_apart O P (Nat.le_refl _))
  replace Y := Y.on hb
  replace O := own_below O hb
  replace G := G.trans (hb.mono G.size)
  clear hb
  go_wp2_with fail
  refine (eqIntS_b (Rd.of_own P) (Rd.of_own O) hR36).mono ?_
  rintro e w6 ⟨rfl, hb⟩
  replace Y := Y.on hb
  replace O := own_below O hb
  replace P := own_below P hb
  replace G := G.trans (hb.mono G.size)
  clear hb
  go_wp2_with fail
  refine (toFeatureS_b ((ha0.below G).more G.size) za0).mono ?_
  rintro e w7 ⟨gTt, rfl, Tt, hTt, hb⟩
  replace Y := Y.on hb
  replace O := own_below O hb
  replace P := own_below P hb
  replace G := G.trans (hb.mono G.size)
  clear hb
  go_wp2_with fail
  refine (eqFeatureS_b (Y.rd (size := 5) (n := q0) (by rw [fts_len, La0.out])) (Tt.rd (size := 5) (n := q0) (by rw [fts_len, La0.out])) za0).mono ?_
  rintro e w8 ⟨rfl, hb⟩
  replace Y := Y.on hb
  replace O := own_below O hb
  replace P := own_below P hb
  replace G := G.trans (hb.mono G.size)
  clear hb
  clear Tt hTt
  go_wp2_with fail
  refine (markFeatureS_any Y La0.out za0).mono ?_
  rintro e w9 ⟨km, rfl, hkm, hc⟩
  clear Y
  replace O := own_ch O hc (fun k hk h => by have := ltO.out k hk; omega)
  replace P := own_ch P hc (fun k hk h => by have := (P.lt k hk).1; omega)
  replace G := Below.ch G hc G.size (by rintro k rfl; omega)
  clear hc
  have r9 : decide (km < 0) = false := by simp; omega
  have r8 : ¬ km < 0 := by omega
  go_wp2_with fail
  refine (eqIntS_b (Rd.of_own P) (Rd.of_own O) hR36).mono ?_
  rintro e w10 ⟨rfl, hb⟩
  replace O := own_below O hb
  replace P := own_below P hb
  replace G := G.trans (hb.mono G.size)
  clear hb
  go_wp2_with fail
  refine (markIntS_any _ _ _ _ 1 _ _ P (by omega) (by omega) (by omega)).mono ?_
  rintro e w11 ⟨rfl, P2, gr⟩
  replace O := own_ch O (Ch.of_grown (S := fun k => Value.ownBlock (.slice A1 (ctR a0).length cc1) = some k) gr (fun _ h => h)) apO.out
  replace G := G.grown gr G.size (fun k hk => by have := (P.lt k hk).1; omega)
  replace P := P2
  clear P2 gr
  have r1 : ((1 + ((ctR a0).length : Int)) != (1 + ((ctR a0).length : Int))) = false := by simp
  have r2 : (0 : Int) ≤ ((ctR a0).length : Int) := Int.natCast_nonneg _
  have r3 : ((ctR a0).length : Int) ≤ 2000000 := by omega
  go_wp2_with fail
  refine (heldIntS_b (k := 1) (Rd.of_own P) (by omega) (by omega) (by omega)).mono ?_
  rintro e w12 ⟨rfl, hb⟩
  replace O := own_below O hb
  replace P := own_below P hb
  replace G := G.trans (hb.mono G.size)
  clear hb
  go_wp2_with fail
  refine (toFeatureS_b ((ha0.below G).more G.size) za0).mono ?_
  rintro e w13 ⟨gZz, rfl, Zz, hZz, hb⟩
  replace O := own_below O hb
  replace P := own_below P hb
  replace G := G.trans (hb.mono G.size)
  clear hb
  go_wp2_with fail
  refine (CountFamilies_impl (Zz.rd (size := 5) (n := q0) (by rw [fts_len, La0.out])) za0 (Nat.le_refl _) HS0.out).mono ?_
  rintro e w14 ⟨A2, cc2, rfl, Q, hb⟩
  replace O := own_below O hb
  replace P := own_below P hb
  replace G := G.trans (hb.mono G.size)
  clear hb
  clear Zz hZz
  go_wp2_with fail
  refine (eqIntS_b (Rd.of_own Q) (Rd.of_own O) hR36).mono ?_
  rintro e w15 ⟨rfl, hb⟩
  replace O := own_below O hb
  replace P := own_below P hb
  replace Q := own_below Q hb
  replace G := G.trans (hb.mono G.size)
  clear hb
  go_wp2_with fail
  refine (heldIntS_b (k := 1) (Rd.of_own P) (by omega) (by omega) (by omega)).mono ?_
  rintro e w16 ⟨rfl, hb⟩
  replace O := own_below O hb
  replace P := own_below P hb
  replace Q := own_below Q hb
  replace G := G.trans (hb.mono G.size)
  clear hb
  go_wp2_with fail
  go_ret
  exact ⟨rfl, G⟩
end Go.Proofs.Ytcbjphicicjmoaa
