/- The walk of FnExactIsMap. -/
import Derived.Test.YtcdkclcoagadnaaIsMap
import Derived.Test.YtcdkclcoagadnaaOpenMap
import Derived.Deep.RegionWith
namespace Go.Proofs.Ytcdkclcoagadnaa
set_option linter.unusedVariables false
set_option linter.unusedSimpArgs false
open Go.RowKit
set_option maxHeartbeats 1000000 in
theorem law_IsMap {wd ht : Int} {A : Option Addr} {n c : Nat} {B : Option Addr} {m d : Nat} {ri co : List Int} (w : World) (_ : I64 wd) (_ : I64 ht)
    (hA : n ≤ maxLen ∧ c ≤ maxLen ∧ Rd w w.heap.size 1 A n (ints ri) ∧ ∀ x ∈ ri, I64 x) (hB : m ≤ maxLen ∧ d ≤ maxLen ∧ Rd w w.heap.size 1 B m (ints co) ∧ ∀ x ∈ co, I64 x) :
    Calls Try.prog 8 #[.agg #[.int .i64 wd, .int .i64 ht, .slice A n c, .slice B m d]] w fun e w' => e = .returned (.bool true) ∧ Below w.heap.size w w' := by
  obtain ⟨hn, _, hA, _⟩ := hA
  obtain ⟨hm, _, hB, _⟩ := hB
  by_cases hs : 1048576 < n + m
  · go_enter Try.func8, Try.ntmps8
    go_wp2_with fail
    refine (szMap_any hn hm).mono ?_
    rintro e w1 ⟨rfl, hb1⟩
    rw [if_pos hs]
    go_wp2_with fail
    go_ret
    exact ⟨rfl, Below.trans (by repeat (first | exact Below.refl _ _ | refine below_drewN ?_ _ | refine Below.drew ?_ | refine Below.alloc ?_ (by first | omega | (simp; done) | (simp; omega)) _ | refine Below.setCell ?_ (by first | omega | (simp; done) | (simp; omega)) _)) (hb1.mono (by first | omega | (simp; done) | (simp; omega)))⟩
  · go_enter Try.func8, Try.ntmps8
    go_wp2_with fail
    refine (szMap_any hn hm).mono ?_
    rintro e w1 ⟨rfl, hb1⟩
    rw [if_neg hs]
    have G1 : Below w.heap.size w w1 := Below.trans (by repeat (first | exact Below.refl _ _ | refine below_drewN ?_ _ | refine Below.drew ?_ | refine Below.alloc ?_ (by first | omega | (simp; done) | (simp; omega)) _ | refine Below.setCell ?_ (by first | omega | (simp; done) | (simp; omega)) _)) (hb1.mono (by first | omega | (simp; done) | (simp; omega)))
    have hA1 := Rd.on hA G1
    have hB1 := Rd.on hB G1
    have K1 := (Blk.new w 41 [.int .i64 wd, .int .i64 ht, .slice A n c, .slice B m d]).on hb1
    obtain ⟨k0, k1, k2, k3⟩ := blk4 K1
    clear hb1 hA hB
    go_wp2_with fail
    refine (toMap_any hA1 hB1 (by omega) (by omega)).mono ?_
    rintro e w2 ⟨g1, g2, rfl, M1, M2, hg1, hg2, hb2⟩
    have G2 : Below w.heap.size w w2 := G1.trans (hb2.mono G1.size)
    have hA2 := Rd.on hA1 hb2
    have hB2 := Rd.on hB1 hb2
    have K2 := K1.on hb2
    have P1 := M1.rd (size := 1) (n := n) (by simpa using hA1.1)
    have P2 := M2.rd (size := 1) (n := m) (by simpa using hB1.1)
    go_wp2_with fail
    refine (IsMap_spec P1 P2 hn hm).mono ?_
    rintro e w3 ⟨rfl, hb3⟩
    have G3 : Below w.heap.size w w3 := G2.trans (hb3.mono G2.size)
    have K3 := K2.on hb3
    have hA3 := Rd.on hA2 hb3
    have hB3 := Rd.on hB2 hb3
    clear hA1 hB1 hA2 hB2 K1 K2 hb2 hb3 M1 M2 P1 P2 k0 k1 k2 k3
    obtain ⟨k0, k1, k2, k3⟩ := blk4 K3
    go_wp2_with fail
    refine (toMap_any hA3 hB3 (by omega) (by omega)).mono ?_
    rintro e w4 ⟨g3, g4, rfl, M3, M4, hg3, hg4, hb4⟩
    have G4 : Below w.heap.size w w4 := G3.trans (hb4.mono G3.size)
    have hA4 := Rd.on hA3 hb4
    have hB4 := Rd.on hB3 hb4
    have K4 := K3.on hb4
    have P3 := M3.rd (size := 1) (n := n) (by simpa using hA3.1)
    have P4 := M4.rd (size := 1) (n := m) (by simpa using hB3.1)
    go_wp2_with fail
    refine (IsMap_impl (by exact Rd.on P3 (by repeat (first | exact Below.refl _ _ | refine below_drewN ?_ _ | refine Below.drew ?_ | refine Below.alloc ?_ (by first | omega | (simp; done) | (simp; omega)) _ | refine Below.setCell ?_ (by first | omega | (simp; done) | (simp; omega)) _))) (by exact Rd.on P4 (by repeat (first | exact Below.refl _ _ | refine below_drewN ?_ _ | refine Below.drew ?_ | refine Below.alloc ?_ (by first | omega | (simp; done) | (simp; omega)) _ | refine Below.setCell ?_ (by first | omega | (simp; done) | (simp; omega)) _))) hn hm).mono ?_
    rintro e w5 ⟨rfl, hb5⟩
    have X5 := (Blk.new w4 44 [.int .i64 wd, .int .i64 ht, .slice (some ⟨g3, 0, none⟩) n n, .slice (some ⟨g4, 0, none⟩) m m]).on hb5
    have K5 := (K4.alloc (.cells #[.int .i64 wd, .int .i64 ht, .slice (some ⟨g3, 0, none⟩) n n, .slice (some ⟨g4, 0, none⟩) m m] 44)).on hb5
    have G5 : Below w.heap.size w w5 := (G4.alloc G4.size _).trans (hb5.mono (by have := G4.size; simp; omega))
    have hb45 : Below w4.heap.size w4 w5 := Below.trans (by repeat (first | exact Below.refl _ _ | refine below_drewN ?_ _ | refine Below.drew ?_ | refine Below.alloc ?_ (by first | omega | (simp; done) | (simp; omega)) _ | refine Below.setCell ?_ (by first | omega | (simp; done) | (simp; omega)) _)) (hb5.mono (by first | omega | (simp; done) | (simp; omega)))
    have hA5 := Rd.on hA4 hb45
    have hB5 := Rd.on hB4 hb45
    have P5 := Rd.on P3 hb45
    have P6 := Rd.on P4 hb45
    clear hA3 hB3 hA4 hB4 K3 K4 hb4 hb5 hb45 M3 M4 P3 P4 k0 k1 k2 k3
    obtain ⟨k0, k1, k2, k3⟩ := blk4 K5
    obtain ⟨l0, l1, l2, l3⟩ := blk4 X5
    have hne : (okMap wd ht ri co != okMap wd ht ri co) = false := by simp
    go_wp2_with fail
    have hA6 : Rd w5.drew w5.drew.heap.size 1 A n (ints ri) := hA5
    have hB6 : Rd w5.drew w5.drew.heap.size 1 B m (ints co) := hB5
    have P5' : Rd w5.drew w5.drew.heap.size 1 (some ⟨g3, 0, none⟩) n (ints ri) := P5
    have P6' : Rd w5.drew w5.drew.heap.size 1 (some ⟨g4, 0, none⟩) m (ints co) := P6
    have X6 : Blk w5.drew w4.heap.size 44 [.int .i64 wd, .int .i64 ht, .slice (some ⟨g3, 0, none⟩) n n, .slice (some ⟨g4, 0, none⟩) m m] := X5
    go_region_with (first | (go_at_call 24; refine (toMap_any hA6 hB6 (by omega) (by omega)).mono ?_; rintro e w6 ⟨g5, g6, rfl, M5, M6, hg5, hg6, hb6⟩; obtain ⟨m0, m1, m2, m3⟩ := blk4 (X6.on hb6)) | (go_at_call 26; refine (eqMap_same (Rd.on P5' hb6) (Rd.on P6' hb6) hn hm (M5.rd (size := 1) (n := n) (by simpa using hA5.1)) (M6.rd (size := 1) (n := m) (by simpa using hB5.1))).mono ?_; rintro e w7 ⟨rfl, hb7⟩))
    all_goals
      go_wp2_with fail
      go_ret
      exact ⟨rfl, G5.drew.trans ((hb6.trans (hb7.mono hb6.size)).mono G5.size)⟩
end Go.Proofs.Ytcdkclcoagadnaa
