/- The walk of FnExactMoveControl. -/
import Derived.Test.YtcjggopdgkopiaaMove
import Derived.Test.YtcjggopdgkopiaaCh
import Derived.Test.YtcjggopdgkopiaaToInts
import Derived.Test.YtcjggopdgkopiaaOpenMap
import Derived.Deep.RegionWith
import Derived.Deep.DeepCutAuto
namespace Go.Proofs.Ytcjggopdgkopiaa
set_option linter.unusedVariables false
set_option linter.unusedSimpArgs false
open Go.RowKit
set_option maxRecDepth 100000 in
set_option maxHeartbeats 4000000 in
theorem law_MoveControl {wd ht : Int} {A : Option Addr} {n c : Nat} {B : Option Addr} {m d : Nat} {ri co : List Int} {R0 : Option Addr} {q0 c0 : Nat} {a0 : List Ct} {a1 : Int} {a2 : Int} (w : World) (_ : I64 wd) (_ : I64 ht)
    (hA : n ≤ maxLen ∧ c ≤ maxLen ∧ Rd w w.heap.size 1 A n (ints ri) ∧ ∀ x ∈ ri, I64 x) (hB : m ≤ maxLen ∧ d ≤ maxLen ∧ Rd w w.heap.size 1 B m (ints co) ∧ ∀ x ∈ co, I64 x) (ha0 : q0 ≤ maxLen ∧ c0 ≤ maxLen ∧ a0.length = q0 ∧ Rd w w.heap.size 2 R0 q0 (a0.flatMap Ct.cells) ∧ ∀ x ∈ a0, Ct.Ok x) (ia1 : I64 a1) (ia2 : I64 a2) :
    Calls Try.prog 10 #[.agg #[.int .i64 wd, .int .i64 ht, .slice A n c, .slice B m d], .slice R0 q0 c0, .int .i64 a1, .int .i64 a2] w fun e w' => e = .returned (.bool true) ∧ Below w.heap.size w w' := by
  obtain ⟨hn, _, hA, _⟩ := hA
  obtain ⟨hm, _, hB, _⟩ := hB
  obtain ⟨ma0, _, _, ha09, _⟩ := ha0
  have ha0 : Rd w w.heap.size 2 R0 q0 (cts a0) := ha09
  clear ha09
  have La0 := Lib.hid ha0.clen
  obtain ⟨a11, a12⟩ := ia1
  obtain ⟨a21, a22⟩ := ia2
  by_cases hs : 1048576 < n + m
  · go_enter Try.func10, Try.ntmps10
    go_wp2_with fail
    refine (szMap_any hn hm).mono ?_
    rintro e w1 ⟨rfl, hb1⟩
    rw [if_pos hs]
    go_wp2_with fail
    go_ret
    exact ⟨rfl, Below.trans (by repeat (first | exact Below.refl _ _ | refine below_drewN ?_ _ | refine Below.drew ?_ | refine Below.alloc ?_ (by first | omega | (simp; done) | (simp; omega)) _ | refine Below.setCell ?_ (by first | omega | (simp; done) | (simp; omega)) _)) (hb1.mono (by first | omega | (simp; done) | (simp; omega)))⟩
  by_cases hs0 : 1048576 < n + m + q0
  · go_enter Try.func10, Try.ntmps10
    go_wp2_with fail
    refine (szMap_any hn hm).mono ?_
    rintro e w1 ⟨rfl, hb1⟩
    rw [if_neg hs]
    go_wp2_with fail
    refine (szControlS_any _ _ _ _ _ (by omega) (by omega) ma0).mono ?_
    rintro e w2 ⟨rfl, rfl⟩
    rw [if_pos (by omega)]
    go_wp2_with fail
    go_ret
    exact ⟨rfl, Below.trans (by repeat (first | exact Below.refl _ _ | refine below_drewN ?_ _ | refine Below.drew ?_ | refine Below.alloc ?_ (by first | omega | (simp; done) | (simp; omega)) _ | refine Below.setCell ?_ (by first | omega | (simp; done) | (simp; omega)) _)) (hb1.mono (by first | omega | (simp; done) | (simp; omega)))⟩
  have za0 : q0 ≤ 1048576 := by omega
  have hsn : n ≤ 1048576 := by omega
  have hsm : m ≤ 1048576 := by omega
  obtain ⟨mp, rfl, rfl, rfl, rfl⟩ : ∃ mp : Mp, mp.wd = wd ∧ mp.ht = ht ∧ mp.ri = ri ∧ mp.co = co := ⟨⟨wd, ht, ri, co⟩, rfl, rfl, rfl, rfl⟩
  have LR := Lib.hid hA.len
  have LC := Lib.hid hB.len
  have hRb := mvR_b mp a0 a1 a2
  have hR36 : (mvR mp a0 a1 a2).length ≤ maxLen := by simp only [maxLen]; omega
  have okne : ((mvOk mp a0 a1 a2) != (mvOk mp a0 a1 a2)) = false := by simp
  have hRm : (mvR mp a0 a1 a2).length ≤ 1048576 := by omega
  go_enter Try.func10, Try.ntmps10
  go_wp2_with fail
  refine (szMap_any hn hm).mono ?_
  rintro e w1 ⟨rfl, hb⟩
  rw [if_neg hs]
  have G : Below w.heap.size w w1 := Below.trans (by repeat (first | exact Below.refl _ _ | refine below_drewN ?_ _ | refine Below.drew ?_ | refine Below.alloc ?_ (by first | omega | (simp; done) | (simp; omega)) _ | refine Below.setCell ?_ (by first | omega | (simp; done) | (simp; omega)) _)) (hb.mono (by first | omega | (simp; done) | (simp; omega)))
  have K := (Blk.new w 24 [.int .i64 mp.wd, .int .i64 mp.ht, .slice A n c, .slice B m d]).on hb
  clear hb
  obtain ⟨k0, k1, k2, k3⟩ := blk4 K
  go_wp2_with fail
  refine (szControlS_any _ _ _ _ _ (by omega) (by omega) ma0).mono ?_
  rintro e w8 ⟨rfl, rfl⟩
  rw [if_neg (by omega)]
  go_wp2_with fail
  refine (toMap_any ((hA.below G).more G.size) ((hB.below G).more G.size) hsn hsm).mono ?_
  rintro e w2 ⟨g1, g2, rfl, M1, M2, hg1, hg2, hb⟩
  clear k0 k1 k2 k3
  replace K := K.on hb
  replace G := G.trans (hb.mono G.size)
  clear hb
  obtain ⟨k0, k1, k2, k3⟩ := blk4 K
  go_wp2_with fail
  refine (toControlS_b ((ha0.below G).more G.size) za0).mono ?_
  rintro e w3 ⟨sg0, rfl, S0, hsg0, hb⟩
  clear k0 k1 k2 k3
  replace K := K.on hb
  replace M1 := M1.on hb
  replace M2 := M2.on hb
  replace G := G.trans (hb.mono G.size)
  clear hb
  obtain ⟨k0, k1, k2, k3⟩ := blk4 K
  go_wp2_with fail
  refine (MoveControl_spec (m := mp) (MapIn.mk' (m := mp) (M1.rd (size := 1) (n := n) (by simp [ints, LR.out])) (M2.rd (size := 1) (n := m) (by simp [ints, LC.out])) hn hm) (S0.rd (size := 2) (n := q0) (by rw [cts_len, La0.out])) za0 (Nat.le_refl _)).mono ?_
  rintro e w4 ⟨A0, c0, rfl, O, hb⟩
  clear k0 k1 k2 k3
  replace K := K.on hb
  replace G := G.trans (hb.mono G.size)
  clear hb M1 M2 hg1 hg2 S0 hsg0
  obtain ⟨k0, k1, k2, k3⟩ := blk4 K
  have ltK := K.lt
  have ltO := Lib.hid (fun k (hk : Value.ownBlock (.slice A0 (mvR mp a0 a1 a2).length c0) = some k) => (O.lt k hk).2)
  go_wp2_with fail
  refine (toMap_any ((hA.below G).more G.size) ((hB.below G).more G.size) hsn hsm).mono ?_
  rintro e w5 ⟨g3, g4, rfl, M3, M4, hg3, hg4, hb⟩
  clear k0 k1 k2 k3
  replace K := K.on hb
  replace O := own_below O hb
  replace G := G.trans (hb.mono G.size)
  clear hb
  obtain ⟨k0, k1, k2, k3⟩ := blk4 K
  have lt4 := M4.lt
  go_wp2_with fail
  clear k0 k1 k2 k3
  replace K := K.alloc (.cells #[.int .i64 mp.wd, .int .i64 mp.ht, .slice (some ⟨g3, 0, none⟩) n n, .slice (some ⟨g4, 0, none⟩) m m] 29)
  replace M3 := M3.alloc (.cells #[.int .i64 mp.wd, .int .i64 mp.ht, .slice (some ⟨g3, 0, none⟩) n n, .slice (some ⟨g4, 0, none⟩) m m] 29)
  replace M4 := M4.alloc (.cells #[.int .i64 mp.wd, .int .i64 mp.ht, .slice (some ⟨g3, 0, none⟩) n n, .slice (some ⟨g4, 0, none⟩) m m] 29)
  replace O := O.alloc (.cells #[.int .i64 mp.wd, .int .i64 mp.ht, .slice (some ⟨g3, 0, none⟩) n n, .slice (some ⟨g4, 0, none⟩) m m] 29)
  have X := Blk.new w5 29 [.int .i64 mp.wd, .int .i64 mp.ht, .slice (some ⟨g3, 0, none⟩) n n, .slice (some ⟨g4, 0, none⟩) m m]
  replace G := G.alloc G.size (.cells #[.int .i64 mp.wd, .int .i64 mp.ht, .slice (some ⟨g3, 0, none⟩) n n, .slice (some ⟨g4, 0, none⟩) m m] 29)
  have hz : w5.heap.size < (w5.alloc (.cells #[.int .i64 mp.wd, .int .i64 mp.ht, .slice (some ⟨g3, 0, none⟩) n n, .slice (some ⟨g4, 0, none⟩) m m] 29)).heap.size := by simp
  generalize w5.alloc (.cells #[.int .i64 mp.wd, .int .i64 mp.ht, .slice (some ⟨g3, 0, none⟩) n n, .slice (some ⟨g4, 0, none⟩) m m] 29) = w6 at *
  obtain ⟨k0, k1, k2, k3⟩ := blk4 K
  obtain ⟨x0, x1, x2, x3⟩ := blk4 X
  have ltX := X.lt
  have ltK2 := K.lt
  have szG := G.size
  go_wp2_with fail
  refine (toControlS_b ((ha0.below G).more G.size) za0).mono ?_
  rintro e w7 ⟨yg0, rfl, Y0, hyg0, hb⟩
  clear k0 k1 k2 k3 x0 x1 x2 x3
  replace K := K.on hb
  replace X := X.on hb
  replace M3 := M3.on hb
  replace M4 := M4.on hb
  replace O := own_below O hb
  replace G := G.trans (hb.mono G.size)
  clear hb
  obtain ⟨k0, k1, k2, k3⟩ := blk4 K
  obtain ⟨x0, x1, x2, x3⟩ := blk4 X
  have ltY0 := Y0.lt
  go_wp2_with fail
  refine (MoveControl_impl (m := mp) (MapIn.mk' (m := mp) (M3.rd (size := 1) (n := n) (by simp [ints, LR.out])) (M4.rd (size := 1) (n := m) (by simp [ints, LC.out])) hn hm) (Y0.rd (size := 2) (n := q0) (by rw [cts_len, La0.out])) za0 (Nat.le_refl _)).mono ?_
  rintro e w8 ⟨A1, c1, rfl, P, hb⟩
  have apO := Lib.hid (own_apart O P (Nat.le_refl _))
  clear k0 k1 k2 k3 x0 x1 x2 x3
  replace K := K.on hb
  replace X := X.on hb
  replace M3 := M3.on hb
  replace M4 := M4.on hb
  replace Y0 := Y0.on hb
  replace O := own_below O hb
  replace G := G.trans (hb.mono G.size)
  clear hb
  obtain ⟨k0, k1, k2, k3⟩ := blk4 K
  obtain ⟨x0, x1, x2, x3⟩ := blk4 X
  go_wp2_with fail
  refine (eqControlS_b (Rd.of_own P) (Rd.of_own O) hRm).mono ?_
  rintro e w9 ⟨rfl, hb⟩
  clear k0 k1 k2 k3 x0 x1 x2 x3
  replace K := K.on hb
  replace X := X.on hb
  replace M3 := M3.on hb
  replace M4 := M4.on hb
  replace Y0 := Y0.on hb
  replace O := own_below O hb
  replace P := own_below P hb
  replace G := G.trans (hb.mono G.size)
  clear hb
  obtain ⟨k0, k1, k2, k3⟩ := blk4 K
  obtain ⟨x0, x1, x2, x3⟩ := blk4 X
  go_upto_region 14 with (fail)
  go_cut [66] (fun t wx => t = .bool false ∧ Below w9.heap.size w9 wx)
  case first =>
    have hA6 : Rd w9.drew w9.drew.heap.size 1 A n (ints mp.ri) := (hA.below G).more G.size
    have hB6 : Rd w9.drew w9.drew.heap.size 1 B m (ints mp.co) := (hB.below G).more G.size
    have X6 : Blk w9.drew w5.heap.size 29 [.int .i64 mp.wd, .int .i64 mp.ht, .slice (some ⟨g3, 0, none⟩) n n, .slice (some ⟨g4, 0, none⟩) m m] := X
    have M36 : Blk w9.drew g3 3 (ints mp.ri) := M3
    have M46 : Blk w9.drew g4 3 (ints mp.co) := M4
    go_region_with (first | (go_at_call 14; refine (toMap_any hA6 hB6 hsn hsm).mono ?_; rintro e wy ⟨g5, g6, rfl, M5, M6, hg5, hg6, hb6⟩; obtain ⟨y0, y1, y2, y3⟩ := blk4 (X6.on hb6)) | (go_at_call 17; refine (eqMap_same ((M36.on hb6).rd (size := 1) (n := n) (by simp [ints, LR.out])) ((M46.on hb6).rd (size := 1) (n := m) (by simp [ints, LC.out])) hn hm (M5.rd (size := 1) (n := n) (by simp [ints, LR.out])) (M6.rd (size := 1) (n := m) (by simp [ints, LC.out]))).mono ?_; rintro e wz ⟨rfl, hb7⟩))
    all_goals
      go_wp2_with fail
      go_meet
      exact ⟨rfl, (Below.refl _ _).drew.trans (hb6.trans (hb7.mono hb6.size))⟩
  case rest =>
  obtain ⟨rfl, hb⟩ := hcut
  clear k0 k1 k2 k3 x0 x1 x2 x3
  replace K := K.on hb
  replace X := X.on hb
  replace M3 := M3.on hb
  replace M4 := M4.on hb
  replace Y0 := Y0.on hb
  replace O := own_below O hb
  replace P := own_below P hb
  replace G := G.trans (hb.mono G.size)
  clear hb
  obtain ⟨k0, k1, k2, k3⟩ := blk4 K
  obtain ⟨x0, x1, x2, x3⟩ := blk4 X
  go_wp2_with fail
  refine (toControlS_b ((ha0.below G).more G.size) za0).mono ?_
  rintro e w10 ⟨tg0, rfl, T0, htg0, hb⟩
  clear k0 k1 k2 k3 x0 x1 x2 x3
  replace K := K.on hb
  replace X := X.on hb
  replace M3 := M3.on hb
  replace M4 := M4.on hb
  replace Y0 := Y0.on hb
  replace O := own_below O hb
  replace P := own_below P hb
  replace G := G.trans (hb.mono G.size)
  clear hb
  obtain ⟨k0, k1, k2, k3⟩ := blk4 K
  obtain ⟨x0, x1, x2, x3⟩ := blk4 X
  go_wp2_with fail
  refine (eqControlS_b (Y0.rd (size := 2) (n := q0) (by rw [cts_len, La0.out])) (T0.rd (size := 2) (n := q0) (by rw [cts_len, La0.out])) za0).mono ?_
  rintro e w11 ⟨rfl, hb⟩
  clear k0 k1 k2 k3 x0 x1 x2 x3
  replace K := K.on hb
  replace X := X.on hb
  replace M3 := M3.on hb
  replace M4 := M4.on hb
  replace Y0 := Y0.on hb
  replace T0 := T0.on hb
  replace O := own_below O hb
  replace P := own_below P hb
  replace G := G.trans (hb.mono G.size)
  clear hb
  obtain ⟨k0, k1, k2, k3⟩ := blk4 K
  obtain ⟨x0, x1, x2, x3⟩ := blk4 X
  go_wp2_with fail
  refine (markMap_any M3 M4 LR.out LC.out (by omega) hsn hsm).mono ?_
  clear k0 k1 k2 k3 x0 x1 x2 x3
  rintro e w12 ⟨rfl, hc, _, _⟩
  replace K := K.ch hc (by rintro (h | h) <;> omega)
  replace X := X.ch hc (by rintro (h | h) <;> omega)
  replace O := own_ch O hc (fun k hk h => by have := ltO.out k hk; rcases h with h | h <;> omega)
  replace P := own_ch P hc (fun k hk h => by have := (P.lt k hk).1; rcases h with h | h <;> omega)
  replace G := Below.ch G hc G.size (by rintro k (rfl | rfl) <;> omega)
  replace Y0 := Y0.ch hc (by rintro (h | h) <;> omega)
  clear hc M3 M4
  obtain ⟨k0, k1, k2, k3⟩ := blk4 K
  obtain ⟨x0, x1, x2, x3⟩ := blk4 X
  go_wp2_with fail
  refine (markControlS_any (Y0.own (base := 0) (size := 2) (Nat.zero_le _) (by rw [cts_len, La0.out]) ma0) (by omega) (by omega) (by omega)).mono ?_
  clear k0 k1 k2 k3 x0 x1 x2 x3
  rintro e w13 ⟨rfl, _, gr⟩
  clear Y0
  replace K := K.grown gr (by simp [Value.ownBlock]; omega)
  replace X := X.grown gr (by simp [Value.ownBlock]; omega)
  replace O := own_ch O (Ch.of_grown (S := fun k => k = yg0) gr (fun k h => by simpa [Value.ownBlock] using h.symm)) (fun k hk h => by have := ltO.out k hk; omega)
  replace P := own_ch P (Ch.of_grown (S := fun k => k = yg0) gr (fun k h => by simpa [Value.ownBlock] using h.symm)) (fun k hk h => by have := (P.lt k hk).1; omega)
  replace G := G.grown gr G.size (fun k hk => by simp [Value.ownBlock] at hk; omega)
  clear gr
  obtain ⟨k0, k1, k2, k3⟩ := blk4 K
  obtain ⟨x0, x1, x2, x3⟩ := blk4 X
  have r9 : decide (1 + (n : Int) + (m : Int) + (q0 : Int) * 2 < 0) = false := by simp; omega
  have r8 : ¬ 1 + (n : Int) + (m : Int) + (q0 : Int) * 2 < 0 := by omega
  go_wp2_with fail
  refine (eqControlS_b (Rd.of_own P) (Rd.of_own O) hRm).mono ?_
  rintro e w14 ⟨rfl, hb⟩
  clear k0 k1 k2 k3 x0 x1 x2 x3
  replace K := K.on hb
  replace X := X.on hb
  replace O := own_below O hb
  replace P := own_below P hb
  replace G := G.trans (hb.mono G.size)
  clear hb
  obtain ⟨k0, k1, k2, k3⟩ := blk4 K
  obtain ⟨x0, x1, x2, x3⟩ := blk4 X
  go_wp2_with fail
  refine (markControlS_any P (by omega) (by omega) (by omega)).mono ?_
  clear k0 k1 k2 k3 x0 x1 x2 x3
  rintro e w15 ⟨rfl, P2, gr⟩
  replace K := K.grown gr (by intro h; have := (P.lt _ h.symm).1; omega)
  replace X := X.grown gr (by intro h; have := (P.lt _ h.symm).1; omega)
  replace O := own_ch O (Ch.of_grown (S := fun k => Value.ownBlock (.slice A1 (mvR mp a0 a1 a2).length c1) = some k) gr (fun _ h => h)) apO.out
  replace G := G.grown gr G.size (fun k hk => by have := (P.lt k hk).1; omega)
  replace P := P2
  clear P2 gr
  obtain ⟨k0, k1, k2, k3⟩ := blk4 K
  obtain ⟨x0, x1, x2, x3⟩ := blk4 X
  have r1 : ((1 + ((mvR mp a0 a1 a2).length : Int) * 2) != (1 + ((mvR mp a0 a1 a2).length : Int) * 2)) = false := by simp
  have r2 : (0 : Int) ≤ ((mvR mp a0 a1 a2).length : Int) := Int.natCast_nonneg _
  have r3 : ((mvR mp a0 a1 a2).length : Int) ≤ 2000000 := by omega
  go_wp2_with fail
  refine (heldControlS_b (k := 1) (Rd.of_own P) (by omega) (by omega) (by omega)).mono ?_
  rintro e w16 ⟨rfl, hb⟩
  clear k0 k1 k2 k3 x0 x1 x2 x3
  replace K := K.on hb
  replace X := X.on hb
  replace O := own_below O hb
  replace P := own_below P hb
  replace G := G.trans (hb.mono G.size)
  clear hb
  obtain ⟨k0, k1, k2, k3⟩ := blk4 K
  obtain ⟨x0, x1, x2, x3⟩ := blk4 X
  go_wp2_with fail
  refine (toMap_any ((hA.below G).more G.size) ((hB.below G).more G.size) hsn hsm).mono ?_
  rintro e w17 ⟨g7, g8, rfl, M7, M8, hg7, hg8, hb⟩
  clear k0 k1 k2 k3 x0 x1 x2 x3
  replace K := K.on hb
  replace X := X.on hb
  replace O := own_below O hb
  replace P := own_below P hb
  replace G := G.trans (hb.mono G.size)
  clear hb
  obtain ⟨k0, k1, k2, k3⟩ := blk4 K
  obtain ⟨x0, x1, x2, x3⟩ := blk4 X
  go_wp2_with fail
  refine (toControlS_b ((ha0.below G).more G.size) za0).mono ?_
  rintro e w18 ⟨zg0, rfl, Z0, hzg0, hb⟩
  clear k0 k1 k2 k3 x0 x1 x2 x3
  replace K := K.on hb
  replace X := X.on hb
  replace M7 := M7.on hb
  replace M8 := M8.on hb
  replace O := own_below O hb
  replace P := own_below P hb
  replace G := G.trans (hb.mono G.size)
  clear hb
  obtain ⟨k0, k1, k2, k3⟩ := blk4 K
  obtain ⟨x0, x1, x2, x3⟩ := blk4 X
  go_wp2_with fail
  refine (MoveControl_impl (m := mp) (MapIn.mk' (m := mp) (M7.rd (size := 1) (n := n) (by simp [ints, LR.out])) (M8.rd (size := 1) (n := m) (by simp [ints, LC.out])) hn hm) (Z0.rd (size := 2) (n := q0) (by rw [cts_len, La0.out])) za0 (Nat.le_refl _)).mono ?_
  rintro e w19 ⟨A2, c2, rfl, Q, hb⟩
  clear k0 k1 k2 k3 x0 x1 x2 x3
  replace K := K.on hb
  replace X := X.on hb
  replace O := own_below O hb
  replace P := own_below P hb
  replace G := G.trans (hb.mono G.size)
  clear hb M7 M8 hg7 hg8 Z0 hzg0
  obtain ⟨k0, k1, k2, k3⟩ := blk4 K
  obtain ⟨x0, x1, x2, x3⟩ := blk4 X
  go_wp2_with fail
  refine (eqControlS_b (Rd.of_own Q) (Rd.of_own O) hRm).mono ?_
  rintro e w20 ⟨rfl, hb⟩
  clear k0 k1 k2 k3 x0 x1 x2 x3
  replace K := K.on hb
  replace X := X.on hb
  replace O := own_below O hb
  replace P := own_below P hb
  replace Q := own_below Q hb
  replace G := G.trans (hb.mono G.size)
  clear hb
  obtain ⟨k0, k1, k2, k3⟩ := blk4 K
  obtain ⟨x0, x1, x2, x3⟩ := blk4 X
  go_wp2_with fail
  refine (heldControlS_b (k := 1) (Rd.of_own P) (by omega) (by omega) (by omega)).mono ?_
  rintro e w21 ⟨rfl, hb⟩
  clear k0 k1 k2 k3 x0 x1 x2 x3
  replace K := K.on hb
  replace X := X.on hb
  replace O := own_below O hb
  replace P := own_below P hb
  replace Q := own_below Q hb
  replace G := G.trans (hb.mono G.size)
  clear hb
  obtain ⟨k0, k1, k2, k3⟩ := blk4 K
  obtain ⟨x0, x1, x2, x3⟩ := blk4 X
  go_wp2_with fail
  go_ret
  exact ⟨rfl, G⟩
end Go.Proofs.Ytcjggopdgkopiaa
