/- The walk of FnExactOpenParts. -/
import Derived.Test.YtdjdjceemfaigaaOpp
import Derived.Test.YtdjdjceemfaigaaCh
import Derived.Test.YtdjdjceemfaigaaToInts
import Derived.Test.YtdjdjceemfaigaaOpenMap
import Derived.Deep.RegionWith
import Derived.Deep.DeepCutAuto
namespace Go.Proofs.Ytdjdjceemfaigaa
set_option linter.unusedVariables false
set_option linter.unusedSimpArgs false
open Go.RowKit
theorem opL_b (m : Mp) : (opL m).length ≤ 36 ∧ ∀ r ∈ opL m, r.length ≤ 36 := by
  unfold opL
  cases ok : okM m
  · rw [if_neg (by decide)]
    exact ⟨Nat.zero_le _, fun r hr => absurd hr List.not_mem_nil⟩
  · have h := (valid_iff.1 ok).n36
    have h2 : m.co.length ≤ 36 := by omega
    rw [if_pos rfl]
    exact ⟨Nat.le_trans (partsT_len m _) h2, fun r hr => Nat.le_trans (partsT_row hr) h2⟩
theorem nest_b {m : Mp} {rs : List Rw} (h : rs.map Rw.l = opL m) : rs.length ≤ 36 ∧ (∀ r ∈ rs, r.l.length ≤ 36) ∧ tot rs ≤ 1296 := by
  have hb := opL_b m
  have h1 : rs.length ≤ 36 := by rw [← List.length_map (f := Rw.l), h]; exact hb.1
  have h2 : ∀ r ∈ rs, r.l.length ≤ 36 := fun r hr => hb.2 r.l (by rw [← h]; exact List.mem_map_of_mem hr)
  have h3 := tot_le h2
  exact ⟨h1, h2, by omega⟩
set_option maxRecDepth 100000 in
set_option maxHeartbeats 4000000 in
theorem law_OpenParts {wd ht : Int} {A : Option Addr} {n c : Nat} {B : Option Addr} {m d : Nat} {ri co : List Int} (w : World) (_ : I64 wd) (_ : I64 ht)
    (hA : n ≤ maxLen ∧ c ≤ maxLen ∧ Rd w w.heap.size 1 A n (ints ri) ∧ ∀ x ∈ ri, I64 x) (hB : m ≤ maxLen ∧ d ≤ maxLen ∧ Rd w w.heap.size 1 B m (ints co) ∧ ∀ x ∈ co, I64 x) :
    Calls Try.prog 3 #[.agg #[.int .i64 wd, .int .i64 ht, .slice A n c, .slice B m d]] w fun e w' => e = .returned (.bool true) ∧ Below w.heap.size w w' := by
  obtain ⟨hn, _, hA, _⟩ := hA
  obtain ⟨hm, _, hB, _⟩ := hB
  by_cases hs : 1048576 < n + m
  · go_enter Try.func3, Try.ntmps3
    go_wp2_with fail
    refine (szMap_any hn hm).mono ?_
    rintro e w1 ⟨rfl, hb1⟩
    rw [if_pos hs]
    go_wp2_with fail
    go_ret
    exact ⟨rfl, Below.trans (by repeat (first | exact Below.refl _ _ | refine below_drewN ?_ _ | refine Below.drew ?_ | refine Below.alloc ?_ (by first | omega | (simp; done) | (simp; omega)) _ | refine Below.setCell ?_ (by first | omega | (simp; done) | (simp; omega)) _)) (hb1.mono (by first | omega | (simp; done) | (simp; omega)))⟩
  have hsn : n ≤ 1048576 := by omega
  have hsm : m ≤ 1048576 := by omega
  obtain ⟨mp, rfl, rfl, rfl, rfl⟩ : ∃ mp : Mp, mp.wd = wd ∧ mp.ht = ht ∧ mp.ri = ri ∧ mp.co = co := ⟨⟨wd, ht, ri, co⟩, rfl, rfl, rfl, rfl⟩
  have LR := Lib.hid hA.len
  have LC := Lib.hid hB.len
  have okne : ((okM mp) != (okM mp)) = false := by simp
  go_enter Try.func3, Try.ntmps3
  go_wp2_with fail
  refine (szMap_any hn hm).mono ?_
  rintro e w1 ⟨rfl, hb⟩
  rw [if_neg hs]
  have G : Below w.heap.size w w1 := Below.trans (by repeat (first | exact Below.refl _ _ | refine below_drewN ?_ _ | refine Below.drew ?_ | refine Below.alloc ?_ (by first | omega | (simp; done) | (simp; omega)) _ | refine Below.setCell ?_ (by first | omega | (simp; done) | (simp; omega)) _)) (hb.mono (by first | omega | (simp; done) | (simp; omega)))
  have K := (Blk.new w 24 [.int .i64 mp.wd, .int .i64 mp.ht, .slice A n c, .slice B m d]).on hb
  clear hb
  obtain ⟨k0, k1, k2, k3⟩ := blk4 K
  go_wp2_with fail
  refine (toMap_any ((hA.below G).more G.size) ((hB.below G).more G.size) hsn hsm).mono ?_
  rintro e w2 ⟨g1, g2, rfl, M1, M2, hg1, hg2, hb⟩
  clear k0 k1 k2 k3
  replace K := K.on hb
  replace G := G.trans (hb.mono G.size)
  clear hb
  obtain ⟨k0, k1, k2, k3⟩ := blk4 K
  go_wp2_with fail
  refine (OpenParts_spec (m := mp) (MapIn.mk' (m := mp) (M1.rd (size := 1) (n := n) (by simp [ints, LR.out])) (M2.rd (size := 1) (n := m) (by simp [ints, LC.out])) hn hm)).mono ?_
  rintro e w3 ⟨A0, c0, rs0, rfl, he0, O, hb⟩
  obtain ⟨z0, _, _⟩ := nest_b he0
  have HE0 := Lib.hid he0
  generalize hn0 : rs0.length = n0 at *
  have HN0 := Lib.hid hn0
  clear hn0 he0
  clear k0 k1 k2 k3
  replace K := K.on hb
  replace G := G.trans (hb.mono G.size)
  clear hb M1 M2 hg1 hg2
  obtain ⟨k0, k1, k2, k3⟩ := blk4 K
  have ltK := K.lt
  have ltO := Lib.hid O.lt
  go_wp2_with fail
  refine (toMap_any ((hA.below G).more G.size) ((hB.below G).more G.size) hsn hsm).mono ?_
  rintro e w4 ⟨g3, g4, rfl, M3, M4, hg3, hg4, hb⟩
  clear k0 k1 k2 k3
  replace K := K.on hb
  replace O := O.on hb
  replace G := G.trans (hb.mono G.size)
  clear hb
  obtain ⟨k0, k1, k2, k3⟩ := blk4 K
  have lt4 := M4.lt
  go_wp2_with fail
  clear k0 k1 k2 k3
  replace K := K.alloc (.cells #[.int .i64 mp.wd, .int .i64 mp.ht, .slice (some ⟨g3, 0, none⟩) n n, .slice (some ⟨g4, 0, none⟩) m m] 29)
  replace M3 := M3.alloc (.cells #[.int .i64 mp.wd, .int .i64 mp.ht, .slice (some ⟨g3, 0, none⟩) n n, .slice (some ⟨g4, 0, none⟩) m m] 29)
  replace M4 := M4.alloc (.cells #[.int .i64 mp.wd, .int .i64 mp.ht, .slice (some ⟨g3, 0, none⟩) n n, .slice (some ⟨g4, 0, none⟩) m m] 29)
  replace O := O.alloc (.cells #[.int .i64 mp.wd, .int .i64 mp.ht, .slice (some ⟨g3, 0, none⟩) n n, .slice (some ⟨g4, 0, none⟩) m m] 29)
  have X := Blk.new w4 29 [.int .i64 mp.wd, .int .i64 mp.ht, .slice (some ⟨g3, 0, none⟩) n n, .slice (some ⟨g4, 0, none⟩) m m]
  replace G := G.alloc G.size (.cells #[.int .i64 mp.wd, .int .i64 mp.ht, .slice (some ⟨g3, 0, none⟩) n n, .slice (some ⟨g4, 0, none⟩) m m] 29)
  have hz : w4.heap.size < (w4.alloc (.cells #[.int .i64 mp.wd, .int .i64 mp.ht, .slice (some ⟨g3, 0, none⟩) n n, .slice (some ⟨g4, 0, none⟩) m m] 29)).heap.size := by simp
  generalize w4.alloc (.cells #[.int .i64 mp.wd, .int .i64 mp.ht, .slice (some ⟨g3, 0, none⟩) n n, .slice (some ⟨g4, 0, none⟩) m m] 29) = w5 at *
  obtain ⟨k0, k1, k2, k3⟩ := blk4 K
  obtain ⟨x0, x1, x2, x3⟩ := blk4 X
  have ltX := X.lt
  have ltK2 := K.lt
  have szG := G.size
  have ltO5 := Lib.hid O.lt
  refine (OpenParts_impl (m := mp) (MapIn.mk' (m := mp) (M3.rd (size := 1) (n := n) (by simp [ints, LR.out])) (M4.rd (size := 1) (n := m) (by simp [ints, LC.out])) hn hm)).mono ?_
  rintro e w6 ⟨A1, c1, rs1, rfl, he1, P, hb⟩
  have hl1 : rs1.length = n0 := by rw [← HN0.out, ← List.length_map (f := Rw.l), he1, ← HE0.out, List.length_map]
  obtain ⟨_, b9, t1⟩ := nest_b he1
  have b1 := Lib.hid b9
  rw [hl1] at P ⊢
  have HE1 : Hid (rs1.map Rw.l = rs0.map Rw.l) := Lib.hid (he1.trans HE0.out.symm)
  clear b9 he1 hl1
  clear k0 k1 k2 k3 x0 x1 x2 x3
  replace K := K.on hb
  replace X := X.on hb
  replace M3 := M3.on hb
  replace M4 := M4.on hb
  replace O := O.on hb
  replace G := G.trans (hb.mono G.size)
  clear hb
  obtain ⟨k0, k1, k2, k3⟩ := blk4 K
  obtain ⟨x0, x1, x2, x3⟩ := blk4 X
  go_wp2_with fail
  refine (eqIntSS_b P O HE1.out (by omega) (fun r hr => by have := b1.out r hr; omega)).mono ?_
  rintro e w7 ⟨rfl, hb⟩
  clear k0 k1 k2 k3 x0 x1 x2 x3
  replace K := K.on hb
  replace X := X.on hb
  replace M3 := M3.on hb
  replace M4 := M4.on hb
  replace O := O.on hb
  replace P := P.on hb
  replace G := G.trans (hb.mono G.size)
  clear hb
  obtain ⟨k0, k1, k2, k3⟩ := blk4 K
  obtain ⟨x0, x1, x2, x3⟩ := blk4 X
  go_upto_region 10 with (fail)
  go_cut [45] (fun t wx => t = .bool false ∧ Below w7.heap.size w7 wx)
  case first =>
    have hA6 : Rd w7.drew w7.drew.heap.size 1 A n (ints mp.ri) := (hA.below G).more G.size
    have hB6 : Rd w7.drew w7.drew.heap.size 1 B m (ints mp.co) := (hB.below G).more G.size
    have X6 : Blk w7.drew w4.heap.size 29 [.int .i64 mp.wd, .int .i64 mp.ht, .slice (some ⟨g3, 0, none⟩) n n, .slice (some ⟨g4, 0, none⟩) m m] := X
    have M36 : Blk w7.drew g3 3 (ints mp.ri) := M3
    have M46 : Blk w7.drew g4 3 (ints mp.co) := M4
    go_region_with (first | (go_at_call 6; refine (toMap_any hA6 hB6 hsn hsm).mono ?_; rintro e wy ⟨g5, g6, rfl, M5, M6, hg5, hg6, hb6⟩; obtain ⟨y0, y1, y2, y3⟩ := blk4 (X6.on hb6)) | (go_at_call 9; refine (eqMap_same ((M36.on hb6).rd (size := 1) (n := n) (by simp [ints, LR.out])) ((M46.on hb6).rd (size := 1) (n := m) (by simp [ints, LC.out])) hn hm (M5.rd (size := 1) (n := n) (by simp [ints, LR.out])) (M6.rd (size := 1) (n := m) (by simp [ints, LC.out]))).mono ?_; rintro e wz ⟨rfl, hb7⟩))
    all_goals
      go_wp2_with fail
      go_meet
      exact ⟨rfl, (Below.refl _ _).drew.trans (hb6.trans (hb7.mono hb6.size))⟩
  case rest =>
  obtain ⟨rfl, hb⟩ := hcut
  clear k0 k1 k2 k3 x0 x1 x2 x3
  replace K := K.on hb
  replace X := X.on hb
  replace M3 := M3.on hb
  replace M4 := M4.on hb
  replace O := O.on hb
  replace P := P.on hb
  replace G := G.trans (hb.mono G.size)
  clear hb
  obtain ⟨k0, k1, k2, k3⟩ := blk4 K
  obtain ⟨x0, x1, x2, x3⟩ := blk4 X
  go_wp2_with fail
  refine (markMap_any M3 M4 LR.out LC.out (by omega) hsn hsm).mono ?_
  clear k0 k1 k2 k3 x0 x1 x2 x3
  rintro e w8 ⟨rfl, hc, _, _⟩
  replace K := K.ch hc (by rintro (h | h) <;> omega)
  replace X := X.ch hc (by rintro (h | h) <;> omega)
  replace O := O.ch hc (fun k hk h => by have := (ltO.out.1 k hk).2; rcases h with h | h <;> omega) (fun x hx h => by have := (ltO.out.2 x hx).2; rcases h with h | h <;> omega)
  replace P := P.ch hc (fun k hk h => by have := (P.lt.1 k hk).1; rcases h with h | h <;> omega) (fun x hx h => by have := (P.lt.2 x hx).1; rcases h with h | h <;> omega)
  replace G := Below.ch G hc G.size (by rintro k (rfl | rfl) <;> omega)
  clear hc M3 M4
  obtain ⟨k0, k1, k2, k3⟩ := blk4 K
  obtain ⟨x0, x1, x2, x3⟩ := blk4 X
  go_wp2_with fail
  refine (eqIntSS_b P O HE1.out (by omega) (fun r hr => by have := b1.out r hr; omega)).mono ?_
  rintro e w9 ⟨rfl, hb⟩
  clear k0 k1 k2 k3 x0 x1 x2 x3
  replace K := K.on hb
  replace X := X.on hb
  replace O := O.on hb
  replace P := P.on hb
  replace G := G.trans (hb.mono G.size)
  clear hb
  obtain ⟨k0, k1, k2, k3⟩ := blk4 K
  obtain ⟨x0, x1, x2, x3⟩ := blk4 X
  go_wp2_with fail
  refine (markIntSS_any P (by omega) (by omega)).mono ?_
  clear k0 k1 k2 k3 x0 x1 x2 x3
  rintro e w10 ⟨rfl, P2, hc⟩
  replace K := K.ch hc (by rintro ⟨r, hr, e⟩; have := (P.lt.2 r hr).1; omega)
  replace X := X.ch hc (by rintro ⟨r, hr, e⟩; have := (P.lt.2 r hr).1; omega)
  replace O := O.ch hc (fun k hk ⟨r, hr, e⟩ => by have := (ltO5.out.1 k hk).2; have := (P.lt.2 r hr).1; omega) (fun x hx ⟨r, hr, e⟩ => by have := (ltO5.out.2 x hx).2; have := (P.lt.2 r hr).1; omega)
  replace G := Below.ch G hc G.size (by rintro k ⟨r, hr, rfl⟩; have := (P.lt.2 r hr).1; omega)
  replace P := P2
  clear P2 hc
  obtain ⟨k0, k1, k2, k3⟩ := blk4 K
  obtain ⟨x0, x1, x2, x3⟩ := blk4 X
  have r1 : ((1 + (tot rs1 : Int)) != (1 + (tot rs1 : Int))) = false := by simp
  have r2 : (0 : Int) ≤ (tot rs1 : Int) := Int.natCast_nonneg _
  have r3 : (tot rs1 : Int) ≤ 2000000 := by omega
  go_wp2_with fail
  refine (heldIntSS_b P (by omega) (by omega)).mono ?_
  rintro e w11 ⟨rfl, hb⟩
  clear k0 k1 k2 k3 x0 x1 x2 x3
  replace K := K.on hb
  replace X := X.on hb
  replace O := O.on hb
  replace P := P.on hb
  replace G := G.trans (hb.mono G.size)
  clear hb
  obtain ⟨k0, k1, k2, k3⟩ := blk4 K
  obtain ⟨x0, x1, x2, x3⟩ := blk4 X
  go_wp2_with fail
  refine (toMap_any ((hA.below G).more G.size) ((hB.below G).more G.size) hsn hsm).mono ?_
  rintro e w12 ⟨g7, g8, rfl, M7, M8, hg7, hg8, hb⟩
  clear k0 k1 k2 k3 x0 x1 x2 x3
  replace K := K.on hb
  replace X := X.on hb
  replace O := O.on hb
  replace P := P.on hb
  replace G := G.trans (hb.mono G.size)
  clear hb
  obtain ⟨k0, k1, k2, k3⟩ := blk4 K
  obtain ⟨x0, x1, x2, x3⟩ := blk4 X
  go_wp2_with fail
  refine (OpenParts_impl (m := mp) (MapIn.mk' (m := mp) (M7.rd (size := 1) (n := n) (by simp [ints, LR.out])) (M8.rd (size := 1) (n := m) (by simp [ints, LC.out])) hn hm)).mono ?_
  rintro e w13 ⟨A2, c2, rs2, rfl, he2, Q, hb⟩
  have hl2 : rs2.length = n0 := by rw [← HN0.out, ← List.length_map (f := Rw.l), he2, ← HE0.out, List.length_map]
  obtain ⟨_, b9, t2⟩ := nest_b he2
  have b2 := Lib.hid b9
  rw [hl2] at Q ⊢
  have HE2 : Hid (rs2.map Rw.l = rs0.map Rw.l) := Lib.hid (he2.trans HE0.out.symm)
  clear b9 he2 hl2
  clear k0 k1 k2 k3 x0 x1 x2 x3
  replace K := K.on hb
  replace X := X.on hb
  replace O := O.on hb
  replace P := P.on hb
  replace G := G.trans (hb.mono G.size)
  clear hb M7 M8 hg7 hg8
  obtain ⟨k0, k1, k2, k3⟩ := blk4 K
  obtain ⟨x0, x1, x2, x3⟩ := blk4 X
  go_wp2_with fail
  refine (eqIntSS_b Q O HE2.out (by omega) (fun r hr => by have := b2.out r hr; omega)).mono ?_
  rintro e w14 ⟨rfl, hb⟩
  clear k0 k1 k2 k3 x0 x1 x2 x3
  replace K := K.on hb
  replace X := X.on hb
  replace O := O.on hb
  replace P := P.on hb
  replace Q := Q.on hb
  replace G := G.trans (hb.mono G.size)
  clear hb
  obtain ⟨k0, k1, k2, k3⟩ := blk4 K
  obtain ⟨x0, x1, x2, x3⟩ := blk4 X
  go_wp2_with fail
  refine (heldIntSS_b P (by omega) (by omega)).mono ?_
  rintro e w15 ⟨rfl, hb⟩
  clear k0 k1 k2 k3 x0 x1 x2 x3
  replace K := K.on hb
  replace X := X.on hb
  replace O := O.on hb
  replace P := P.on hb
  replace Q := Q.on hb
  replace G := G.trans (hb.mono G.size)
  clear hb
  obtain ⟨k0, k1, k2, k3⟩ := blk4 K
  obtain ⟨x0, x1, x2, x3⟩ := blk4 X
  go_wp2_with fail
  go_ret
  exact ⟨rfl, G⟩
end Go.Proofs.Ytdjdjceemfaigaa
