/- The walk of FnExactMapText. -/
import Derived.Test.YtijmlagehdmfeaaDoorMtx
import Derived.Test.YtijmlagehdmfeaaDoorCh
import Derived.Test.YtijmlagehdmfeaaDoorToInts
import Derived.Test.YtijmlagehdmfeaaDoorOpenMap
import Derived.Deep.RegionWith
import Derived.Deep.DeepCutAuto
namespace Go.Proofs.YtijmlagehdmfeaaDoor
set_option linter.unusedVariables false
set_option linter.unusedSimpArgs false
open Go.RowKit
set_option maxRecDepth 100000 in
set_option maxHeartbeats 4000000 in
theorem law_MapText {wd ht : Int} {A : Option Addr} {n c : Nat} {B : Option Addr} {m d : Nat} {ri co : List Int} (w : World) (_ : I64 wd) (_ : I64 ht)
    (hA : n ≤ maxLen ∧ c ≤ maxLen ∧ Rd w w.heap.size 1 A n (ints ri) ∧ ∀ x ∈ ri, I64 x) (hB : m ≤ maxLen ∧ d ≤ maxLen ∧ Rd w w.heap.size 1 B m (ints co) ∧ ∀ x ∈ co, I64 x) (T : Tab w) :
    Calls Tryd.prog 3 #[.agg #[.int .i64 wd, .int .i64 ht, .slice A n c, .slice B m d]] w fun e w' => e = .returned (.bool true) ∧ Below w.heap.size w w' := by
  obtain ⟨hn, _, hA, _⟩ := hA
  obtain ⟨hm, _, hB, _⟩ := hB
  by_cases hs : 1048576 < n + m
  · go_enter Tryd.func3, Tryd.ntmps3
    go_wp2_with fail
    refine (szMap_any hn hm).mono ?_
    rintro e w1 ⟨rfl, hb1⟩
    rw [if_pos hs]
    go_wp2_with fail
    go_ret
    exact ⟨rfl, Below.trans (by repeat (first | exact Below.refl _ _ | refine below_drewN ?_ _ | refine Below.drew ?_ | refine Below.alloc ?_ (by first | omega | (simp; done) | (simp; omega)) _ | refine Below.setCell ?_ (by first | omega | (simp; done) | (simp; omega)) _)) (hb1.mono (by first | omega | (simp; done) | (simp; omega)))⟩
  have hsn : n ≤ 1048576 := by omega
  have hsm : m ≤ 1048576 := by omega
  obtain ⟨mp, rfl, rfl, rfl, rfl⟩ : ∃ mp : Mp, mp.wd = wd ∧ mp.ht = ht ∧ mp.ri = ri ∧ mp.co = co := ⟨⟨wd, ht, ri, co⟩, rfl, rfl, rfl, rfl⟩
  have LR := Lib.hid hA.len
  have LC := Lib.hid hB.len
  have vne0 : ((mtV mp).toList != (mtV mp).toList) = false := by simp
  have vne1 : (mtOk mp != mtOk mp) = false := by simp
  go_enter Tryd.func3, Tryd.ntmps3
  go_wp2_with fail
  refine (szMap_any hn hm).mono ?_
  rintro e w1 ⟨rfl, hb⟩
  rw [if_neg hs]
  have G : Below w.heap.size w w1 := Below.trans (by repeat (first | exact Below.refl _ _ | refine below_drewN ?_ _ | refine Below.drew ?_ | refine Below.alloc ?_ (by first | omega | (simp; done) | (simp; omega)) _ | refine Below.setCell ?_ (by first | omega | (simp; done) | (simp; omega)) _)) (hb.mono (by first | omega | (simp; done) | (simp; omega)))
  have K := (Blk.new w 24 [.int .i64 mp.wd, .int .i64 mp.ht, .slice A n c, .slice B m d]).on hb
  clear hb
  obtain ⟨k0, k1, k2, k3⟩ := blk4 K
  go_wp2_with fail
  refine (toMap_any ((hA.below G).more G.size) ((hB.below G).more G.size) hsn hsm).mono ?_
  rintro e w2 ⟨g1, g2, rfl, M1, M2, hg1, hg2, hb⟩
  clear k0 k1 k2 k3
  replace K := K.on hb
  replace G := G.trans (hb.mono G.size)
  clear hb
  obtain ⟨k0, k1, k2, k3⟩ := blk4 K
  go_wp2_with fail
  refine (MapText_spec (m := mp) (MapIn.mk' (m := mp) (M1.rd (size := 1) (n := n) (by simp [ints, LR.out])) (M2.rd (size := 1) (n := m) (by simp [ints, LC.out])) hn hm)).mono ?_
  rintro e w3 ⟨rfl, hb⟩
  clear k0 k1 k2 k3
  replace K := K.on hb
  replace G := G.trans (hb.mono G.size)
  clear hb M1 M2 hg1 hg2
  obtain ⟨k0, k1, k2, k3⟩ := blk4 K
  have ltK := K.lt
  go_wp2_with fail
  refine (toMap_any ((hA.below G).more G.size) ((hB.below G).more G.size) hsn hsm).mono ?_
  rintro e w4 ⟨g3, g4, rfl, M3, M4, hg3, hg4, hb⟩
  clear k0 k1 k2 k3
  replace K := K.on hb
  replace G := G.trans (hb.mono G.size)
  clear hb
  obtain ⟨k0, k1, k2, k3⟩ := blk4 K
  have lt4 := M4.lt
  go_wp2_with fail
  clear k0 k1 k2 k3
  replace K := K.alloc (.cells #[.int .i64 mp.wd, .int .i64 mp.ht, .slice (some ⟨g3, 0, none⟩) n n, .slice (some ⟨g4, 0, none⟩) m m] 28)
  replace M3 := M3.alloc (.cells #[.int .i64 mp.wd, .int .i64 mp.ht, .slice (some ⟨g3, 0, none⟩) n n, .slice (some ⟨g4, 0, none⟩) m m] 28)
  replace M4 := M4.alloc (.cells #[.int .i64 mp.wd, .int .i64 mp.ht, .slice (some ⟨g3, 0, none⟩) n n, .slice (some ⟨g4, 0, none⟩) m m] 28)
  have X := Blk.new w4 28 [.int .i64 mp.wd, .int .i64 mp.ht, .slice (some ⟨g3, 0, none⟩) n n, .slice (some ⟨g4, 0, none⟩) m m]
  replace G := G.alloc G.size (.cells #[.int .i64 mp.wd, .int .i64 mp.ht, .slice (some ⟨g3, 0, none⟩) n n, .slice (some ⟨g4, 0, none⟩) m m] 28)
  have hz : w4.heap.size < (w4.alloc (.cells #[.int .i64 mp.wd, .int .i64 mp.ht, .slice (some ⟨g3, 0, none⟩) n n, .slice (some ⟨g4, 0, none⟩) m m] 28)).heap.size := by simp
  generalize w4.alloc (.cells #[.int .i64 mp.wd, .int .i64 mp.ht, .slice (some ⟨g3, 0, none⟩) n n, .slice (some ⟨g4, 0, none⟩) m m] 28) = w5 at *
  obtain ⟨k0, k1, k2, k3⟩ := blk4 K
  obtain ⟨x0, x1, x2, x3⟩ := blk4 X
  have ltX := X.lt
  have ltK2 := K.lt
  have szG := G.size
  refine (MapText_impl (m := mp) (MapIn.mk' (m := mp) (M3.rd (size := 1) (n := n) (by simp [ints, LR.out])) (M4.rd (size := 1) (n := m) (by simp [ints, LC.out])) hn hm) (T.on G)).mono ?_
  rintro e w6 ⟨rfl, hb⟩
  clear k0 k1 k2 k3 x0 x1 x2 x3
  replace K := K.on hb
  replace X := X.on hb
  replace M3 := M3.on hb
  replace M4 := M4.on hb
  replace G := G.trans (hb.mono G.size)
  clear hb
  obtain ⟨k0, k1, k2, k3⟩ := blk4 K
  obtain ⟨x0, x1, x2, x3⟩ := blk4 X
  go_upto_region 10 with (fail)
  go_cut [39] (fun t wx => t = .bool false ∧ Below w6.heap.size w6 wx)
  case first =>
    have hA6 : Rd w6.drew w6.drew.heap.size 1 A n (ints mp.ri) := (hA.below G).more G.size
    have hB6 : Rd w6.drew w6.drew.heap.size 1 B m (ints mp.co) := (hB.below G).more G.size
    have X6 : Blk w6.drew w4.heap.size 28 [.int .i64 mp.wd, .int .i64 mp.ht, .slice (some ⟨g3, 0, none⟩) n n, .slice (some ⟨g4, 0, none⟩) m m] := X
    have M36 : Blk w6.drew g3 3 (ints mp.ri) := M3
    have M46 : Blk w6.drew g4 3 (ints mp.co) := M4
    go_region_with (first | (go_at_call 8; refine (toMap_any hA6 hB6 hsn hsm).mono ?_; rintro e wy ⟨g5, g6, rfl, M5, M6, hg5, hg6, hb6⟩; obtain ⟨y0, y1, y2, y3⟩ := blk4 (X6.on hb6)) | (go_at_call 10; refine (eqMap_same ((M36.on hb6).rd (size := 1) (n := n) (by simp [ints, LR.out])) ((M46.on hb6).rd (size := 1) (n := m) (by simp [ints, LC.out])) hn hm (M5.rd (size := 1) (n := n) (by simp [ints, LR.out])) (M6.rd (size := 1) (n := m) (by simp [ints, LC.out]))).mono ?_; rintro e wz ⟨rfl, hb7⟩))
    all_goals
      go_wp2_with fail
      go_meet
      exact ⟨rfl, (Below.refl _ _).drew.trans (hb6.trans (hb7.mono hb6.size))⟩
  case rest =>
  obtain ⟨rfl, hb⟩ := hcut
  clear k0 k1 k2 k3 x0 x1 x2 x3
  replace K := K.on hb
  replace X := X.on hb
  replace M3 := M3.on hb
  replace M4 := M4.on hb
  replace G := G.trans (hb.mono G.size)
  clear hb
  obtain ⟨k0, k1, k2, k3⟩ := blk4 K
  obtain ⟨x0, x1, x2, x3⟩ := blk4 X
  go_wp2_with fail
  go_ret
  exact ⟨rfl, G⟩
end Go.Proofs.YtijmlagehdmfeaaDoor
