/- Contracts: which cells a Map has, and which are open; a step's time in the reference. -/
import Derived.Test.YtijmlagehdmfeaaCells
namespace Go.Proofs.Ytijmlagehdmfeaa
set_option linter.unusedVariables false
set_option linter.unusedSimpArgs false
open Go.RowKit
def inM (m : Mp) (c : Int) : Bool := insideB c 0 (m.co.length - 1)
def opM (m : Mp) (c : Int) : Bool := inM m c && decide (0 < coA m c)
theorem inM_iff {m : Mp} {c : Int} : inM m c = true ↔ 0 ≤ c ∧ c < m.co.length := by
  unfold inM; rw [insideB_iff]; omega
theorem opM_iff {m : Mp} {c : Int} : opM m c = true ↔ (0 ≤ c ∧ c < m.co.length) ∧ 0 < coA m c := by
  unfold opM; rw [Bool.and_eq_true, inM_iff, decide_eq_true_eq]
set_option maxHeartbeats 1000000 in
theorem isCell_any {m : Mp} {v : Value} {c : Int} {w : World} (hv : MapIn w m v) :
    Calls Try.prog 74 #[v, .int .i64 c] w fun e w' => e = .returned (.bool (okM m && inM m c)) ∧ Below w.heap.size w w' := by
  have hv' := hv
  obtain ⟨A, n, cp, B, k, d, rfl, h1, h2, h3, h4⟩ := hv
  have HL := Lib.hid h2.len
  unfold maxLen at h3 h4
  cases hok : okM m
  · go_enter Try.func74, Try.ntmps74
    go_wp2_with fail
    refine (IsMap_m (m := m) (by exact hv'.on (by repeat (first | exact Below.refl _ _ | refine below_drewN ?_ _ | refine Below.drew ?_ | refine Below.alloc ?_ (by first | omega | (simp; done) | (simp; omega)) _ | refine Below.setCell ?_ (by first | omega | (simp; done) | (simp; omega)) _)))).mono ?_
    rintro e w1 ⟨rfl, hb1⟩
    rw [hok]
    go_wp2_with fail
    go_ret
    exact ⟨rfl, Below.trans (by repeat (first | exact Below.refl _ _ | refine below_drewN ?_ _ | refine Below.drew ?_ | refine Below.alloc ?_ (by first | omega | (simp; done) | (simp; omega)) _ | refine Below.setCell ?_ (by first | omega | (simp; done) | (simp; omega)) _)) (hb1.mono (by first | omega | (simp; done) | (simp; omega)))⟩
  · go_enter Try.func74, Try.ntmps74
    go_wp2_with fail
    refine (IsMap_m (m := m) (by exact hv'.on (by repeat (first | exact Below.refl _ _ | refine below_drewN ?_ _ | refine Below.drew ?_ | refine Below.alloc ?_ (by first | omega | (simp; done) | (simp; omega)) _ | refine Below.setCell ?_ (by first | omega | (simp; done) | (simp; omega)) _)))).mono ?_
    rintro e w1 ⟨rfl, hb1⟩
    rw [hok]
    obtain ⟨k0, k1, k2, k3⟩ := blk4 ((Blk.new w 28 [.int .i64 m.wd, .int .i64 m.ht, .slice A n cp, .slice B k d]).on hb1)
    go_wp2_with fail
    refine (inside_any _ _ _ _).mono ?_
    rintro e w2 ⟨rfl, rfl⟩
    go_wp2_with fail
    go_ret
    exact ⟨ret_bool (by unfold inM; rw [HL.out]; simp), Below.trans (by repeat (first | exact Below.refl _ _ | refine below_drewN ?_ _ | refine Below.drew ?_ | refine Below.alloc ?_ (by first | omega | (simp; done) | (simp; omega)) _ | refine Below.setCell ?_ (by first | omega | (simp; done) | (simp; omega)) _)) (hb1.mono (by first | omega | (simp; done) | (simp; omega)))⟩
set_option maxHeartbeats 1000000 in
theorem isOpen_any {m : Mp} {v : Value} {c : Int} {w : World} (hv : MapIn w m v) :
    Calls Try.prog 70 #[v, .int .i64 c] w fun e w' => e = .returned (.bool (okM m && opM m c)) ∧ Below w.heap.size w w' := by
  have hv' := hv
  obtain ⟨A, n, cp, B, k, d, rfl, h1, h2, h3, h4⟩ := hv
  have HL := Lib.hid h2.len
  unfold maxLen at h3 h4
  cases hok : okM m && inM m c
  · have e0 : (okM m && opM m c) = false := by
      unfold opM
      cases h : okM m
      · rfl
      · rw [h] at hok; simp at hok; simp [hok]
    rw [e0]
    clear e0
    go_enter Try.func70, Try.ntmps70
    go_wp2_with fail
    refine (isCell_any (m := m) (by exact hv'.on (by repeat (first | exact Below.refl _ _ | refine below_drewN ?_ _ | refine Below.drew ?_ | refine Below.alloc ?_ (by first | omega | (simp; done) | (simp; omega)) _ | refine Below.setCell ?_ (by first | omega | (simp; done) | (simp; omega)) _)))).mono ?_
    rintro e w1 ⟨rfl, hb1⟩
    rw [hok]
    go_wp2_with fail
    go_ret
    exact ⟨rfl, Below.trans (by repeat (first | exact Below.refl _ _ | refine below_drewN ?_ _ | refine Below.drew ?_ | refine Below.alloc ?_ (by first | omega | (simp; done) | (simp; omega)) _ | refine Below.setCell ?_ (by first | omega | (simp; done) | (simp; omega)) _)) (hb1.mono (by first | omega | (simp; done) | (simp; omega)))⟩
  · have hok' := hok
    rw [Bool.and_eq_true, inM_iff] at hok'
    obtain ⟨o1, o2, o3⟩ := hok'
    have e0 : (okM m && opM m c) = decide (0 < coA m c) := by
      unfold opM; rw [o1, inM_iff.2 ⟨o2, o3⟩]; simp
    rw [e0]
    clear e0 o1
    obtain ⟨c, rfl⟩ := Int.eq_ofNat_of_zero_le o2
    have kc : c < m.co.length := by omega
    have hck : (c : Int) < (k : Int) := by have := HL.out; omega
    rw [coA_nat m kc]
    have HO := Lib.hid hok
    clear hok o3
    go_enter Try.func70, Try.ntmps70
    go_wp2_with fail
    refine (isCell_any (m := m) (by exact hv'.on (by repeat (first | exact Below.refl _ _ | refine below_drewN ?_ _ | refine Below.drew ?_ | refine Below.alloc ?_ (by first | omega | (simp; done) | (simp; omega)) _ | refine Below.setCell ?_ (by first | omega | (simp; done) | (simp; omega)) _)))).mono ?_
    rintro e w1 ⟨rfl, hb1⟩
    rw [HO.out]
    obtain ⟨k0, k1, k2, k3⟩ := blk4 ((Blk.new w 28 [.int .i64 m.wd, .int .i64 m.ht, .slice A n cp, .slice B k d]).on hb1)
    obtain ⟨y, oy, rfl, _, hy⟩ := Rd.int (Rd.on (Rd.on h2 (by repeat (first | exact Below.refl _ _ | refine below_drewN ?_ _ | refine Below.drew ?_ | refine Below.alloc ?_ (by first | omega | (simp; done) | (simp; omega)) _ | refine Below.setCell ?_ (by first | omega | (simp; done) | (simp; omega)) _))) hb1) (k := c) (by omega)
    have c3 := hy c kc
    clear hy
    go_wp2_with fail
    go_ret
    exact ⟨rfl, Below.trans (by repeat (first | exact Below.refl _ _ | refine below_drewN ?_ _ | refine Below.drew ?_ | refine Below.alloc ?_ (by first | omega | (simp; done) | (simp; omega)) _ | refine Below.setCell ?_ (by first | omega | (simp; done) | (simp; omega)) _)) (hb1.mono (by first | omega | (simp; done) | (simp; omega)))⟩
set_option maxHeartbeats 1000000 in
theorem l2Cell_any {m : Mp} {v : Value} {c : Int} {w : World} (hv : MapIn w m v) (V : Valid m) :
    Calls Try.prog 73 #[v, .int .i64 c] w fun e w' => e = .returned (.bool (inM m c)) ∧ Below w.heap.size w w' := by
  obtain ⟨A, n, cp, B, k, d, rfl, h1, h2, h3, h4⟩ := hv
  have HN := Lib.hid V.n
  have hn := V.n36
  have b1 : 0 ≤ m.wd * m.ht ∧ m.wd * m.ht ≤ 36 := by rw [← V.n]; omega
  obtain ⟨b11, b12⟩ := b1
  clear hn
  go_enter Try.func73, Try.ntmps73
  go_wp2_with fail
  try go_quiet (fail)
  try go_wp2_with fail
  refine (l1In_any _ _ _ _).mono ?_
  rintro e w1 ⟨rfl, rfl⟩
  go_wp2_with fail
  go_ret
  exact ⟨ret_bool (by unfold inM; rw [HN.out]), (by repeat (first | exact Below.refl _ _ | refine below_drewN ?_ _ | refine Below.drew ?_ | refine Below.alloc ?_ (by first | omega | (simp; done) | (simp; omega)) _ | refine Below.setCell ?_ (by first | omega | (simp; done) | (simp; omega)) _))⟩
set_option maxHeartbeats 1000000 in
theorem l2Open_any {m : Mp} {v : Value} {c : Int} {w : World} (hv : MapIn w m v) (V : Valid m) :
    Calls Try.prog 66 #[v, .int .i64 c] w fun e w' => e = .returned (.bool (opM m c)) ∧ Below w.heap.size w w' := by
  have hv' := hv
  obtain ⟨A, n, cp, B, k, d, rfl, h1, h2, h3, h4⟩ := hv
  have HL := Lib.hid h2.len
  unfold maxLen at h3 h4
  cases hok : inM m c
  · have e0 : opM m c = false := by unfold opM; rw [hok]; rfl
    rw [e0]
    clear e0
    go_enter Try.func66, Try.ntmps66
    go_wp2_with fail
    refine (l2Cell_any (m := m) (by exact hv'.on (by repeat (first | exact Below.refl _ _ | refine below_drewN ?_ _ | refine Below.drew ?_ | refine Below.alloc ?_ (by first | omega | (simp; done) | (simp; omega)) _ | refine Below.setCell ?_ (by first | omega | (simp; done) | (simp; omega)) _))) V).mono ?_
    rintro e w1 ⟨rfl, hb1⟩
    rw [hok]
    go_wp2_with fail
    go_ret
    exact ⟨rfl, Below.trans (by repeat (first | exact Below.refl _ _ | refine below_drewN ?_ _ | refine Below.drew ?_ | refine Below.alloc ?_ (by first | omega | (simp; done) | (simp; omega)) _ | refine Below.setCell ?_ (by first | omega | (simp; done) | (simp; omega)) _)) (hb1.mono (by first | omega | (simp; done) | (simp; omega)))⟩
  · obtain ⟨o2, o3⟩ := inM_iff.1 hok
    have e0 : opM m c = decide (0 < coA m c) := by unfold opM; rw [hok]; rfl
    rw [e0]
    clear e0
    obtain ⟨c, rfl⟩ := Int.eq_ofNat_of_zero_le o2
    have kc : c < m.co.length := by omega
    have hck : (c : Int) < (k : Int) := by have := HL.out; omega
    rw [coA_nat m kc]
    have HO := Lib.hid hok
    clear hok o3
    go_enter Try.func66, Try.ntmps66
    go_wp2_with fail
    refine (l2Cell_any (m := m) (by exact hv'.on (by repeat (first | exact Below.refl _ _ | refine below_drewN ?_ _ | refine Below.drew ?_ | refine Below.alloc ?_ (by first | omega | (simp; done) | (simp; omega)) _ | refine Below.setCell ?_ (by first | omega | (simp; done) | (simp; omega)) _))) V).mono ?_
    rintro e w1 ⟨rfl, hb1⟩
    rw [HO.out]
    obtain ⟨k0, k1, k2, k3⟩ := blk4 ((Blk.new w 28 [.int .i64 m.wd, .int .i64 m.ht, .slice A n cp, .slice B k d]).on hb1)
    obtain ⟨y, oy, rfl, _, hy⟩ := Rd.int (Rd.on (Rd.on h2 (by repeat (first | exact Below.refl _ _ | refine below_drewN ?_ _ | refine Below.drew ?_ | refine Below.alloc ?_ (by first | omega | (simp; done) | (simp; omega)) _ | refine Below.setCell ?_ (by first | omega | (simp; done) | (simp; omega)) _))) hb1) (k := c) (by omega)
    have c3 := hy c kc
    clear hy
    go_wp2_with fail
    go_ret
    exact ⟨rfl, Below.trans (by repeat (first | exact Below.refl _ _ | refine below_drewN ?_ _ | refine Below.drew ?_ | refine Below.alloc ?_ (by first | omega | (simp; done) | (simp; omega)) _ | refine Below.setCell ?_ (by first | omega | (simp; done) | (simp; omega)) _)) (hb1.mono (by first | omega | (simp; done) | (simp; omega)))⟩
theorem l1Most_any (a b : Int) (w : World) :
    Calls Try.prog 94 #[.int .i64 a, .int .i64 b] w fun e w' => e = .returned (.int .i64 (max a b)) ∧ w = w' := by
  by_cases h : b < a
  all_goals
    go_enter Try.func94, Try.ntmps94
    go_wp2
    go_ret
    exact ⟨ret_int (by omega), rfl⟩
set_option maxHeartbeats 1000000 in
theorem l2Step_any {m : Mp} {v : Value} {a b : Int} {w : World} (hv : MapIn w m v) (V : Valid m) (ha : 0 ≤ a) (ha2 : a < m.co.length) (hb : 0 ≤ b) (hb2 : b < m.co.length) :
    Calls Try.prog 69 #[v, .int .i64 a, .int .i64 b] w fun e w' => e = .returned (.int .i64 (stepV m a b)) ∧ Below w.heap.size w w' := by
  obtain ⟨A, n, c, B, k, d, rfl, h1, h2, h3, h4⟩ := hv
  obtain ⟨a, rfl⟩ := Int.eq_ofNat_of_zero_le ha
  obtain ⟨b, rfl⟩ := Int.eq_ofNat_of_zero_le hb
  have l1 := h1.len
  have l2 := h2.len
  have l3 := V.lc
  have kr1 : a < m.ri.length := by omega
  have kr2 : b < m.ri.length := by omega
  have kr3 : b < m.co.length := by omega
  obtain ⟨x, ox, rfl, _, hx⟩ := Rd.int (Rd.on h1 (show Below w.heap.size w (w.alloc (.cells #[.int .i64 m.wd, .int .i64 m.ht, .slice A n c, .slice B k d] 28)) from (by repeat (first | exact Below.refl _ _ | refine below_drewN ?_ _ | refine Below.drew ?_ | refine Below.alloc ?_ (by first | omega | (simp; done) | (simp; omega)) _ | refine Below.setCell ?_ (by first | omega | (simp; done) | (simp; omega)) _)))) (k := a) (by omega)
  obtain ⟨y, oy, rfl, _, hy⟩ := Rd.int (Rd.on h2 (show Below w.heap.size w (w.alloc (.cells #[.int .i64 m.wd, .int .i64 m.ht, .slice (some ⟨x, ox, none⟩) n c, .slice B k d] 28)) from (by repeat (first | exact Below.refl _ _ | refine below_drewN ?_ _ | refine Below.drew ?_ | refine Below.alloc ?_ (by first | omega | (simp; done) | (simp; omega)) _ | refine Below.setCell ?_ (by first | omega | (simp; done) | (simp; omega)) _)))) (k := b) (by omega)
  have c1 := hx a kr1
  have c2 := hx b kr2
  have c3 := hy b kr3
  rw [← riA_nat] at c1 c2
  rw [← coA_nat] at c3
  obtain ⟨q11, q12⟩ := V.ri_bd a
  obtain ⟨q21, q22⟩ := V.ri_bd b
  obtain ⟨q31, q32⟩ := V.co_bd b
  unfold stepV
  generalize riA m a = ra at *
  generalize riA m b = rb at *
  generalize coA m b = cb at *
  have i1 : (a : Int) < (n : Int) := by omega
  have i2 : (b : Int) < (n : Int) := by omega
  have i3 : (b : Int) < (k : Int) := by omega
  clear hx hy l1 l2 l3
  unfold maxLen at h3 h4
  have m1 : 0 ≤ max 0 (rb - ra) ∧ max 0 (rb - ra) ≤ 9 := by omega
  have m2 : 0 ≤ max 0 (-(rb - ra) - 2) ∧ max 0 (-(rb - ra) - 2) ≤ 9 := by omega
  obtain ⟨m11, m12⟩ := m1
  obtain ⟨m21, m22⟩ := m2
  go_enter Try.func69, Try.ntmps69
  go_wp2_with fail
  go_quiet (fail)
  go_wp2_with fail
  go_quiet ((go_at_call 94; exact quiet_add_left (l1Most_any _ _ _)))
  go_wp2_with fail
  go_ret
  exact ⟨ret_int (by omega), (by repeat (first | exact Below.refl _ _ | refine below_drewN ?_ _ | refine Below.drew ?_ | refine Below.alloc ?_ (by first | omega | (simp; done) | (simp; omega)) _ | refine Below.setCell ?_ (by first | omega | (simp; done) | (simp; omega)) _))⟩
end Go.Proofs.Ytijmlagehdmfeaa
