/- Contracts: HighestCell of the program and of the reference. -/
import Derived.Test.YtijmlagehdmfeaaStepTime
namespace Go.Proofs.Ytijmlagehdmfeaa
set_option linter.unusedVariables false
set_option linter.unusedSimpArgs false
open Go.RowKit
/-- The highest of the first k cells that are open. -/
def hcN (m : Mp) : Nat → Option Nat
  | 0 => none
  | k + 1 => if 0 < coA m k then (match hcN m k with | none => some k | some b => if riA m b < riA m k then some k else some b) else hcN m k
theorem hcN_lt (m : Mp) : ∀ k b, hcN m k = some b → b < k
  | 0, b, h => by cases h
  | k + 1, b, h => by
    rw [hcN] at h
    split at h
    · split at h
      · injection h with h; omega
      · next b' hb' =>
        have := hcN_lt m k b' hb'
        split at h
        · injection h with h; omega
        · injection h with h; omega
    · have := hcN_lt m k b h; omega
def bestI : Option Nat → Int | none => 0 | some b => b
def mostI (m : Mp) : Option Nat → Int | none => -1 | some b => riA m b
def bestS : Option Nat → Int | none => -1 | some b => b
def hcOk (m : Mp) : Bool := okM m && (hcN m m.co.length).isSome
def hcV (m : Mp) : Int := if okM m then bestI (hcN m m.co.length) else 0
theorem mostI_bd {m : Mp} (V : Valid m) (o : Option Nat) : -1 ≤ mostI m o ∧ mostI m o ≤ 9 := by
  cases o with
  | none => simp [mostI]
  | some b => have := V.ri_bd b; simp [mostI]; omega
set_option maxHeartbeats 2000000 in
theorem HighestCell_impl {m : Mp} {v : Value} {w : World} (hv : MapIn w m v) :
    Calls Try.prog 21 #[v] w fun e w' => e = .returned (.tuple #[.int .i64 (hcV m), .bool (hcOk m)]) ∧ Below w.heap.size w w' := by
  have hv' := hv
  obtain ⟨A, n, cp, B, k, d, rfl, h1, h2, h3, h4⟩ := hv
  cases hok : okM m
  · have e1 : hcOk m = false := by unfold hcOk; rw [hok]; rfl
    have e2 : hcV m = 0 := by unfold hcV; rw [hok]; rfl
    rw [e1, e2]; clear e1 e2
    go_enter Try.func21, Try.ntmps21
    go_wp2_with fail
    refine (IsMap_m (m := m) (by exact hv'.on (by repeat (first | exact Below.refl _ _ | refine below_drewN ?_ _ | refine Below.drew ?_ | refine Below.alloc ?_ (by first | omega | (simp; done) | (simp; omega)) _ | refine Below.setCell ?_ (by first | omega | (simp; done) | (simp; omega)) _)))).mono ?_
    rintro e w1 ⟨rfl, hb1⟩
    rw [hok]
    go_wp2_with fail
    go_ret2
    exact ⟨rfl, Below.trans (by repeat (first | exact Below.refl _ _ | refine below_drewN ?_ _ | refine Below.drew ?_ | refine Below.alloc ?_ (by first | omega | (simp; done) | (simp; omega)) _ | refine Below.setCell ?_ (by first | omega | (simp; done) | (simp; omega)) _)) (hb1.mono (by first | omega | (simp; done) | (simp; omega)))⟩
  · have V := valid_iff.1 hok
    have HOK := Lib.hid hok
    have HL := Lib.hid h2.len
    have HR := Lib.hid h1.len
    have hk36 : k ≤ 36 := by have := V.n36; have := h2.len; omega
    have hnk : k = n := by have := V.lc; have := h1.len; have := h2.len; omega
    have e1 : hcOk m = (hcN m k).isSome := by unfold hcOk; rw [hok, HL.out]; rfl
    have e2 : hcV m = bestI (hcN m k) := by unfold hcV; rw [hok, HL.out]; rfl
    rw [e1, e2]; clear e1 e2
    subst hnk
    go_enter Try.func21, Try.ntmps21
    go_wp2_with fail
    refine (IsMap_m (m := m) (by exact hv'.on (by repeat (first | exact Below.refl _ _ | refine below_drewN ?_ _ | refine Below.drew ?_ | refine Below.alloc ?_ (by first | omega | (simp; done) | (simp; omega)) _ | refine Below.setCell ?_ (by first | omega | (simp; done) | (simp; omega)) _)))).mono ?_
    rintro e w1 ⟨rfl, hb1⟩
    rw [hok]
    have G : Below w.heap.size w w1 := Below.trans (by repeat (first | exact Below.refl _ _ | refine below_drewN ?_ _ | refine Below.drew ?_ | refine Below.alloc ?_ (by first | omega | (simp; done) | (simp; omega)) _ | refine Below.setCell ?_ (by first | omega | (simp; done) | (simp; omega)) _)) (hb1.mono (by first | omega | (simp; done) | (simp; omega)))
    have K := (Blk.new w 28 [.int .i64 m.wd, .int .i64 m.ht, .slice A k cp, .slice B k d]).on hb1
    obtain ⟨k0, k1, k2, k3⟩ := blk4 K
    have hA1 := (h1.below G).more G.size
    have hB1 := (h2.below G).more G.size
    clear hok hb1
    go_wp2_with fail
    go_loopw [4, 5, 14] (fun b q i wr => ∃ (j : Nat) (o : Option Nat), j ≤ k ∧ i = .int .i64 j ∧ b = .int .i64 (bestI o) ∧ q = .int .i64 (mostI m o) ∧ Hid (hcN m j = o) ∧ ∃ z, wr = w1.drewN z) (fun _ _ i _ => k - (intOf i).toNat)
    case atStart => exact ⟨0, none, Nat.zero_le _, rfl, rfl, rfl, rfl, 0, rfl⟩
    case round =>
      obtain ⟨j, o, hj, rfl, rfl, rfl, HO, z, rfl⟩ := hrel
      by_cases hlt : j < k
      · obtain ⟨x, ox, rfl, _, hx⟩ := hA1.int hlt
        obtain ⟨y, oy, rfl, _, hy⟩ := hB1.int hlt
        have kr : j < m.ri.length := by rw [HR.out]; exact hlt
        have kc : j < m.co.length := by rw [HL.out]; exact hlt
        have c1 := hx j kr
        have c2 := hy j kc
        rw [← riA_nat] at c1
        rw [← coA_nat] at c2
        clear hx hy
        obtain ⟨r1, r2⟩ := V.ri_bd j
        obtain ⟨q1, q2⟩ := mostI_bd V o
        by_cases hpos : 0 < coA m j
        · by_cases hgt : mostI m o < riA m j
          · have HS : Hid (hcN m (j + 1) = some j) := by
              show _ = _
              rw [hcN, if_pos hpos, HO.out]
              cases o with
              | none => rfl
              | some b => exact if_pos hgt
            have HM : Hid (mostI m (some j) = riA m j) := rfl
            generalize coA m j = cj at *
            generalize mostI m o = mo at *
            generalize riA m j = rj at *
            go_wp2_with fail
            go_quiet (fail)
            go_wp2_with fail
            go_roundw
            case rel => exact ⟨j + 1, some j, by omega, by go_num, rfl, by rw [HM.out], HS, _, by first | rfl | exact World.drewN_drewN _ _ _⟩
            case measure => simp [intOf]; omega
          · have HS : Hid (hcN m (j + 1) = o) := by
              show _ = _
              rw [hcN, if_pos hpos, HO.out]
              cases o with
              | none => exact absurd (show mostI m none < riA m j by simp [mostI]; omega) hgt
              | some b => exact if_neg hgt
            have hgd : decide (mostI m o < riA m j) = false := by simpa using hgt
            go_wp2_with fail
            go_roundw
            case rel => exact ⟨j + 1, o, by omega, by go_num, rfl, rfl, HS, z, rfl⟩
            case measure => simp [intOf]; omega
        · have HS : Hid (hcN m (j + 1) = o) := by show _ = _; rw [hcN, if_neg hpos, HO.out]
          have hpd : decide (0 < coA m j) = false := by simpa using hpos
          go_wp2_with fail
          go_roundw
          case rel => exact ⟨j + 1, o, by omega, by go_num, rfl, rfl, HS, z, rfl⟩
          case measure => simp [intOf]; omega
      · have hjk : j = k := by omega
        have HO' : Hid (hcN m k = o) := by rw [← hjk]; exact HO
        clear hjk
        have hd : decide (0 ≤ mostI m o) = o.isSome := by
          cases o with
          | none => rfl
          | some b =>
            have h1 := (V.ri_bd b).1
            show decide (0 ≤ riA m b) = true
            rw [decide_eq_true_iff]; exact h1
        have HD := Lib.hid hd
        clear hd
        go_wp2_with fail
        go_ret2
        exact ⟨by rw [HO'.out]; first | rfl | (rw [← HD.out]; rfl), below_drewN G z⟩
set_option maxHeartbeats 2000000 in
theorem HighestCell_spec {m : Mp} {v : Value} {w : World} (hv : MapIn w m v) :
    Calls Try.prog 19 #[v] w fun e w' => e = .returned (.tuple #[.int .i64 (hcV m), .bool (hcOk m)]) ∧ Below w.heap.size w w' := by
  have hv' := hv
  obtain ⟨A, n, cp, B, k, d, rfl, h1, h2, h3, h4⟩ := hv
  cases hok : okM m
  · have e1 : hcOk m = false := by unfold hcOk; rw [hok]; rfl
    have e2 : hcV m = 0 := by unfold hcV; rw [hok]; rfl
    rw [e1, e2]; clear e1 e2
    go_enter Try.func19, Try.ntmps19
    go_wp2_with fail
    refine (l2Map_m (m := m) (by exact hv'.on (by repeat (first | exact Below.refl _ _ | refine below_drewN ?_ _ | refine Below.drew ?_ | refine Below.alloc ?_ (by first | omega | (simp; done) | (simp; omega)) _ | refine Below.setCell ?_ (by first | omega | (simp; done) | (simp; omega)) _)))).mono ?_
    rintro e w1 ⟨rfl, hb1⟩
    rw [hok]
    go_wp2_with fail
    go_ret2
    exact ⟨rfl, Below.trans (by repeat (first | exact Below.refl _ _ | refine below_drewN ?_ _ | refine Below.drew ?_ | refine Below.alloc ?_ (by first | omega | (simp; done) | (simp; omega)) _ | refine Below.setCell ?_ (by first | omega | (simp; done) | (simp; omega)) _)) (hb1.mono (by first | omega | (simp; done) | (simp; omega)))⟩
  · have V := valid_iff.1 hok
    have HL := Lib.hid h2.len
    have HR := Lib.hid h1.len
    have hk36 : k ≤ 36 := by have := V.n36; have := h2.len; omega
    have hnk : k = n := by have := V.lc; have := h1.len; have := h2.len; omega
    have e1 : hcOk m = (hcN m k).isSome := by unfold hcOk; rw [hok, HL.out]; rfl
    have e2 : hcV m = bestI (hcN m k) := by unfold hcV; rw [hok, HL.out]; rfl
    rw [e1, e2]; clear e1 e2
    subst hnk
    go_enter Try.func19, Try.ntmps19
    go_wp2_with fail
    refine (l2Map_m (m := m) (by exact hv'.on (by repeat (first | exact Below.refl _ _ | refine below_drewN ?_ _ | refine Below.drew ?_ | refine Below.alloc ?_ (by first | omega | (simp; done) | (simp; omega)) _ | refine Below.setCell ?_ (by first | omega | (simp; done) | (simp; omega)) _)))).mono ?_
    rintro e w1 ⟨rfl, hb1⟩
    rw [hok]
    have G : Below w.heap.size w w1 := Below.trans (by repeat (first | exact Below.refl _ _ | refine below_drewN ?_ _ | refine Below.drew ?_ | refine Below.alloc ?_ (by first | omega | (simp; done) | (simp; omega)) _ | refine Below.setCell ?_ (by first | omega | (simp; done) | (simp; omega)) _)) (hb1.mono (by first | omega | (simp; done) | (simp; omega)))
    have K := (Blk.new w 28 [.int .i64 m.wd, .int .i64 m.ht, .slice A k cp, .slice B k d]).on hb1
    obtain ⟨k0, k1, k2, k3⟩ := blk4 K
    have hA1 := (h1.below G).more G.size
    have hB1 := (h2.below G).more G.size
    clear hok hb1
    go_wp2_with fail
    go_loopw [4, 5] (fun b i wr => ∃ (j : Nat) (o : Option Nat), j ≤ k ∧ i = .int .i64 j ∧ b = .int .i64 (bestS o) ∧ Hid (hcN m j = o) ∧ ∃ z, wr = w1.drewN z) (fun _ i _ => k - (intOf i).toNat)
    case atStart => exact ⟨0, none, Nat.zero_le _, rfl, rfl, rfl, 0, rfl⟩
    case round =>
      obtain ⟨j, o, hj, rfl, rfl, HO, z, rfl⟩ := hrel
      by_cases hlt : j < k
      · obtain ⟨x, ox, rfl, _, hx⟩ := hA1.int hlt
        obtain ⟨y, oy, rfl, _, hy⟩ := hB1.int hlt
        have kr : j < m.ri.length := by rw [HR.out]; exact hlt
        have kc : j < m.co.length := by rw [HL.out]; exact hlt
        have c1 := hx j kr
        have c2 := hy j kc
        rw [← riA_nat] at c1
        rw [← coA_nat] at c2
        have hltI : (j : Int) < (k : Int) := by omega
        by_cases hpos : 0 < coA m j
        · cases o with
          | none =>
            have HS : Hid (hcN m (j + 1) = some j) := by show _ = _; rw [hcN, if_pos hpos, HO.out]
            have hb : bestS none = -1 := rfl
            rw [hb]
            clear hx hy hb
            go_wp2_with fail
            go_quiet (fail)
            go_wp2_with fail
            go_roundw
            case rel => exact ⟨j + 1, some j, by omega, by go_num, rfl, HS, _, by first | rfl | exact World.drewN_drewN _ _ _⟩
            case measure => simp [intOf]; omega
          | some b =>
            have hbj := hcN_lt m j b HO.out
            have kb : b < m.ri.length := by rw [HR.out]; omega
            have c3 := hx b kb
            rw [← riA_nat] at c3
            have hbI : (b : Int) < (k : Int) := by omega
            have hb : bestS (some b) = (b : Int) := rfl
            rw [hb]
            have hb0 : decide ((b : Int) < 0) = false := by simp
            clear hx hy hb
            by_cases hgt : riA m b < riA m j
            · have HS : Hid (hcN m (j + 1) = some j) := by show _ = _; rw [hcN, if_pos hpos, HO.out]; exact if_pos hgt
              go_wp2_with fail
              go_quiet (fail)
              go_wp2_with fail
              go_roundw
              case rel => exact ⟨j + 1, some j, by omega, by go_num, rfl, HS, _, by first | rfl | exact World.drewN_drewN _ _ _⟩
              case measure => simp [intOf]; omega
            · have HS : Hid (hcN m (j + 1) = some b) := by show _ = _; rw [hcN, if_pos hpos, HO.out]; exact if_neg hgt
              have hgd : decide (riA m b < riA m j) = false := by simpa using hgt
              go_wp2_with fail
              go_quiet (fail)
              go_wp2_with fail
              go_roundw
              case rel => exact ⟨j + 1, some b, by omega, by go_num, rfl, HS, _, by first | rfl | exact World.drewN_drewN _ _ _⟩
              case measure => simp [intOf]; omega
        · have HS : Hid (hcN m (j + 1) = o) := by show _ = _; rw [hcN, if_neg hpos, HO.out]
          have hpd : decide (0 < coA m j) = false := by simpa using hpos
          clear hx hy
          go_wp2_with fail
          go_quiet (fail)
          go_wp2_with fail
          go_roundw
          case rel => exact ⟨j + 1, o, by omega, by go_num, rfl, HS, _, by first | rfl | exact World.drewN_drewN _ _ _⟩
          case measure => simp [intOf]; omega
      · have hjk : j = k := by omega
        have HO' : Hid (hcN m k = o) := by rw [← hjk]; exact HO
        clear hjk
        cases o with
        | none =>
          have hb : bestS none = -1 := rfl
          rw [hb]
          go_wp2_with fail
          go_ret2
          exact ⟨by rw [HO'.out]; rfl, below_drewN G z⟩
        | some b =>
          have hb : bestS (some b) = (b : Int) := rfl
          rw [hb]
          have hb0 : decide ((b : Int) < 0) = false := by simp
          go_wp2_with fail
          go_ret2
          exact ⟨by rw [HO'.out]; rfl, below_drewN G z⟩
end Go.Proofs.Ytijmlagehdmfeaa
