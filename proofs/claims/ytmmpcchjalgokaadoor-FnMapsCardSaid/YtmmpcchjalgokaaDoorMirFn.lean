/- Contracts: MirrorMap and TurnMap of the program. -/
import Derived.Test.YtmmpcchjalgokaaDoorMirror
namespace Go.Proofs.YtmmpcchjalgokaaDoor
set_option linter.unusedVariables false
set_option linter.unusedSimpArgs false
open Go.RowKit
def mpN (z : Int) : Nat := z.toNat
def zM : Mp := ⟨0, 0, [], []⟩
def mrM (m : Mp) : Mp := if okM m = true then ⟨m.wd, m.ht, allL m.ri (mirI m) m.wd.toNat m.ht.toNat, allL m.co (mirI m) m.wd.toNat m.ht.toNat⟩ else zM
def tnM (m : Mp) : Mp := if okM m = true then ⟨m.ht, m.wd, allL m.ri (trnI m) m.ht.toNat m.wd.toNat, allL m.co (trnI m) m.ht.toNat m.wd.toNat⟩ else zM
/-- A call that ends with the map r (its cells in two rows of the call's own, apart) and a bool. -/
def MapEnd (w : World) (r : Mp) (ok : Bool) (e : Ending) (w' : World) : Prop := ∃ (A B : Option Addr) (c d : Nat), e = .returned (.tuple #[.agg #[.int .i64 r.wd, .int .i64 r.ht, .slice A r.ri.length c, .slice B r.co.length d], .bool ok]) ∧ w'.ownsRow w.heap.size 3 1 (.slice A r.ri.length c) r.ri.length (ints r.ri) ∧ w'.ownsRow w.heap.size 3 1 (.slice B r.co.length d) r.co.length (ints r.co) ∧ (∀ k, Value.ownBlock (.slice A r.ri.length c) = some k → Value.ownBlock (.slice B r.co.length d) ≠ some k) ∧ Below w.heap.size w w'
theorem mapEnd_zero {w w' : World} (G : Below w.heap.size w w') : MapEnd w zM false (.returned (.tuple #[.agg #[.int .i64 0, .int .i64 0, .slice none 0 0, .slice none 0 0], .bool false])) w' :=
  ⟨none, none, 0, 0, rfl, World.ownsRow_nil _ _ _ _, World.ownsRow_nil _ _ _ _, fun k h => by simp [Value.ownBlock] at h, G⟩
theorem two_newM (w : World) (t : TypeId) (c1 c2 : List Value) : Blk ((w.alloc (.cells c1.toArray t)).alloc (.cells c2.toArray t)) w.heap.size t c1 ∧ Blk ((w.alloc (.cells c1.toArray t)).alloc (.cells c2.toArray t)) (w.heap.size + 1) t c2 := by
  have s1 : (w.alloc (.cells c1.toArray t)).heap.size = w.heap.size + 1 := by simp
  have B2 := Blk.new (w.alloc (.cells c1.toArray t)) t c2
  rw [s1] at B2
  exact ⟨(Blk.new w t c1).alloc _, B2⟩
set_option maxRecDepth 100000 in
set_option maxHeartbeats 2000000 in
theorem mirIdx {m : Mp} (V : Valid m) {cs : List Value} {g : Nat} {w : World} (K : Blk w g 47 [.int .i64 m.wd, .int .i64 m.ht, cs.getD 0 default, cs.getD 1 default]) :
    FnIdx Tryd.prog 107 #[.pointer (some ⟨g, 0, none⟩)] m.wd.toNat m.ht.toNat (mirI m) w := by
  intro x y W9 hx hy hb
  have K9 := K.on hb
  obtain ⟨i1, i2, i3, i4⟩ := mirI_bd V hx hy
  have w1 := V.w1; have w6 := V.w6; have h1 := V.h1; have h6 := V.h6
  have hlc : m.co.length ≤ 36 := by have := V.n36; have := V.lc; omega
  have HE : Hid (mirI m x y = (y : Int) * m.wd + m.wd - 1 - (x : Int)) := (rfl : mirI m x y = _)
  rw [HE.out] at i1 i2
  have e1 : IntKind.i64.wrap ((y : Int) * m.wd) = (y : Int) * m.wd := IntWalk.i64_in _ (by omega)
  have e2 : IntKind.i64.wrap ((y : Int) * m.wd + m.wd) = (y : Int) * m.wd + m.wd := IntWalk.i64_in _ (by omega)
  have e3 : IntKind.i64.wrap ((y : Int) * m.wd + m.wd - 1) = (y : Int) * m.wd + m.wd - 1 := IntWalk.i64_in _ (by omega)
  have e4 : IntKind.i64.wrap ((y : Int) * m.wd + m.wd - 1 - (x : Int)) = (y : Int) * m.wd + m.wd - 1 - (x : Int) := IntWalk.i64_in _ (by omega)
  clear i1 i2
  obtain ⟨k0, k1, k2, k3⟩ := blk4 K9
  go_enter Tryd.func107, Tryd.ntmps107
  go_wp2_with fail
  go_ret
  exact ⟨by rw [HE.out]; rfl, Below.refl _ _⟩
set_option maxRecDepth 100000 in
set_option maxHeartbeats 2000000 in
theorem MirrorMap_impl {m : Mp} {v : Value} {w : World} (hv : MapIn w m v) :
    Calls Tryd.prog 49 #[v] w fun e w' => MapEnd w (mrM m) (okM m) e w' := by
  have HM : ∀ W : World, Below w.heap.size w W → _ := fun W hb => IsMap_m (hv.on hb)
  have HV := Lib.hid hv
  obtain ⟨A, n, cp, B, k, d, rfl, h1, h2, h3, h4⟩ := hv
  obtain ⟨K0, Z0⟩ := two_newM w 47 [.int .i64 m.wd, .int .i64 m.ht, .slice A n cp, .slice B k d] [.int .i64 0, .int .i64 0, .slice none 0 0, .slice none 0 0]
  have G0 : Below w.heap.size w ((w.alloc (.cells #[.int .i64 m.wd, .int .i64 m.ht, .slice A n cp, .slice B k d] 47)).alloc (.cells #[.int .i64 0, .int .i64 0, .slice none 0 0, .slice none 0 0] 47)) := (by repeat (first | exact Below.refl _ _ | refine below_drewN ?_ _ | refine Below.drew ?_ | refine Below.alloc ?_ (by first | omega | (simp; done) | (simp; omega)) _ | refine Below.setCell ?_ (by first | omega | (simp; done) | (simp; omega)) _))
  obtain ⟨k0, k1, k2, k3⟩ := blk4 K0
  cases ok : okM m
  · rw [ok] at HM
    have e9 : mrM m = zM := by unfold mrM; rw [ok]; rfl
    rw [e9]
    clear e9 ok
    go_enter Tryd.func49, Tryd.ntmps49
    go_wp2_with fail
    refine (HM _ G0).mono ?_
    rintro e w1 ⟨rfl, hb⟩
    have G := G0.trans (hb.mono G0.size)
    have Z := Z0.on hb
    clear hb k0 k1 k2 k3
    obtain ⟨z0, z1, z2, z3⟩ := blk4 Z
    have f0 := Z.frozen 0; have f1 := Z.frozen 1; have f2 := Z.frozen 2; have f3 := Z.frozen 3
    have Z2 := (((Z.set_ 0 (.int .i64 0)).set_ 1 (.int .i64 0)).set_ 2 (.slice none 0 0)).set_ 3 (.slice none 0 0)
    obtain ⟨q0, q1, q2, q3⟩ := blk4 Z2
    have GP := Below.setCell (Below.setCell (Below.setCell (Below.setCell G (p := ⟨w.heap.size + 1, 0, none⟩) (Nat.le_succ _) (.int .i64 0)) (p := ⟨w.heap.size + 1, 1, none⟩) (Nat.le_succ _) (.int .i64 0)) (p := ⟨w.heap.size + 1, 2, none⟩) (Nat.le_succ _) (.slice none 0 0)) (p := ⟨w.heap.size + 1, 3, none⟩) (Nat.le_succ _) (.slice none 0 0)
    clear Z2
    go_wp2_with fail
    refine bodyPost_ret (v := .tuple #[.agg #[.int .i64 0, .int .i64 0, .slice none 0 0, .slice none 0 0], .bool false]) ?_ ?_ ?_
    · simp [results, Tryd.results49, go_sem, q0, q1, q2, q3]
    · rfl
    exact mapEnd_zero GP
  · rw [ok] at HM
    have V := valid_iff.1 ok
    have e9 : mrM m = ⟨m.wd, m.ht, allL m.ri (mirI m) m.wd.toNat m.ht.toNat, allL m.co (mirI m) m.wd.toNat m.ht.toNat⟩ := by unfold mrM; rw [if_pos ok]
    rw [e9]
    clear e9 ok
    have eg := enters_of (P := Tryd.prog) Tryd.func107 (by kernel_rfl) rfl
    obtain ⟨wd, hwd⟩ := Int.eq_ofNat_of_zero_le (show 0 ≤ m.wd by have := V.w1; have := V.h1; omega)
    obtain ⟨ht, hht⟩ := Int.eq_ofNat_of_zero_le (show 0 ≤ m.ht by have := V.w1; have := V.h1; omega)
    have hw6 : wd ≤ 6 := by have := V.w6; have := V.h6; omega
    have hh6 : ht ≤ 6 := by have := V.w6; have := V.h6; omega
    have HWD := Lib.hid hwd
    have HHT := Lib.hid hht
    have HI : Hid (∀ x y, x < wd → y < ht → 0 ≤ mirI m x y ∧ mirI m x y < m.co.length) := (fun x y hx hy => by have h := mirI_bd V (x := x) (y := y) (by omega) (by omega); exact ⟨h.1, h.2.1⟩ : ∀ x y, x < wd → y < ht → 0 ≤ mirI m x y ∧ mirI m x y < m.co.length)
    have VH := Lib.hid V
    clear hwd hht
    go_enter Tryd.func49, Tryd.ntmps49
    go_wp2_with fail
    refine (HM _ G0).mono ?_
    rintro e w1 ⟨rfl, hb⟩
    have G := G0.trans (hb.mono G0.size)
    have Z := Z0.on hb
    have K := K0.on hb
    clear hb k0 k1 k2 k3
    obtain ⟨k0, k1, k2, k3⟩ := blk4 K
    go_wp2_with fail
    have HR := rearranged_any (wd := wd) (ht := ht) (I := mirI m) (lb := #[.pointer (some ⟨w.heap.size, 0, none⟩)]) eg (HV.out.on G) VH.out hw6 hh6 HI.out (by
      have h := mirIdx VH.out (cs := [.slice A n cp, .slice B k d]) K
      rw [HWD.out, HHT.out] at h
      exact h)
    rw [← HWD.out, ← HHT.out] at HR
    refine HR.mono ?_
    rintro e w2 ⟨A2, B2, c2, d2, rfl, oa, ob, ab, hb⟩
    clear HR
    have G2 := G.trans (hb.mono G.size)
    have Z9 := Z.on hb
    clear hb k0 k1 k2 k3
    have hlt1 := Z.lt
    obtain ⟨z0, z1, z2, z3⟩ := blk4 Z9
    have f0 := Z9.frozen 0; have f1 := Z9.frozen 1; have f2 := Z9.frozen 2; have f3 := Z9.frozen 3
    have Z2 := (((Z9.set_ 0 (.int .i64 m.wd)).set_ 1 (.int .i64 m.ht)).set_ 2 (.slice A2 (ht * wd) c2)).set_ 3 (.slice B2 (ht * wd) d2)
    obtain ⟨q0, q1, q2, q3⟩ := blk4 Z2
    have GP := Below.setCell (Below.setCell (Below.setCell (Below.setCell G2 (p := ⟨w.heap.size + 1, 0, none⟩) (Nat.le_succ _) (.int .i64 m.wd)) (p := ⟨w.heap.size + 1, 1, none⟩) (Nat.le_succ _) (.int .i64 m.ht)) (p := ⟨w.heap.size + 1, 2, none⟩) (Nat.le_succ _) (.slice A2 (ht * wd) c2)) (p := ⟨w.heap.size + 1, 3, none⟩) (Nat.le_succ _) (.slice B2 (ht * wd) d2)
    have oA := own_far (own_far (own_far (own_far oa hlt1 0 (.int .i64 m.wd)) hlt1 1 (.int .i64 m.ht)) hlt1 2 (.slice A2 (ht * wd) c2)) hlt1 3 (.slice B2 (ht * wd) d2)
    have oB := own_far (own_far (own_far (own_far ob hlt1 0 (.int .i64 m.wd)) hlt1 1 (.int .i64 m.ht)) hlt1 2 (.slice A2 (ht * wd) c2)) hlt1 3 (.slice B2 (ht * wd) d2)
    have AB := Lib.hid ab
    have hGs := G.size
    clear Z2 oa ob ab Z Z9 K G G2
    go_wp2_with fail
    refine bodyPost_ret (v := .tuple #[.agg #[.int .i64 m.wd, .int .i64 m.ht, .slice A2 (ht * wd) c2, .slice B2 (ht * wd) d2], .bool true]) ?_ ?_ ?_
    · simp [results, Tryd.results49, go_sem, q0, q1, q2, q3]
    · rfl
    have eT : m.wd.toNat = wd := by rw [HWD.out]; rfl
    have eH : m.ht.toNat = ht := by rw [HHT.out]; rfl
    have l1 : (allL m.ri (mirI m) m.wd.toNat m.ht.toNat).length = ht * wd := by rw [allL_len, eT, eH]
    have l2 : (allL m.co (mirI m) m.wd.toNat m.ht.toNat).length = ht * wd := by rw [allL_len, eT, eH]
    refine ⟨A2, B2, c2, d2, ?_, ?_, ?_, ?_, GP⟩
    · show _ = Ending.returned (Value.tuple #[.agg #[_, _, .slice A2 (allL m.ri (mirI m) m.wd.toNat m.ht.toNat).length c2, .slice B2 (allL m.co (mirI m) m.wd.toNat m.ht.toNat).length d2], _])
      rw [l1, l2]
    · show World.ownsRow _ _ _ _ (.slice A2 (allL m.ri (mirI m) m.wd.toNat m.ht.toNat).length c2) (allL m.ri (mirI m) m.wd.toNat m.ht.toNat).length (ints (allL m.ri (mirI m) m.wd.toNat m.ht.toNat))
      rw [l1, eT, eH]
      exact own_le oA hGs
    · show World.ownsRow _ _ _ _ (.slice B2 (allL m.co (mirI m) m.wd.toNat m.ht.toNat).length d2) (allL m.co (mirI m) m.wd.toNat m.ht.toNat).length (ints (allL m.co (mirI m) m.wd.toNat m.ht.toNat))
      rw [l2, eT, eH]
      exact own_le oB hGs
    · show ∀ q, Value.ownBlock (.slice A2 (allL m.ri (mirI m) m.wd.toNat m.ht.toNat).length c2) = some q → Value.ownBlock (.slice B2 (allL m.co (mirI m) m.wd.toNat m.ht.toNat).length d2) ≠ some q
      rw [l1, l2]
      exact AB.out
set_option maxRecDepth 100000 in
set_option maxHeartbeats 2000000 in
theorem trnIdx {m : Mp} (V : Valid m) {cs : List Value} {g : Nat} {w : World} (K : Blk w g 47 [.int .i64 m.wd, .int .i64 m.ht, cs.getD 0 default, cs.getD 1 default]) :
    FnIdx Tryd.prog 102 #[.pointer (some ⟨g, 0, none⟩)] m.ht.toNat m.wd.toNat (trnI m) w := by
  intro x y W9 hx hy hb
  have K9 := K.on hb
  obtain ⟨i1, i2, i3, i4⟩ := trnI_bd V hx hy
  have w1 := V.w1; have w6 := V.w6; have h1 := V.h1; have h6 := V.h6
  have hlc : m.co.length ≤ 36 := by have := V.n36; have := V.lc; omega
  have HE : Hid (trnI m x y = (m.ht - 1 - (x : Int)) * m.wd + (y : Int)) := (rfl : trnI m x y = _)
  rw [HE.out] at i1 i2
  have e1 : IntKind.i64.wrap (m.ht - 1) = m.ht - 1 := IntWalk.i64_in _ (by omega)
  have e2 : IntKind.i64.wrap (m.ht - 1 - (x : Int)) = m.ht - 1 - (x : Int) := IntWalk.i64_in _ (by omega)
  have e3 : IntKind.i64.wrap ((m.ht - 1 - (x : Int)) * m.wd) = (m.ht - 1 - (x : Int)) * m.wd := IntWalk.i64_in _ (by omega)
  have e4 : IntKind.i64.wrap ((m.ht - 1 - (x : Int)) * m.wd + (y : Int)) = (m.ht - 1 - (x : Int)) * m.wd + (y : Int) := IntWalk.i64_in _ (by omega)
  clear i1 i2
  obtain ⟨k0, k1, k2, k3⟩ := blk4 K9
  go_enter Tryd.func102, Tryd.ntmps102
  go_wp2_with fail
  go_ret
  exact ⟨by rw [HE.out]; rfl, Below.refl _ _⟩
set_option maxRecDepth 100000 in
set_option maxHeartbeats 2000000 in
theorem TurnMap_impl {m : Mp} {v : Value} {w : World} (hv : MapIn w m v) :
    Calls Tryd.prog 45 #[v] w fun e w' => MapEnd w (tnM m) (okM m) e w' := by
  have HM : ∀ W : World, Below w.heap.size w W → _ := fun W hb => IsMap_m (hv.on hb)
  have HV := Lib.hid hv
  obtain ⟨A, n, cp, B, k, d, rfl, h1, h2, h3, h4⟩ := hv
  obtain ⟨K0, Z0⟩ := two_newM w 47 [.int .i64 m.wd, .int .i64 m.ht, .slice A n cp, .slice B k d] [.int .i64 0, .int .i64 0, .slice none 0 0, .slice none 0 0]
  have G0 : Below w.heap.size w ((w.alloc (.cells #[.int .i64 m.wd, .int .i64 m.ht, .slice A n cp, .slice B k d] 47)).alloc (.cells #[.int .i64 0, .int .i64 0, .slice none 0 0, .slice none 0 0] 47)) := (by repeat (first | exact Below.refl _ _ | refine below_drewN ?_ _ | refine Below.drew ?_ | refine Below.alloc ?_ (by first | omega | (simp; done) | (simp; omega)) _ | refine Below.setCell ?_ (by first | omega | (simp; done) | (simp; omega)) _))
  obtain ⟨k0, k1, k2, k3⟩ := blk4 K0
  cases ok : okM m
  · rw [ok] at HM
    have e9 : tnM m = zM := by unfold tnM; rw [ok]; rfl
    rw [e9]
    clear e9 ok
    go_enter Tryd.func45, Tryd.ntmps45
    go_wp2_with fail
    refine (HM _ G0).mono ?_
    rintro e w1 ⟨rfl, hb⟩
    have G := G0.trans (hb.mono G0.size)
    have Z := Z0.on hb
    clear hb k0 k1 k2 k3
    obtain ⟨z0, z1, z2, z3⟩ := blk4 Z
    have f0 := Z.frozen 0; have f1 := Z.frozen 1; have f2 := Z.frozen 2; have f3 := Z.frozen 3
    have Z2 := (((Z.set_ 0 (.int .i64 0)).set_ 1 (.int .i64 0)).set_ 2 (.slice none 0 0)).set_ 3 (.slice none 0 0)
    obtain ⟨q0, q1, q2, q3⟩ := blk4 Z2
    have GP := Below.setCell (Below.setCell (Below.setCell (Below.setCell G (p := ⟨w.heap.size + 1, 0, none⟩) (Nat.le_succ _) (.int .i64 0)) (p := ⟨w.heap.size + 1, 1, none⟩) (Nat.le_succ _) (.int .i64 0)) (p := ⟨w.heap.size + 1, 2, none⟩) (Nat.le_succ _) (.slice none 0 0)) (p := ⟨w.heap.size + 1, 3, none⟩) (Nat.le_succ _) (.slice none 0 0)
    clear Z2
    go_wp2_with fail
    refine bodyPost_ret (v := .tuple #[.agg #[.int .i64 0, .int .i64 0, .slice none 0 0, .slice none 0 0], .bool false]) ?_ ?_ ?_
    · simp [results, Tryd.results45, go_sem, q0, q1, q2, q3]
    · rfl
    exact mapEnd_zero GP
  · rw [ok] at HM
    have V := valid_iff.1 ok
    have e9 : tnM m = ⟨m.ht, m.wd, allL m.ri (trnI m) m.ht.toNat m.wd.toNat, allL m.co (trnI m) m.ht.toNat m.wd.toNat⟩ := by unfold tnM; rw [if_pos ok]
    rw [e9]
    clear e9 ok
    have eg := enters_of (P := Tryd.prog) Tryd.func102 (by kernel_rfl) rfl
    obtain ⟨wd, hwd⟩ := Int.eq_ofNat_of_zero_le (show 0 ≤ m.ht by have := V.w1; have := V.h1; omega)
    obtain ⟨ht, hht⟩ := Int.eq_ofNat_of_zero_le (show 0 ≤ m.wd by have := V.w1; have := V.h1; omega)
    have hw6 : wd ≤ 6 := by have := V.w6; have := V.h6; omega
    have hh6 : ht ≤ 6 := by have := V.w6; have := V.h6; omega
    have HWD := Lib.hid hwd
    have HHT := Lib.hid hht
    have HI : Hid (∀ x y, x < wd → y < ht → 0 ≤ trnI m x y ∧ trnI m x y < m.co.length) := (fun x y hx hy => by have h := trnI_bd V (x := x) (y := y) (by omega) (by omega); exact ⟨h.1, h.2.1⟩ : ∀ x y, x < wd → y < ht → 0 ≤ trnI m x y ∧ trnI m x y < m.co.length)
    have VH := Lib.hid V
    clear hwd hht
    go_enter Tryd.func45, Tryd.ntmps45
    go_wp2_with fail
    refine (HM _ G0).mono ?_
    rintro e w1 ⟨rfl, hb⟩
    have G := G0.trans (hb.mono G0.size)
    have Z := Z0.on hb
    have K := K0.on hb
    clear hb k0 k1 k2 k3
    obtain ⟨k0, k1, k2, k3⟩ := blk4 K
    go_wp2_with fail
    have HR := rearranged_any (wd := wd) (ht := ht) (I := trnI m) (lb := #[.pointer (some ⟨w.heap.size, 0, none⟩)]) eg (HV.out.on G) VH.out hw6 hh6 HI.out (by
      have h := trnIdx VH.out (cs := [.slice A n cp, .slice B k d]) K
      rw [HWD.out, HHT.out] at h
      exact h)
    rw [← HWD.out, ← HHT.out] at HR
    refine HR.mono ?_
    rintro e w2 ⟨A2, B2, c2, d2, rfl, oa, ob, ab, hb⟩
    clear HR
    have G2 := G.trans (hb.mono G.size)
    have Z9 := Z.on hb
    clear hb k0 k1 k2 k3
    have hlt1 := Z.lt
    obtain ⟨z0, z1, z2, z3⟩ := blk4 Z9
    have f0 := Z9.frozen 0; have f1 := Z9.frozen 1; have f2 := Z9.frozen 2; have f3 := Z9.frozen 3
    have Z2 := (((Z9.set_ 0 (.int .i64 m.ht)).set_ 1 (.int .i64 m.wd)).set_ 2 (.slice A2 (ht * wd) c2)).set_ 3 (.slice B2 (ht * wd) d2)
    obtain ⟨q0, q1, q2, q3⟩ := blk4 Z2
    have GP := Below.setCell (Below.setCell (Below.setCell (Below.setCell G2 (p := ⟨w.heap.size + 1, 0, none⟩) (Nat.le_succ _) (.int .i64 m.ht)) (p := ⟨w.heap.size + 1, 1, none⟩) (Nat.le_succ _) (.int .i64 m.wd)) (p := ⟨w.heap.size + 1, 2, none⟩) (Nat.le_succ _) (.slice A2 (ht * wd) c2)) (p := ⟨w.heap.size + 1, 3, none⟩) (Nat.le_succ _) (.slice B2 (ht * wd) d2)
    have oA := own_far (own_far (own_far (own_far oa hlt1 0 (.int .i64 m.ht)) hlt1 1 (.int .i64 m.wd)) hlt1 2 (.slice A2 (ht * wd) c2)) hlt1 3 (.slice B2 (ht * wd) d2)
    have oB := own_far (own_far (own_far (own_far ob hlt1 0 (.int .i64 m.ht)) hlt1 1 (.int .i64 m.wd)) hlt1 2 (.slice A2 (ht * wd) c2)) hlt1 3 (.slice B2 (ht * wd) d2)
    have AB := Lib.hid ab
    have hGs := G.size
    clear Z2 oa ob ab Z Z9 K G G2
    go_wp2_with fail
    refine bodyPost_ret (v := .tuple #[.agg #[.int .i64 m.ht, .int .i64 m.wd, .slice A2 (ht * wd) c2, .slice B2 (ht * wd) d2], .bool true]) ?_ ?_ ?_
    · simp [results, Tryd.results45, go_sem, q0, q1, q2, q3]
    · rfl
    have eT : m.ht.toNat = wd := by rw [HWD.out]; rfl
    have eH : m.wd.toNat = ht := by rw [HHT.out]; rfl
    have l1 : (allL m.ri (trnI m) m.ht.toNat m.wd.toNat).length = ht * wd := by rw [allL_len, eT, eH]
    have l2 : (allL m.co (trnI m) m.ht.toNat m.wd.toNat).length = ht * wd := by rw [allL_len, eT, eH]
    refine ⟨A2, B2, c2, d2, ?_, ?_, ?_, ?_, GP⟩
    · show _ = Ending.returned (Value.tuple #[.agg #[_, _, .slice A2 (allL m.ri (trnI m) m.ht.toNat m.wd.toNat).length c2, .slice B2 (allL m.co (trnI m) m.ht.toNat m.wd.toNat).length d2], _])
      rw [l1, l2]
    · show World.ownsRow _ _ _ _ (.slice A2 (allL m.ri (trnI m) m.ht.toNat m.wd.toNat).length c2) (allL m.ri (trnI m) m.ht.toNat m.wd.toNat).length (ints (allL m.ri (trnI m) m.ht.toNat m.wd.toNat))
      rw [l1, eT, eH]
      exact own_le oA hGs
    · show World.ownsRow _ _ _ _ (.slice B2 (allL m.co (trnI m) m.ht.toNat m.wd.toNat).length d2) (allL m.co (trnI m) m.ht.toNat m.wd.toNat).length (ints (allL m.co (trnI m) m.ht.toNat m.wd.toNat))
      rw [l2, eT, eH]
      exact own_le oB hGs
    · show ∀ q, Value.ownBlock (.slice A2 (allL m.ri (trnI m) m.ht.toNat m.wd.toNat).length c2) = some q → Value.ownBlock (.slice B2 (allL m.co (trnI m) m.ht.toNat m.wd.toNat).length d2) ≠ some q
      rw [l1, l2]
      exact AB.out
end Go.Proofs.YtmmpcchjalgokaaDoor
