/- Contracts: MirrorMap and TurnMap, the program's and the reference's. -/
import Derived.Test.YtmmpcchjalgokaaDoorRearr
import Derived.Deep.AppendLies
import Derived.Deep.DeepCutAuto
namespace Go.Proofs.YtmmpcchjalgokaaDoor
set_option linter.unusedVariables false
set_option linter.unusedSimpArgs false
open Go.RowKit
theorem Two.drew {w : World} {base X : Nat} {A B : Option Addr} {n c d m : Nat} {xs ys : List Int} (h : Two w base X A B n c d xs ys m) : Two w.drew base X A B n c d xs ys m := ⟨h.oa, h.ob, h.ab, h.ax, h.bx⟩
/-- What is asked of the function that tells which cell goes where. -/
def FnIdx (P : Program) (g : Nat) (lb : Array Value) (wd ht : Nat) (I : Nat → Nat → Int) (w : World) : Prop :=
  ∀ (x y : Nat) (W : World), x < wd → y < ht → Below w.heap.size w W → Calls P g (#[.int .i64 (x : Int), .int .i64 (y : Int)] ++ lb) W fun e w' => e = .returned (.int .i64 (I x y)) ∧ Below W.heap.size W w'
theorem soFar_next (l : List Int) (I : Nat → Nat → Int) (wd y : Nat) : soFar l I wd y wd = soFar l I wd (y + 1) 0 := by rw [soFar_row, soFar_zero]
def mirI (m : Mp) (x y : Nat) : Int := (y : Int) * m.wd + m.wd - 1 - (x : Int)
def trnI (m : Mp) (x y : Nat) : Int := (m.ht - 1 - (x : Int)) * m.wd + (y : Int)
theorem mirI_bd {m : Mp} (V : Valid m) {x y : Nat} (hx : x < m.wd.toNat) (hy : y < m.ht.toNat) : 0 ≤ mirI m x y ∧ mirI m x y < m.co.length ∧ (y : Int) * m.wd ≤ 36 ∧ 0 ≤ (y : Int) * m.wd := by
  obtain ⟨W, hW⟩ := Int.eq_ofNat_of_zero_le (show 0 ≤ m.wd by have := V.w1; omega)
  obtain ⟨H, hH⟩ := Int.eq_ofNat_of_zero_le (show 0 ≤ m.ht by have := V.h1; omega)
  have hx' : x < W := by omega
  have hy' : y < H := by omega
  have hW6 : W ≤ 6 := by have := V.w6; omega
  have hH6 : H ≤ 6 := by have := V.h6; omega
  have hl : m.co.length = H * W := by
    have h1 := V.lr
    rw [hW, hH] at h1
    have e2 : (W : Int) * (H : Int) = ((H * W : Nat) : Int) := by rw [Nat.mul_comm]; simp
    rw [e2] at h1
    have := V.lc
    omega
  have hb := idx_bd (wd := W) (ht := H) (x := W - 1 - x) (y := y) (by omega) hy'
  have h36 := Nat.mul_le_mul (show y ≤ 6 by omega) hW6
  have e1 : (y : Int) * (W : Int) = ((y * W : Nat) : Int) := by simp
  unfold mirI
  rw [hW, e1, hl]
  omega
theorem trnI_bd {m : Mp} (V : Valid m) {x y : Nat} (hx : x < m.ht.toNat) (hy : y < m.wd.toNat) : 0 ≤ trnI m x y ∧ trnI m x y < m.co.length ∧ (m.ht - 1 - (x : Int)) * m.wd ≤ 36 ∧ 0 ≤ (m.ht - 1 - (x : Int)) * m.wd := by
  obtain ⟨W, hW⟩ := Int.eq_ofNat_of_zero_le (show 0 ≤ m.wd by have := V.w1; omega)
  obtain ⟨H, hH⟩ := Int.eq_ofNat_of_zero_le (show 0 ≤ m.ht by have := V.h1; omega)
  have hx' : x < H := by omega
  have hy' : y < W := by omega
  have hW6 : W ≤ 6 := by have := V.w6; omega
  have hH6 : H ≤ 6 := by have := V.h6; omega
  have hl : m.co.length = H * W := by
    have h1 := V.lr
    rw [hW, hH] at h1
    have e2 : (W : Int) * (H : Int) = ((H * W : Nat) : Int) := by rw [Nat.mul_comm]; simp
    rw [e2] at h1
    have := V.lc
    omega
  have hb := idx_bd (wd := W) (ht := H) (x := y) (y := H - 1 - x) hy' (by omega)
  have h36 := Nat.mul_le_mul (show H - 1 - x ≤ 6 by omega) hW6
  have e1 : ((H : Int) - 1 - (x : Int)) * (W : Int) = (((H - 1 - x) * W : Nat) : Int) := by
    rw [show (H : Int) - 1 - (x : Int) = ((H - 1 - x : Nat) : Int) by omega]; simp
  unfold trnI
  rw [hW, hH, e1, hl]
  omega
theorem start5 (w : World) (o1 o2 o5 : Obj) : Two (((((w.alloc o1).alloc o2).alloc (.cells #[] 3)).alloc (.cells #[] 3)).alloc o5) (w.heap.size + 2) (w.heap.size + 4) (some ⟨w.heap.size + 1 + 1, 0, none⟩) (some ⟨w.heap.size + 1 + 1 + 1, 0, none⟩) 0 0 0 [] [] 0 := by
  have s2 : ((w.alloc o1).alloc o2).heap.size = w.heap.size + 1 + 1 := by simp
  have s3 : (((w.alloc o1).alloc o2).alloc (.cells #[] 3)).heap.size = w.heap.size + 1 + 1 + 1 := by simp
  have A := World.ownsRow_lit (base := w.heap.size + 2) (e := 3) (size := 1) ((w.alloc o1).alloc o2) #[] 0 (by rw [s2]; omega) (by decide) rfl
  rw [s2] at A
  have B := World.ownsRow_lit (base := w.heap.size + 2) (e := 3) (size := 1) (((w.alloc o1).alloc o2).alloc (.cells #[] 3)) #[] 0 (by rw [s3]; omega) (by decide) rfl
  rw [s3] at B
  refine ⟨(A.alloc _).alloc _, B.alloc _, fun k h1 h2 => ?_, fun h => ?_, fun h => ?_⟩
  · simp [Value.ownBlock] at h1 h2; try omega
  · simp [Value.ownBlock] at h; try omega
  · simp [Value.ownBlock] at h; try omega
theorem own_far {w : World} {base : Nat} {e : TypeId} {size : Nat} {v : Value} {n : Nat} {xs : List Value} (h : w.ownsRow base e size v n xs) {g : Nat} (hg : g < base) (i : Nat) (u : Value) : (w.setCell ⟨g, i, none⟩ u).ownsRow base e size v n xs :=
  own_ch h (Ch.set (g := g) (i := i) (u := u) w) (fun k hk e => by have := (h.lt k hk).1; omega)
theorem boxes5 (w : World) (t : TypeId) (c1 c2 c5 : List Value) (o3 o4 : Obj) : Blk (((((w.alloc (.cells c1.toArray t)).alloc (.cells c2.toArray t)).alloc o3).alloc o4).alloc (.cells c5.toArray t)) w.heap.size t c1 ∧ Blk (((((w.alloc (.cells c1.toArray t)).alloc (.cells c2.toArray t)).alloc o3).alloc o4).alloc (.cells c5.toArray t)) (w.heap.size + 1) t c2 ∧ Blk (((((w.alloc (.cells c1.toArray t)).alloc (.cells c2.toArray t)).alloc o3).alloc o4).alloc (.cells c5.toArray t)) (w.heap.size + 4) t c5 := by
  have s1 : (w.alloc (.cells c1.toArray t)).heap.size = w.heap.size + 1 := by simp
  have s4 : ((((w.alloc (.cells c1.toArray t)).alloc (.cells c2.toArray t)).alloc o3).alloc o4).heap.size = w.heap.size + 4 := by simp
  have B2 := Blk.new (w.alloc (.cells c1.toArray t)) t c2
  rw [s1] at B2
  have B5 := Blk.new ((((w.alloc (.cells c1.toArray t)).alloc (.cells c2.toArray t)).alloc o3).alloc o4) t c5
  rw [s4] at B5
  exact ⟨((((Blk.new w t c1).alloc _).alloc _).alloc _).alloc _, ((B2.alloc _).alloc _).alloc _, B5⟩
set_option maxRecDepth 100000 in
set_option maxHeartbeats 2000000 in
theorem rearranged_any {m : Mp} {v : Value} {wd ht g : Nat} {lb : Array Value} {I : Nat → Nat → Int} {w : World} (eg : ∀ args w, (callFunc g args).run Tryd.prog w = .ok (.enter g args) w) (hv : MapIn w m v) (V : Valid m) (hw6 : wd ≤ 6) (hh6 : ht ≤ 6)
    (hI : ∀ x y, x < wd → y < ht → 0 ≤ I x y ∧ I x y < m.co.length) (hp : FnIdx Tryd.prog g lb wd ht I w) :
    Calls Tryd.prog 101 #[v, .int .i64 (wd : Int), .int .i64 (ht : Int), .func (.func g) #[] lb] w fun e w' => ∃ (A B : Option Addr) (c d : Nat), e = .returned (.agg #[.int .i64 (wd : Int), .int .i64 (ht : Int), .slice A (ht * wd) c, .slice B (ht * wd) d]) ∧ w'.ownsRow w.heap.size 3 1 (.slice A (ht * wd) c) (ht * wd) (ints (allL m.ri I wd ht)) ∧ w'.ownsRow w.heap.size 3 1 (.slice B (ht * wd) d) (ht * wd) (ints (allL m.co I wd ht)) ∧ (∀ k, Value.ownBlock (.slice A (ht * wd) c) = some k → Value.ownBlock (.slice B (ht * wd) d) ≠ some k) ∧ Below w.heap.size w w' := by
  obtain ⟨A, n, cp, B, k, d, rfl, h1, h2, h3, h4⟩ := hv
  have hkl := h2.len
  have hnl := h1.len
  have hc36 := V.n36
  have hlc := V.lc
  obtain ⟨r, orr, rfl, hrb, hrc⟩ := h1.int (show 0 < n by omega)
  obtain ⟨s, os, rfl, hsb, hsc⟩ := h2.int (show 0 < k by omega)
  obtain ⟨i0, hi0, hz0, hz1, hz2⟩ := info_parts int_info
  have HP := Lib.hid hp
  have HB := Lib.hid hI
  clear hp hI
  go_enter Tryd.func101, Tryd.ntmps101
  go_wp2_with fail
  go_loopw [18] (fun i wr => ∃ (y q : Nat) (P R : Option Addr) (c e : Nat), y ≤ ht ∧ i = .int .i64 y ∧ Hid (q = y * wd) ∧ Two wr (w.heap.size + 2) (w.heap.size + 4) P R q c e (soFar m.ri I wd y 0) (soFar m.co I wd y 0) q ∧ Blk wr (w.heap.size + 4) 47 [.int .i64 (wd : Int), .int .i64 (ht : Int), .slice P q c, .slice R q e] ∧ Blk wr w.heap.size 47 [.int .i64 m.wd, .int .i64 m.ht, .slice (some ⟨r, orr, none⟩) n cp, .slice (some ⟨s, os, none⟩) k d] ∧ Blk wr (w.heap.size + 1) 47 [.int .i64 0, .int .i64 0, .slice none 0 0, .slice none 0 0] ∧ Below w.heap.size w wr) (fun i _ => ht - (intOf i).toNat)
  case atStart =>
    obtain ⟨B1, B2, B5⟩ := boxes5 w 47 [.int .i64 m.wd, .int .i64 m.ht, .slice (some ⟨r, orr, none⟩) n cp, .slice (some ⟨s, os, none⟩) k d] [.int .i64 0, .int .i64 0, .slice none 0 0, .slice none 0 0] [.int .i64 (wd : Int), .int .i64 (ht : Int), .slice (some ⟨w.heap.size + 1 + 1, 0, none⟩) 0 0, .slice (some ⟨w.heap.size + 1 + 1 + 1, 0, none⟩) 0 0] (.cells #[] 3) (.cells #[] 3)
    exact ⟨0, 0, _, _, 0, 0, Nat.zero_le _, rfl, (show 0 = 0 * wd by omega), start5 w _ _ _, B5, B1, B2, (by repeat (first | exact Below.refl _ _ | refine below_drewN ?_ _ | refine Below.drew ?_ | refine Below.alloc ?_ (by first | omega | (simp; done) | (simp; omega)) _ | refine Below.setCell ?_ (by first | omega | (simp; done) | (simp; omega)) _))⟩
  case round =>
    obtain ⟨y, q, P, R, c, e, hy, rfl, HQ, hT, hX, K, Z, G⟩ := hrel
    by_cases hlt : y < ht
    · go_wp2_with fail
      go_loopw [22] (fun i wr => ∃ (x q : Nat) (P R : Option Addr) (c e : Nat), x ≤ wd ∧ i = .int .i64 x ∧ Hid (q = y * wd + x) ∧ Two wr (w.heap.size + 2) (w.heap.size + 4) P R q c e (soFar m.ri I wd y x) (soFar m.co I wd y x) q ∧ Blk wr (w.heap.size + 4) 47 [.int .i64 (wd : Int), .int .i64 (ht : Int), .slice P q c, .slice R q e] ∧ Blk wr w.heap.size 47 [.int .i64 m.wd, .int .i64 m.ht, .slice (some ⟨r, orr, none⟩) n cp, .slice (some ⟨s, os, none⟩) k d] ∧ Blk wr (w.heap.size + 1) 47 [.int .i64 0, .int .i64 0, .slice none 0 0, .slice none 0 0] ∧ Below w.heap.size w wr) (fun i _ => wd - (intOf i).toNat)
      case atStart => exact ⟨0, q, P, R, c, e, Nat.zero_le _, rfl, HQ, hT, hX, K, Z, G⟩
      clear HQ hT hX K Z G
      case round =>
        obtain ⟨x, q, P, R, c, e, hx, rfl, HQ, hT, hX, K, Z, G⟩ := hrel
        by_cases hxw : x < wd
        · have hyh : y < ht := hlt
          obtain ⟨ix, hix⟩ : ∃ ix, ix = I x y := ⟨_, rfl⟩
          have HI : Hid (I x y = ix) := hix.symm
          obtain ⟨i1, i2⟩ := HB.out x y hxw hlt
          rw [← hix] at i1 i2
          have i3 : ix < (k : Int) := by omega
          have i4 : ix < (n : Int) := by omega
          obtain ⟨rv, hrv⟩ : ∃ rv, rv = m.ri.getD ix.toNat 0 := ⟨_, rfl⟩
          obtain ⟨cv, hcv⟩ : ∃ cv, cv = m.co.getD ix.toNat 0 := ⟨_, rfl⟩
          have hc1 : w.cell? ⟨r, orr + ix.toNat, none⟩ = some (.int .i64 rv) := by
            rw [hrc ix.toNat (by omega), hrv]; simp [List.getD, show ix.toNat < m.ri.length by omega]
          have hc2 : w.cell? ⟨s, os + ix.toNat, none⟩ = some (.int .i64 cv) := by
            rw [hsc ix.toNat (by omega), hcv]; simp [List.getD, show ix.toNat < m.co.length by omega]
          have SR : Hid (soFar m.ri I wd y (x + 1) = soFar m.ri I wd y x ++ [rv]) := by show _ = _; rw [soFar_succ, ← hix, hrv]
          have SC : Hid (soFar m.co I wd y (x + 1) = soFar m.co I wd y x ++ [cv]) := by show _ = _; rw [soFar_succ, ← hix, hcv]
          clear hrv hcv
          have q42 : q ≤ 42 := by rw [HQ.out]; exact cells36 hw6 hh6 (by omega) (by omega)
          clear hix
          go_wp2_with fail
          go_upto_region 8 with (fail)
          go_cut [36] (fun _ wx => ∃ (P1 : Option Addr) (c1 : Nat), Two wx (w.heap.size + 2) (w.heap.size + 4) P1 R (q + 1) c1 e (soFar m.ri I wd y (x + 1)) (soFar m.co I wd y x) q ∧ Blk wx (w.heap.size + 4) 47 [.int .i64 (wd : Int), .int .i64 (ht : Int), .slice P1 (q + 1) c1, .slice R q e] ∧ Blk wx w.heap.size 47 [.int .i64 m.wd, .int .i64 m.ht, .slice (some ⟨r, orr, none⟩) n cp, .slice (some ⟨s, os, none⟩) k d] ∧ Blk wx (w.heap.size + 1) 47 [.int .i64 0, .int .i64 0, .slice none 0 0, .slice none 0 0] ∧ Below w.heap.size w wx)
          case first =>
            replace hT := hT.drew
            replace hX := hX.drew
            obtain ⟨x0, x1, x2, x3⟩ := blk4 hX
            refine wp_region_held_drew (S := fun w' => Blk w' w.heap.size 47 [.int .i64 m.wd, .int .i64 m.ht, .slice (some ⟨r, orr, none⟩) n cp, .slice (some ⟨s, os, none⟩) k d] ∧ Blk w' (w.heap.size + 1) 47 [.int .i64 0, .int .i64 0, .slice none 0 0, .slice none 0 0] ∧ Below w.heap.size w w') (by kernel_rfl) ?_ (fun hHeld => ?_)
            · (try dsimp only)
              first | exact ⟨K.drew, Z.drew, G.drew⟩ | exact hHeld
            refine rgTake (i := 0) (d := 25) (v := ?_) rfl rfl (by kernel_rfl) (by kernel_rfl) (by kernel_rfl) (fun _ _ _ h => h) (by rfl) ?_ (by assumption) ?_
            rotate_left
            · ((intro w hSw); (try dsimp only at hSw); go_simp; (try with_reducible rfl))
            try simp only [Act.put, List.setIfInBounds_toArray, List.set_cons_zero, List.set_cons_succ]
            refine rgTake (i := 2) (d := 27) (v := ?_) rfl rfl (by kernel_rfl) (by kernel_rfl) (by kernel_rfl) (fun _ _ _ h => h) (by rfl) ?_ (by assumption) ?_
            rotate_left
            · ((intro w hSw); (try dsimp only at hSw); go_simp; (try with_reducible rfl))
            try simp only [Act.put, List.setIfInBounds_toArray, List.set_cons_zero, List.set_cons_succ]
            refine rgTake (i := 3) (d := 28) (v := ?_) rfl rfl (by kernel_rfl) (by kernel_rfl) (by kernel_rfl) (fun _ _ _ h => h) (by rfl) ?_ (by assumption) ?_
            rotate_left
            · ((intro w hSw); (try dsimp only at hSw); (obtain ⟨z0, z1, z2, z3⟩ := blk4 hSw.1; have zc := ((bcell hSw.2.2).1 r (orr + ix.toNat) hrb).trans hc1); go_simp; (try with_reducible rfl))
            try simp only [Act.put, List.setIfInBounds_toArray, List.set_cons_zero, List.set_cons_succ]
            refine rgTake (i := 4) (d := 29) (v := ?_) rfl rfl (by kernel_rfl) (by kernel_rfl) (by kernel_rfl) (fun _ _ _ h => h) (by rfl) ?_ (by assumption) ?_
            rotate_left
            · ((intro w hSw); (try dsimp only at hSw); go_simp; (try with_reducible rfl))
            try simp only [Act.put, List.setIfInBounds_toArray, List.set_cons_zero, List.set_cons_succ]
            refine rgTake (i := 5) (d := 30) (v := ?_) rfl rfl (by kernel_rfl) (by kernel_rfl) (by kernel_rfl) (fun _ _ _ h => h) (by rfl) ?_ (by assumption) ?_
            rotate_left
            · ((intro w hSw); (try dsimp only at hSw); go_simp; (try with_reducible rfl))
            try simp only [Act.put, List.setIfInBounds_toArray, List.set_cons_zero, List.set_cons_succ]
            refine rgTake (i := 6) (d := 31) (v := ?_) rfl rfl (by kernel_rfl) (by kernel_rfl) (by kernel_rfl) (fun _ _ _ h => h) (by rfl) ?_ (by assumption) ?_
            rotate_left
            · ((intro w hSw); (try dsimp only at hSw); go_simp; (try with_reducible rfl))
            try simp only [Act.put, List.setIfInBounds_toArray, List.set_cons_zero, List.set_cons_succ]
            refine wpAnyH_ready (rs := [1, 7]) (by kernel_rfl) (by simp) ?_
            refine AllReadyH.cons rfl (fun K hK => ?_) ?_
            ·
              go_simp
              refine hK.out _ _ ?_ (fun hHeld => ?_)
              · (try dsimp only)
                first | exact ⟨K.drew, Z.drew, G.drew⟩ | exact hHeld
              clear hK K
              try simp only [Act.put, List.setIfInBounds_toArray, List.set_cons_zero, List.set_cons_succ]
              refine wpAnyH_ready (rs := [7]) (by kernel_rfl) (by simp) ?_
              refine AllReadyH.cons rfl (fun K hK => ?_) AllReadyH.nil
              go_simp
              refine (HP.out x y _ hxw hyh hHeld.2.2).mono ?_; rintro e wy ⟨rfl, hb6⟩; replace hT := hT.on hb6; replace hX := hX.on hb6; obtain ⟨x0, x1, x2, x3⟩ := blk4 hX; rw [HI.out]
              go_wp2_with fail
              refine hK.out _ _ ?_ (fun hHeld => ?_)
              · (try dsimp only)
                exact ⟨hHeld.1.on hb6, hHeld.2.1.on hb6, hHeld.2.2.trans (hb6.mono hHeld.2.2.size)⟩
              clear hK K
              try simp only [Act.put, List.setIfInBounds_toArray, List.set_cons_zero, List.set_cons_succ]
              refine rgTake (i := 8) (d := 33) (v := ?_) rfl rfl (by kernel_rfl) (by kernel_rfl) (by kernel_rfl) (fun _ _ _ h => h) (by rfl) ?_ (by assumption) ?_
              rotate_left
              · ((intro w hSw); (try dsimp only at hSw); go_simp; (try with_reducible rfl))
              try simp only [Act.put, List.setIfInBounds_toArray, List.set_cons_zero, List.set_cons_succ]
              refine rgTake (i := 9) (d := 34) (v := ?_) rfl rfl (by kernel_rfl) (by kernel_rfl) (by kernel_rfl) (fun _ _ _ h => h) (by rfl) ?_ (by assumption) ?_
              rotate_left
              · ((intro w hSw); (try dsimp only at hSw); (obtain ⟨z0, z1, z2, z3⟩ := blk4 hSw.1; have zc := ((bcell hSw.2.2).1 r (orr + ix.toNat) hrb).trans hc1); go_simp; (try with_reducible rfl))
              try simp only [Act.put, List.setIfInBounds_toArray, List.set_cons_zero, List.set_cons_succ]
              refine wpAnyH_ready (rs := [10]) (by kernel_rfl) (by simp) ?_
              refine AllReadyH.cons rfl (fun K hK => ?_) AllReadyH.nil
              have hXl := hX.lt; replace hX := hX.alloc (.cells #[.int .i64 rv] 3); replace hT := hT.on (Below.alloc (Below.refl _ _) (Nat.le_refl _) (.cells #[.int .i64 rv] 3)); obtain ⟨x0, x1, x2, x3⟩ := blk4 hX; go_simp
              refine hK.out _ _ ?_ (fun hHeld => ?_)
              · (try dsimp only)
                exact ⟨hHeld.1.alloc _, hHeld.2.1.alloc _, hHeld.2.2.alloc hHeld.2.2.size _⟩
              clear hK K
              try simp only [Act.put, List.setIfInBounds_toArray, List.set_cons_zero, List.set_cons_succ]
              refine wpAnyH_ready (rs := [11]) (by kernel_rfl) (by simp) ?_
              refine AllReadyH.cons rfl (fun K hK => ?_) AllReadyH.nil
              refine step_append_lies _ rfl _ _ 34 rfl (w.heap.size + 2) 3 i0 (.int .i64 0) 1 8 Tryd.underlying34 hi0 hz0 hz1 hz2 rfl (by decide) _ _ _ rfl hT.oa _ 1 1 [.int .i64 rv] rfl rfl (cell_one_new _ _ _) (by intro u hu; simp at hu; subst hu; rfl) (by decide) (by simp only [maxLen]; omega) (by omega) (by have := hX.lt; omega) _ rfl ?_; intro g8 c8 w8 hown hgrow hat hlt; have hT8 := Two.push (x := rv) hT (by have := hX.lt; omega) (by simpa [ints] using hown) hgrow hat; have hX8 := hX.grown hgrow (fun h => hT.ax h.symm); have hXl := hX.lt; have K8 := hHeld.1.grown hgrow (fun h => by have := (hT.oa.lt _ h.symm).1; omega); have Z8 := hHeld.2.1.grown hgrow (fun h => by have := (hT.oa.lt _ h.symm).1; omega); have G8 := hHeld.2.2.grown hgrow hHeld.2.2.size (fun j hj => by have := (hT.oa.lt j hj).1; omega); clear hT hX x0 x1 x2 x3; obtain ⟨x0, x1, x2, x3⟩ := blk4 hX8; have fx := hX8.frozen 2
              refine hK.out _ _ ?_ (fun hHeld => ?_)
              · (try dsimp only)
                exact ⟨K8, Z8, G8⟩
              clear hK K
              try simp only [Act.put, List.setIfInBounds_toArray, List.set_cons_zero, List.set_cons_succ]
              refine rgTake (i := 12) (d := 37) (v := ?_) rfl rfl (by kernel_rfl) (by kernel_rfl) (by kernel_rfl) (fun _ _ _ h => h) (by rfl) ?_ (by assumption) ?_
              rotate_left
              · ((intro w hSw); (try dsimp only at hSw); go_simp; (try with_reducible rfl))
              try simp only [Act.put, List.setIfInBounds_toArray, List.set_cons_zero, List.set_cons_succ]
              refine wpAnyH_ready (rs := [13]) (by kernel_rfl) (by simp) ?_
              refine AllReadyH.cons rfl (fun K hK => ?_) AllReadyH.nil
              go_simp
              refine hK.out _ _ ?_ (fun hHeld => ?_)
              · (try dsimp only)
                exact ⟨K8.far (by first | omega | (simp; done) | (simp; omega)) _, Z8.far (by first | omega | (simp; done) | (simp; omega)) _, Below.setCell G8 (by first | omega | (simp; done) | (simp; omega)) _⟩
              clear hK K
              try simp only [Act.put, List.setIfInBounds_toArray, List.set_cons_zero, List.set_cons_succ]
              refine wpAnyH_done (by kernel_rfl) ?_ _
              go_wp2_with fail
              go_meet
              exact ⟨_, _, (by rw [SR.out]; exact hT8.box), hX8.set_ 2 _, hHeld⟩
            refine AllReadyH.cons rfl (fun K hK => ?_) ?_
            ·
              go_simp
              refine (HP.out x y _ hxw hyh hHeld.2.2).mono ?_; rintro e wy ⟨rfl, hb6⟩; replace hT := hT.on hb6; replace hX := hX.on hb6; obtain ⟨x0, x1, x2, x3⟩ := blk4 hX; rw [HI.out]
              go_wp2_with fail
              refine hK.out _ _ ?_ (fun hHeld => ?_)
              · (try dsimp only)
                exact ⟨hHeld.1.on hb6, hHeld.2.1.on hb6, hHeld.2.2.trans (hb6.mono hHeld.2.2.size)⟩
              clear hK K
              try simp only [Act.put, List.setIfInBounds_toArray, List.set_cons_zero, List.set_cons_succ]
              refine rgTake (i := 8) (d := 33) (v := ?_) rfl rfl (by kernel_rfl) (by kernel_rfl) (by kernel_rfl) (fun _ _ _ h => h) (by rfl) ?_ (by assumption) ?_
              rotate_left
              · ((intro w hSw); (try dsimp only at hSw); go_simp; (try with_reducible rfl))
              try simp only [Act.put, List.setIfInBounds_toArray, List.set_cons_zero, List.set_cons_succ]
              refine rgTake (i := 9) (d := 34) (v := ?_) rfl rfl (by kernel_rfl) (by kernel_rfl) (by kernel_rfl) (fun _ _ _ h => h) (by rfl) ?_ (by assumption) ?_
              rotate_left
              · ((intro w hSw); (try dsimp only at hSw); (obtain ⟨z0, z1, z2, z3⟩ := blk4 hSw.1; have zc := ((bcell hSw.2.2).1 r (orr + ix.toNat) hrb).trans hc1); go_simp; (try with_reducible rfl))
              try simp only [Act.put, List.setIfInBounds_toArray, List.set_cons_zero, List.set_cons_succ]
              refine wpAnyH_ready (rs := [1, 10]) (by kernel_rfl) (by simp) ?_
              refine AllReadyH.cons rfl (fun K hK => ?_) ?_
              ·
                go_simp
                refine hK.out _ _ ?_ (fun hHeld => ?_)
                · (try dsimp only)
                  first | exact ⟨K.drew, Z.drew, G.drew⟩ | exact hHeld
                clear hK K
                try simp only [Act.put, List.setIfInBounds_toArray, List.set_cons_zero, List.set_cons_succ]
                refine wpAnyH_ready (rs := [10]) (by kernel_rfl) (by simp) ?_
                refine AllReadyH.cons rfl (fun K hK => ?_) AllReadyH.nil
                have hXl := hX.lt; replace hX := hX.alloc (.cells #[.int .i64 rv] 3); replace hT := hT.on (Below.alloc (Below.refl _ _) (Nat.le_refl _) (.cells #[.int .i64 rv] 3)); obtain ⟨x0, x1, x2, x3⟩ := blk4 hX; go_simp
                refine hK.out _ _ ?_ (fun hHeld => ?_)
                · (try dsimp only)
                  exact ⟨hHeld.1.alloc _, hHeld.2.1.alloc _, hHeld.2.2.alloc hHeld.2.2.size _⟩
                clear hK K
                try simp only [Act.put, List.setIfInBounds_toArray, List.set_cons_zero, List.set_cons_succ]
                refine wpAnyH_ready (rs := [11]) (by kernel_rfl) (by simp) ?_
                refine AllReadyH.cons rfl (fun K hK => ?_) AllReadyH.nil
                refine step_append_lies _ rfl _ _ 34 rfl (w.heap.size + 2) 3 i0 (.int .i64 0) 1 8 Tryd.underlying34 hi0 hz0 hz1 hz2 rfl (by decide) _ _ _ rfl hT.oa _ 1 1 [.int .i64 rv] rfl rfl (cell_one_new _ _ _) (by intro u hu; simp at hu; subst hu; rfl) (by decide) (by simp only [maxLen]; omega) (by omega) (by have := hX.lt; omega) _ rfl ?_; intro g8 c8 w8 hown hgrow hat hlt; have hT8 := Two.push (x := rv) hT (by have := hX.lt; omega) (by simpa [ints] using hown) hgrow hat; have hX8 := hX.grown hgrow (fun h => hT.ax h.symm); have hXl := hX.lt; have K8 := hHeld.1.grown hgrow (fun h => by have := (hT.oa.lt _ h.symm).1; omega); have Z8 := hHeld.2.1.grown hgrow (fun h => by have := (hT.oa.lt _ h.symm).1; omega); have G8 := hHeld.2.2.grown hgrow hHeld.2.2.size (fun j hj => by have := (hT.oa.lt j hj).1; omega); clear hT hX x0 x1 x2 x3; obtain ⟨x0, x1, x2, x3⟩ := blk4 hX8; have fx := hX8.frozen 2
                refine hK.out _ _ ?_ (fun hHeld => ?_)
                · (try dsimp only)
                  exact ⟨K8, Z8, G8⟩
                clear hK K
                try simp only [Act.put, List.setIfInBounds_toArray, List.set_cons_zero, List.set_cons_succ]
                refine rgTake (i := 12) (d := 37) (v := ?_) rfl rfl (by kernel_rfl) (by kernel_rfl) (by kernel_rfl) (fun _ _ _ h => h) (by rfl) ?_ (by assumption) ?_
                rotate_left
                · ((intro w hSw); (try dsimp only at hSw); go_simp; (try with_reducible rfl))
                try simp only [Act.put, List.setIfInBounds_toArray, List.set_cons_zero, List.set_cons_succ]
                refine wpAnyH_ready (rs := [13]) (by kernel_rfl) (by simp) ?_
                refine AllReadyH.cons rfl (fun K hK => ?_) AllReadyH.nil
                go_simp
                refine hK.out _ _ ?_ (fun hHeld => ?_)
                · (try dsimp only)
                  exact ⟨K8.far (by first | omega | (simp; done) | (simp; omega)) _, Z8.far (by first | omega | (simp; done) | (simp; omega)) _, Below.setCell G8 (by first | omega | (simp; done) | (simp; omega)) _⟩
                clear hK K
                try simp only [Act.put, List.setIfInBounds_toArray, List.set_cons_zero, List.set_cons_succ]
                refine wpAnyH_done (by kernel_rfl) ?_ _
                go_wp2_with fail
                go_meet
                exact ⟨_, _, (by rw [SR.out]; exact hT8.box), hX8.set_ 2 _, hHeld⟩
              refine AllReadyH.cons rfl (fun K hK => ?_) ?_
              ·
                have hXl := hX.lt; replace hX := hX.alloc (.cells #[.int .i64 rv] 3); replace hT := hT.on (Below.alloc (Below.refl _ _) (Nat.le_refl _) (.cells #[.int .i64 rv] 3)); obtain ⟨x0, x1, x2, x3⟩ := blk4 hX; go_simp
                refine hK.out _ _ ?_ (fun hHeld => ?_)
                · (try dsimp only)
                  exact ⟨hHeld.1.alloc _, hHeld.2.1.alloc _, hHeld.2.2.alloc hHeld.2.2.size _⟩
                clear hK K
                try simp only [Act.put, List.setIfInBounds_toArray, List.set_cons_zero, List.set_cons_succ]
                refine wpAnyH_ready (rs := [1]) (by kernel_rfl) (by simp) ?_
                refine AllReadyH.cons rfl (fun K hK => ?_) AllReadyH.nil
                go_simp
                refine hK.out _ _ ?_ (fun hHeld => ?_)
                · (try dsimp only)
                  first | exact ⟨K.drew, Z.drew, G.drew⟩ | exact hHeld
                clear hK K
                try simp only [Act.put, List.setIfInBounds_toArray, List.set_cons_zero, List.set_cons_succ]
                refine wpAnyH_ready (rs := [11]) (by kernel_rfl) (by simp) ?_
                refine AllReadyH.cons rfl (fun K hK => ?_) AllReadyH.nil
                refine step_append_lies _ rfl _ _ 34 rfl (w.heap.size + 2) 3 i0 (.int .i64 0) 1 8 Tryd.underlying34 hi0 hz0 hz1 hz2 rfl (by decide) _ _ _ rfl hT.oa _ 1 1 [.int .i64 rv] rfl rfl (cell_one_new _ _ _) (by intro u hu; simp at hu; subst hu; rfl) (by decide) (by simp only [maxLen]; omega) (by omega) (by have := hX.lt; omega) _ rfl ?_; intro g8 c8 w8 hown hgrow hat hlt; have hT8 := Two.push (x := rv) hT (by have := hX.lt; omega) (by simpa [ints] using hown) hgrow hat; have hX8 := hX.grown hgrow (fun h => hT.ax h.symm); have hXl := hX.lt; have K8 := hHeld.1.grown hgrow (fun h => by have := (hT.oa.lt _ h.symm).1; omega); have Z8 := hHeld.2.1.grown hgrow (fun h => by have := (hT.oa.lt _ h.symm).1; omega); have G8 := hHeld.2.2.grown hgrow hHeld.2.2.size (fun j hj => by have := (hT.oa.lt j hj).1; omega); clear hT hX x0 x1 x2 x3; obtain ⟨x0, x1, x2, x3⟩ := blk4 hX8; have fx := hX8.frozen 2
                refine hK.out _ _ ?_ (fun hHeld => ?_)
                · (try dsimp only)
                  exact ⟨K8, Z8, G8⟩
                clear hK K
                try simp only [Act.put, List.setIfInBounds_toArray, List.set_cons_zero, List.set_cons_succ]
                refine rgTake (i := 12) (d := 37) (v := ?_) rfl rfl (by kernel_rfl) (by kernel_rfl) (by kernel_rfl) (fun _ _ _ h => h) (by rfl) ?_ (by assumption) ?_
                rotate_left
                · ((intro w hSw); (try dsimp only at hSw); go_simp; (try with_reducible rfl))
                try simp only [Act.put, List.setIfInBounds_toArray, List.set_cons_zero, List.set_cons_succ]
                refine wpAnyH_ready (rs := [13]) (by kernel_rfl) (by simp) ?_
                refine AllReadyH.cons rfl (fun K hK => ?_) AllReadyH.nil
                go_simp
                refine hK.out _ _ ?_ (fun hHeld => ?_)
                · (try dsimp only)
                  exact ⟨K8.far (by first | omega | (simp; done) | (simp; omega)) _, Z8.far (by first | omega | (simp; done) | (simp; omega)) _, Below.setCell G8 (by first | omega | (simp; done) | (simp; omega)) _⟩
                clear hK K
                try simp only [Act.put, List.setIfInBounds_toArray, List.set_cons_zero, List.set_cons_succ]
                refine wpAnyH_done (by kernel_rfl) ?_ _
                go_wp2_with fail
                go_meet
                exact ⟨_, _, (by rw [SR.out]; exact hT8.box), hX8.set_ 2 _, hHeld⟩
              exact AllReadyH.nil
            exact AllReadyH.nil
          case rest =>
          obtain ⟨P, c, hT, hX, K, Z, G⟩ := hcut
          go_upto_region 9 with (fail)
          replace hT := hT.drew
          replace hX := hX.drew
          obtain ⟨x0, x1, x2, x3⟩ := blk4 hX
          refine wp_region_held_drew (S := fun w' => Blk w' w.heap.size 47 [.int .i64 m.wd, .int .i64 m.ht, .slice (some ⟨r, orr, none⟩) n cp, .slice (some ⟨s, os, none⟩) k d] ∧ Blk w' (w.heap.size + 1) 47 [.int .i64 0, .int .i64 0, .slice none 0 0, .slice none 0 0] ∧ Below w.heap.size w w') (by kernel_rfl) ?_ (fun hHeld => ?_)
          · (try dsimp only)
            first | exact ⟨K.drew, Z.drew, G.drew⟩ | exact hHeld
          refine rgTake (i := 0) (d := 38) (v := ?_) rfl rfl (by kernel_rfl) (by kernel_rfl) (by kernel_rfl) (fun _ _ _ h => h) (by rfl) ?_ (by assumption) ?_
          rotate_left
          · ((intro w hSw); (try dsimp only at hSw); go_simp; (try with_reducible rfl))
          try simp only [Act.put, List.setIfInBounds_toArray, List.set_cons_zero, List.set_cons_succ]
          refine rgTake (i := 2) (d := 40) (v := ?_) rfl rfl (by kernel_rfl) (by kernel_rfl) (by kernel_rfl) (fun _ _ _ h => h) (by rfl) ?_ (by assumption) ?_
          rotate_left
          · ((intro w hSw); (try dsimp only at hSw); go_simp; (try with_reducible rfl))
          try simp only [Act.put, List.setIfInBounds_toArray, List.set_cons_zero, List.set_cons_succ]
          refine rgTake (i := 3) (d := 41) (v := ?_) rfl rfl (by kernel_rfl) (by kernel_rfl) (by kernel_rfl) (fun _ _ _ h => h) (by rfl) ?_ (by assumption) ?_
          rotate_left
          · ((intro w hSw); (try dsimp only at hSw); (obtain ⟨z0, z1, z2, z3⟩ := blk4 hSw.1; have zc := ((bcell hSw.2.2).1 s (os + ix.toNat) hsb).trans hc2); go_simp; (try with_reducible rfl))
          try simp only [Act.put, List.setIfInBounds_toArray, List.set_cons_zero, List.set_cons_succ]
          refine rgTake (i := 4) (d := 42) (v := ?_) rfl rfl (by kernel_rfl) (by kernel_rfl) (by kernel_rfl) (fun _ _ _ h => h) (by rfl) ?_ (by assumption) ?_
          rotate_left
          · ((intro w hSw); (try dsimp only at hSw); go_simp; (try with_reducible rfl))
          try simp only [Act.put, List.setIfInBounds_toArray, List.set_cons_zero, List.set_cons_succ]
          refine rgTake (i := 5) (d := 43) (v := ?_) rfl rfl (by kernel_rfl) (by kernel_rfl) (by kernel_rfl) (fun _ _ _ h => h) (by rfl) ?_ (by assumption) ?_
          rotate_left
          · ((intro w hSw); (try dsimp only at hSw); go_simp; (try with_reducible rfl))
          try simp only [Act.put, List.setIfInBounds_toArray, List.set_cons_zero, List.set_cons_succ]
          refine rgTake (i := 6) (d := 44) (v := ?_) rfl rfl (by kernel_rfl) (by kernel_rfl) (by kernel_rfl) (fun _ _ _ h => h) (by rfl) ?_ (by assumption) ?_
          rotate_left
          · ((intro w hSw); (try dsimp only at hSw); go_simp; (try with_reducible rfl))
          try simp only [Act.put, List.setIfInBounds_toArray, List.set_cons_zero, List.set_cons_succ]
          refine wpAnyH_ready (rs := [1, 7]) (by kernel_rfl) (by simp) ?_
          refine AllReadyH.cons rfl (fun K hK => ?_) ?_
          ·
            go_simp
            refine hK.out _ _ ?_ (fun hHeld => ?_)
            · (try dsimp only)
              first | exact ⟨K.drew, Z.drew, G.drew⟩ | exact hHeld
            clear hK K
            try simp only [Act.put, List.setIfInBounds_toArray, List.set_cons_zero, List.set_cons_succ]
            refine wpAnyH_ready (rs := [7]) (by kernel_rfl) (by simp) ?_
            refine AllReadyH.cons rfl (fun K hK => ?_) AllReadyH.nil
            go_simp
            refine (HP.out x y _ hxw hyh hHeld.2.2).mono ?_; rintro e wy ⟨rfl, hb6⟩; replace hT := hT.on hb6; replace hX := hX.on hb6; obtain ⟨x0, x1, x2, x3⟩ := blk4 hX; rw [HI.out]
            go_wp2_with fail
            refine hK.out _ _ ?_ (fun hHeld => ?_)
            · (try dsimp only)
              exact ⟨hHeld.1.on hb6, hHeld.2.1.on hb6, hHeld.2.2.trans (hb6.mono hHeld.2.2.size)⟩
            clear hK K
            try simp only [Act.put, List.setIfInBounds_toArray, List.set_cons_zero, List.set_cons_succ]
            refine rgTake (i := 8) (d := 46) (v := ?_) rfl rfl (by kernel_rfl) (by kernel_rfl) (by kernel_rfl) (fun _ _ _ h => h) (by rfl) ?_ (by assumption) ?_
            rotate_left
            · ((intro w hSw); (try dsimp only at hSw); go_simp; (try with_reducible rfl))
            try simp only [Act.put, List.setIfInBounds_toArray, List.set_cons_zero, List.set_cons_succ]
            refine rgTake (i := 9) (d := 47) (v := ?_) rfl rfl (by kernel_rfl) (by kernel_rfl) (by kernel_rfl) (fun _ _ _ h => h) (by rfl) ?_ (by assumption) ?_
            rotate_left
            · ((intro w hSw); (try dsimp only at hSw); (obtain ⟨z0, z1, z2, z3⟩ := blk4 hSw.1; have zc := ((bcell hSw.2.2).1 s (os + ix.toNat) hsb).trans hc2); go_simp; (try with_reducible rfl))
            try simp only [Act.put, List.setIfInBounds_toArray, List.set_cons_zero, List.set_cons_succ]
            refine wpAnyH_ready (rs := [10]) (by kernel_rfl) (by simp) ?_
            refine AllReadyH.cons rfl (fun K hK => ?_) AllReadyH.nil
            have hXl := hX.lt; replace hX := hX.alloc (.cells #[.int .i64 cv] 3); replace hT := hT.on (Below.alloc (Below.refl _ _) (Nat.le_refl _) (.cells #[.int .i64 cv] 3)); obtain ⟨x0, x1, x2, x3⟩ := blk4 hX; go_simp
            refine hK.out _ _ ?_ (fun hHeld => ?_)
            · (try dsimp only)
              exact ⟨hHeld.1.alloc _, hHeld.2.1.alloc _, hHeld.2.2.alloc hHeld.2.2.size _⟩
            clear hK K
            try simp only [Act.put, List.setIfInBounds_toArray, List.set_cons_zero, List.set_cons_succ]
            refine wpAnyH_ready (rs := [11]) (by kernel_rfl) (by simp) ?_
            refine AllReadyH.cons rfl (fun K hK => ?_) AllReadyH.nil
            refine step_append_lies _ rfl _ _ 34 rfl (w.heap.size + 2) 3 i0 (.int .i64 0) 1 8 Tryd.underlying34 hi0 hz0 hz1 hz2 rfl (by decide) _ _ _ rfl hT.ob _ 1 1 [.int .i64 cv] rfl rfl (cell_one_new _ _ _) (by intro u hu; simp at hu; subst hu; rfl) (by decide) (by simp only [maxLen]; omega) (by omega) (by have := hX.lt; omega) _ rfl ?_; intro g8 c8 w8 hown hgrow hat hlt; have hT8 := (Two.push (x := cv) hT.swap (by have := hX.lt; omega) (by simpa [ints] using hown) hgrow hat).swap; have hX8 := hX.grown hgrow (fun h => hT.bx h.symm); have hXl := hX.lt; have K8 := hHeld.1.grown hgrow (fun h => by have := (hT.ob.lt _ h.symm).1; omega); have Z8 := hHeld.2.1.grown hgrow (fun h => by have := (hT.ob.lt _ h.symm).1; omega); have G8 := hHeld.2.2.grown hgrow hHeld.2.2.size (fun j hj => by have := (hT.ob.lt j hj).1; omega); clear hT hX x0 x1 x2 x3; obtain ⟨x0, x1, x2, x3⟩ := blk4 hX8; have fx := hX8.frozen 3
            refine hK.out _ _ ?_ (fun hHeld => ?_)
            · (try dsimp only)
              exact ⟨K8, Z8, G8⟩
            clear hK K
            try simp only [Act.put, List.setIfInBounds_toArray, List.set_cons_zero, List.set_cons_succ]
            refine rgTake (i := 12) (d := 50) (v := ?_) rfl rfl (by kernel_rfl) (by kernel_rfl) (by kernel_rfl) (fun _ _ _ h => h) (by rfl) ?_ (by assumption) ?_
            rotate_left
            · ((intro w hSw); (try dsimp only at hSw); go_simp; (try with_reducible rfl))
            try simp only [Act.put, List.setIfInBounds_toArray, List.set_cons_zero, List.set_cons_succ]
            refine wpAnyH_ready (rs := [13]) (by kernel_rfl) (by simp) ?_
            refine AllReadyH.cons rfl (fun K hK => ?_) AllReadyH.nil
            go_simp
            refine hK.out _ _ ?_ (fun hHeld => ?_)
            · (try dsimp only)
              exact ⟨K8.far (by first | omega | (simp; done) | (simp; omega)) _, Z8.far (by first | omega | (simp; done) | (simp; omega)) _, Below.setCell G8 (by first | omega | (simp; done) | (simp; omega)) _⟩
            clear hK K
            try simp only [Act.put, List.setIfInBounds_toArray, List.set_cons_zero, List.set_cons_succ]
            refine wpAnyH_done (by kernel_rfl) ?_ _
            go_wp2_with fail
            go_roundw
            case rel => exact ⟨x + 1, q + 1, _, _, _, _, by omega, by go_num, (show q + 1 = y * wd + (x + 1) by rw [HQ.out]; rfl), (by rw [SC.out]; exact hT8.box), hX8.set_ 3 _, hHeld.1, hHeld.2.1, hHeld.2.2⟩
            case measure => simp [intOf]; omega
          refine AllReadyH.cons rfl (fun K hK => ?_) ?_
          ·
            go_simp
            refine (HP.out x y _ hxw hyh hHeld.2.2).mono ?_; rintro e wy ⟨rfl, hb6⟩; replace hT := hT.on hb6; replace hX := hX.on hb6; obtain ⟨x0, x1, x2, x3⟩ := blk4 hX; rw [HI.out]
            go_wp2_with fail
            refine hK.out _ _ ?_ (fun hHeld => ?_)
            · (try dsimp only)
              exact ⟨hHeld.1.on hb6, hHeld.2.1.on hb6, hHeld.2.2.trans (hb6.mono hHeld.2.2.size)⟩
            clear hK K
            try simp only [Act.put, List.setIfInBounds_toArray, List.set_cons_zero, List.set_cons_succ]
            refine rgTake (i := 8) (d := 46) (v := ?_) rfl rfl (by kernel_rfl) (by kernel_rfl) (by kernel_rfl) (fun _ _ _ h => h) (by rfl) ?_ (by assumption) ?_
            rotate_left
            · ((intro w hSw); (try dsimp only at hSw); go_simp; (try with_reducible rfl))
            try simp only [Act.put, List.setIfInBounds_toArray, List.set_cons_zero, List.set_cons_succ]
            refine rgTake (i := 9) (d := 47) (v := ?_) rfl rfl (by kernel_rfl) (by kernel_rfl) (by kernel_rfl) (fun _ _ _ h => h) (by rfl) ?_ (by assumption) ?_
            rotate_left
            · ((intro w hSw); (try dsimp only at hSw); (obtain ⟨z0, z1, z2, z3⟩ := blk4 hSw.1; have zc := ((bcell hSw.2.2).1 s (os + ix.toNat) hsb).trans hc2); go_simp; (try with_reducible rfl))
            try simp only [Act.put, List.setIfInBounds_toArray, List.set_cons_zero, List.set_cons_succ]
            refine wpAnyH_ready (rs := [1, 10]) (by kernel_rfl) (by simp) ?_
            refine AllReadyH.cons rfl (fun K hK => ?_) ?_
            ·
              go_simp
              refine hK.out _ _ ?_ (fun hHeld => ?_)
              · (try dsimp only)
                first | exact ⟨K.drew, Z.drew, G.drew⟩ | exact hHeld
              clear hK K
              try simp only [Act.put, List.setIfInBounds_toArray, List.set_cons_zero, List.set_cons_succ]
              refine wpAnyH_ready (rs := [10]) (by kernel_rfl) (by simp) ?_
              refine AllReadyH.cons rfl (fun K hK => ?_) AllReadyH.nil
              have hXl := hX.lt; replace hX := hX.alloc (.cells #[.int .i64 cv] 3); replace hT := hT.on (Below.alloc (Below.refl _ _) (Nat.le_refl _) (.cells #[.int .i64 cv] 3)); obtain ⟨x0, x1, x2, x3⟩ := blk4 hX; go_simp
              refine hK.out _ _ ?_ (fun hHeld => ?_)
              · (try dsimp only)
                exact ⟨hHeld.1.alloc _, hHeld.2.1.alloc _, hHeld.2.2.alloc hHeld.2.2.size _⟩
              clear hK K
              try simp only [Act.put, List.setIfInBounds_toArray, List.set_cons_zero, List.set_cons_succ]
              refine wpAnyH_ready (rs := [11]) (by kernel_rfl) (by simp) ?_
              refine AllReadyH.cons rfl (fun K hK => ?_) AllReadyH.nil
              refine step_append_lies _ rfl _ _ 34 rfl (w.heap.size + 2) 3 i0 (.int .i64 0) 1 8 Tryd.underlying34 hi0 hz0 hz1 hz2 rfl (by decide) _ _ _ rfl hT.ob _ 1 1 [.int .i64 cv] rfl rfl (cell_one_new _ _ _) (by intro u hu; simp at hu; subst hu; rfl) (by decide) (by simp only [maxLen]; omega) (by omega) (by have := hX.lt; omega) _ rfl ?_; intro g8 c8 w8 hown hgrow hat hlt; have hT8 := (Two.push (x := cv) hT.swap (by have := hX.lt; omega) (by simpa [ints] using hown) hgrow hat).swap; have hX8 := hX.grown hgrow (fun h => hT.bx h.symm); have hXl := hX.lt; have K8 := hHeld.1.grown hgrow (fun h => by have := (hT.ob.lt _ h.symm).1; omega); have Z8 := hHeld.2.1.grown hgrow (fun h => by have := (hT.ob.lt _ h.symm).1; omega); have G8 := hHeld.2.2.grown hgrow hHeld.2.2.size (fun j hj => by have := (hT.ob.lt j hj).1; omega); clear hT hX x0 x1 x2 x3; obtain ⟨x0, x1, x2, x3⟩ := blk4 hX8; have fx := hX8.frozen 3
              refine hK.out _ _ ?_ (fun hHeld => ?_)
              · (try dsimp only)
                exact ⟨K8, Z8, G8⟩
              clear hK K
              try simp only [Act.put, List.setIfInBounds_toArray, List.set_cons_zero, List.set_cons_succ]
              refine rgTake (i := 12) (d := 50) (v := ?_) rfl rfl (by kernel_rfl) (by kernel_rfl) (by kernel_rfl) (fun _ _ _ h => h) (by rfl) ?_ (by assumption) ?_
              rotate_left
              · ((intro w hSw); (try dsimp only at hSw); go_simp; (try with_reducible rfl))
              try simp only [Act.put, List.setIfInBounds_toArray, List.set_cons_zero, List.set_cons_succ]
              refine wpAnyH_ready (rs := [13]) (by kernel_rfl) (by simp) ?_
              refine AllReadyH.cons rfl (fun K hK => ?_) AllReadyH.nil
              go_simp
              refine hK.out _ _ ?_ (fun hHeld => ?_)
              · (try dsimp only)
                exact ⟨K8.far (by first | omega | (simp; done) | (simp; omega)) _, Z8.far (by first | omega | (simp; done) | (simp; omega)) _, Below.setCell G8 (by first | omega | (simp; done) | (simp; omega)) _⟩
              clear hK K
              try simp only [Act.put, List.setIfInBounds_toArray, List.set_cons_zero, List.set_cons_succ]
              refine wpAnyH_done (by kernel_rfl) ?_ _
              go_wp2_with fail
              go_roundw
              case rel => exact ⟨x + 1, q + 1, _, _, _, _, by omega, by go_num, (show q + 1 = y * wd + (x + 1) by rw [HQ.out]; rfl), (by rw [SC.out]; exact hT8.box), hX8.set_ 3 _, hHeld.1, hHeld.2.1, hHeld.2.2⟩
              case measure => simp [intOf]; omega
            refine AllReadyH.cons rfl (fun K hK => ?_) ?_
            ·
              have hXl := hX.lt; replace hX := hX.alloc (.cells #[.int .i64 cv] 3); replace hT := hT.on (Below.alloc (Below.refl _ _) (Nat.le_refl _) (.cells #[.int .i64 cv] 3)); obtain ⟨x0, x1, x2, x3⟩ := blk4 hX; go_simp
              refine hK.out _ _ ?_ (fun hHeld => ?_)
              · (try dsimp only)
                exact ⟨hHeld.1.alloc _, hHeld.2.1.alloc _, hHeld.2.2.alloc hHeld.2.2.size _⟩
              clear hK K
              try simp only [Act.put, List.setIfInBounds_toArray, List.set_cons_zero, List.set_cons_succ]
              refine wpAnyH_ready (rs := [1]) (by kernel_rfl) (by simp) ?_
              refine AllReadyH.cons rfl (fun K hK => ?_) AllReadyH.nil
              go_simp
              refine hK.out _ _ ?_ (fun hHeld => ?_)
              · (try dsimp only)
                first | exact ⟨K.drew, Z.drew, G.drew⟩ | exact hHeld
              clear hK K
              try simp only [Act.put, List.setIfInBounds_toArray, List.set_cons_zero, List.set_cons_succ]
              refine wpAnyH_ready (rs := [11]) (by kernel_rfl) (by simp) ?_
              refine AllReadyH.cons rfl (fun K hK => ?_) AllReadyH.nil
              refine step_append_lies _ rfl _ _ 34 rfl (w.heap.size + 2) 3 i0 (.int .i64 0) 1 8 Tryd.underlying34 hi0 hz0 hz1 hz2 rfl (by decide) _ _ _ rfl hT.ob _ 1 1 [.int .i64 cv] rfl rfl (cell_one_new _ _ _) (by intro u hu; simp at hu; subst hu; rfl) (by decide) (by simp only [maxLen]; omega) (by omega) (by have := hX.lt; omega) _ rfl ?_; intro g8 c8 w8 hown hgrow hat hlt; have hT8 := (Two.push (x := cv) hT.swap (by have := hX.lt; omega) (by simpa [ints] using hown) hgrow hat).swap; have hX8 := hX.grown hgrow (fun h => hT.bx h.symm); have hXl := hX.lt; have K8 := hHeld.1.grown hgrow (fun h => by have := (hT.ob.lt _ h.symm).1; omega); have Z8 := hHeld.2.1.grown hgrow (fun h => by have := (hT.ob.lt _ h.symm).1; omega); have G8 := hHeld.2.2.grown hgrow hHeld.2.2.size (fun j hj => by have := (hT.ob.lt j hj).1; omega); clear hT hX x0 x1 x2 x3; obtain ⟨x0, x1, x2, x3⟩ := blk4 hX8; have fx := hX8.frozen 3
              refine hK.out _ _ ?_ (fun hHeld => ?_)
              · (try dsimp only)
                exact ⟨K8, Z8, G8⟩
              clear hK K
              try simp only [Act.put, List.setIfInBounds_toArray, List.set_cons_zero, List.set_cons_succ]
              refine rgTake (i := 12) (d := 50) (v := ?_) rfl rfl (by kernel_rfl) (by kernel_rfl) (by kernel_rfl) (fun _ _ _ h => h) (by rfl) ?_ (by assumption) ?_
              rotate_left
              · ((intro w hSw); (try dsimp only at hSw); go_simp; (try with_reducible rfl))
              try simp only [Act.put, List.setIfInBounds_toArray, List.set_cons_zero, List.set_cons_succ]
              refine wpAnyH_ready (rs := [13]) (by kernel_rfl) (by simp) ?_
              refine AllReadyH.cons rfl (fun K hK => ?_) AllReadyH.nil
              go_simp
              refine hK.out _ _ ?_ (fun hHeld => ?_)
              · (try dsimp only)
                exact ⟨K8.far (by first | omega | (simp; done) | (simp; omega)) _, Z8.far (by first | omega | (simp; done) | (simp; omega)) _, Below.setCell G8 (by first | omega | (simp; done) | (simp; omega)) _⟩
              clear hK K
              try simp only [Act.put, List.setIfInBounds_toArray, List.set_cons_zero, List.set_cons_succ]
              refine wpAnyH_done (by kernel_rfl) ?_ _
              go_wp2_with fail
              go_roundw
              case rel => exact ⟨x + 1, q + 1, _, _, _, _, by omega, by go_num, (show q + 1 = y * wd + (x + 1) by rw [HQ.out]; rfl), (by rw [SC.out]; exact hT8.box), hX8.set_ 3 _, hHeld.1, hHeld.2.1, hHeld.2.2⟩
              case measure => simp [intOf]; omega
            exact AllReadyH.nil
          exact AllReadyH.nil
        · have hxe : x = wd := by omega
          subst hxe
          rw [soFar_next, soFar_next] at hT
          go_wp2_with fail
          go_roundw
          case rel => exact ⟨y + 1, q, P, R, c, e, by omega, by go_num, (show q = (y + 1) * x by rw [HQ.out, Nat.succ_mul]), hT, hX, K, Z, G⟩
          case measure => simp [intOf]; omega
    · have hye : y = ht := by omega
      subst hye
      rw [soFar_zero, soFar_zero] at hT
      have hq := HQ.out
      subst hq
      obtain ⟨x0, x1, x2, x3⟩ := blk4 hX
      obtain ⟨z0, z1, z2, z3⟩ := blk4 Z
      have f0 := Z.frozen 0
      have f1 := Z.frozen 1
      have f2 := Z.frozen 2
      have f3 := Z.frozen 3
      have Z2 := (((Z.set_ 0 (.int .i64 (wd : Int))).set_ 1 (.int .i64 (y : Int))).set_ 2 (.slice P (y * wd) c)).set_ 3 (.slice R (y * wd) e)
      obtain ⟨q0, q1, q2, q3⟩ := blk4 Z2
      have oA := own_far (own_far (own_far (own_far hT.oa (show w.heap.size + 1 < w.heap.size + 2 by omega) 0 (.int .i64 (wd : Int))) (show w.heap.size + 1 < w.heap.size + 2 by omega) 1 (.int .i64 (y : Int))) (show w.heap.size + 1 < w.heap.size + 2 by omega) 2 (.slice P (y * wd) c)) (show w.heap.size + 1 < w.heap.size + 2 by omega) 3 (.slice R (y * wd) e)
      have oB := own_far (own_far (own_far (own_far hT.ob (show w.heap.size + 1 < w.heap.size + 2 by omega) 0 (.int .i64 (wd : Int))) (show w.heap.size + 1 < w.heap.size + 2 by omega) 1 (.int .i64 (y : Int))) (show w.heap.size + 1 < w.heap.size + 2 by omega) 2 (.slice P (y * wd) c)) (show w.heap.size + 1 < w.heap.size + 2 by omega) 3 (.slice R (y * wd) e)
      have GP := Below.setCell (Below.setCell (Below.setCell (Below.setCell G (p := ⟨w.heap.size + 1, 0, none⟩) (Nat.le_succ _) (.int .i64 (wd : Int))) (p := ⟨w.heap.size + 1, 1, none⟩) (Nat.le_succ _) (.int .i64 (y : Int))) (p := ⟨w.heap.size + 1, 2, none⟩) (Nat.le_succ _) (.slice P (y * wd) c)) (p := ⟨w.heap.size + 1, 3, none⟩) (Nat.le_succ _) (.slice R (y * wd) e)
      have AB := Lib.hid hT.ab
      clear Z2 hT hX K Z G
      go_wp2_with fail
      refine bodyPost_ret (v := .agg #[.int .i64 (wd : Int), .int .i64 (y : Int), .slice P (y * wd) c, .slice R (y * wd) e]) (by simp [results, Tryd.results101, go_sem, q0, q1, q2, q3]) rfl ⟨P, R, c, e, rfl, own_le oA (by omega), own_le oB (by omega), AB.out, GP⟩
end Go.Proofs.YtmmpcchjalgokaaDoor
