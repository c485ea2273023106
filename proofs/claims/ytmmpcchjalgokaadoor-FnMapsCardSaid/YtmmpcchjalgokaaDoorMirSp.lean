/- Contracts: MirrorMap and TurnMap of the reference. -/
import Derived.Test.YtmmpcchjalgokaaDoorMirFn
import Derived.Deep.AppendLies
import Derived.Deep.DeepCutAuto
namespace Go.Proofs.YtmmpcchjalgokaaDoor
set_option linter.unusedVariables false
set_option linter.unusedSimpArgs false
open Go.RowKit
theorem start3 (w : World) {base : Nat} (hb : base ≤ w.heap.size) (o5 : Obj) : Two (((w.alloc (.cells #[] 3)).alloc (.cells #[] 3)).alloc o5) base (w.heap.size + 2) (some ⟨w.heap.size, 0, none⟩) (some ⟨w.heap.size + 1, 0, none⟩) 0 0 0 [] [] 0 := by
  have s3 : (w.alloc (.cells #[] 3)).heap.size = w.heap.size + 1 := by simp
  have A := World.ownsRow_lit (base := base) (e := 3) (size := 1) w #[] 0 hb (by decide) rfl
  have B := World.ownsRow_lit (base := base) (e := 3) (size := 1) (w.alloc (.cells #[] 3)) #[] 0 (by rw [s3]; omega) (by decide) rfl
  rw [s3] at B
  refine ⟨(A.alloc _).alloc _, B.alloc _, fun k h1 h2 => ?_, fun h => ?_, fun h => ?_⟩
  · simp [Value.ownBlock] at h1 h2; try omega
  · simp [Value.ownBlock] at h; try omega
  · simp [Value.ownBlock] at h; try omega
theorem far4 {w : World} {g X : Nat} {t : TypeId} {cs : List Value} (h : Blk w g t cs) (hX : g ≠ X) (a b c d : Value) : Blk ((((w.setCell ⟨X, 0, none⟩ a).setCell ⟨X, 1, none⟩ b).setCell ⟨X, 2, none⟩ c).setCell ⟨X, 3, none⟩ d) g t cs :=
  (((h.far (p := ⟨X, 0, none⟩) hX a).far (p := ⟨X, 1, none⟩) hX b).far (p := ⟨X, 2, none⟩) hX c).far (p := ⟨X, 3, none⟩) hX d
theorem below4 {B : Nat} {w0 w : World} {X : Nat} (h : Below B w0 w) (hX : B ≤ X) (a b c d : Value) : Below B w0 ((((w.setCell ⟨X, 0, none⟩ a).setCell ⟨X, 1, none⟩ b).setCell ⟨X, 2, none⟩ c).setCell ⟨X, 3, none⟩ d) :=
  Below.setCell (Below.setCell (Below.setCell (Below.setCell h (p := ⟨X, 0, none⟩) hX a) (p := ⟨X, 1, none⟩) hX b) (p := ⟨X, 2, none⟩) hX c) (p := ⟨X, 3, none⟩) hX d
theorem box3 (w : World) (t : TypeId) (c5 : List Value) (o3 o4 : Obj) : Blk (((w.alloc o3).alloc o4).alloc (.cells c5.toArray t)) (w.heap.size + 2) t c5 := by
  have s4 : ((w.alloc o3).alloc o4).heap.size = w.heap.size + 2 := by simp
  have B5 := Blk.new ((w.alloc o3).alloc o4) t c5
  rw [s4] at B5
  exact B5
set_option maxRecDepth 100000 in
set_option maxHeartbeats 4000000 in
theorem MirrorMap_spec {m : Mp} {v : Value} {w : World} (hv : MapIn w m v) :
    Calls Tryd.prog 50 #[v] w fun e w' => MapEnd w (mrM m) (okM m) e w' := by
  have HM : ∀ W : World, Below w.heap.size w W → _ := fun W hb => l2Map_m (hv.on hb)
  obtain ⟨A, n, cp, B, k, d, rfl, h1, h2, h3, h4⟩ := hv
  obtain ⟨K0, Z0⟩ := two_newM w 47 [.int .i64 m.wd, .int .i64 m.ht, .slice A n cp, .slice B k d] [.int .i64 0, .int .i64 0, .slice none 0 0, .slice none 0 0]
  have G0 : Below w.heap.size w ((w.alloc (.cells #[.int .i64 m.wd, .int .i64 m.ht, .slice A n cp, .slice B k d] 47)).alloc (.cells #[.int .i64 0, .int .i64 0, .slice none 0 0, .slice none 0 0] 47)) := (by repeat (first | exact Below.refl _ _ | refine below_drewN ?_ _ | refine Below.drew ?_ | refine Below.alloc ?_ (by first | omega | (simp; done) | (simp; omega)) _ | refine Below.setCell ?_ (by first | omega | (simp; done) | (simp; omega)) _))
  obtain ⟨k0, k1, k2, k3⟩ := blk4 K0
  cases ok : okM m
  · rw [ok] at HM
    have e9 : mrM m = zM := by unfold mrM; rw [ok]; rfl
    rw [e9]
    clear e9 ok
    go_enter Tryd.func50, Tryd.ntmps50
    go_wp2_with fail
    refine (HM _ G0).mono ?_
    rintro e w1 ⟨rfl, hb⟩
    have G := G0.trans (hb.mono G0.size)
    have Z := Z0.on hb
    clear hb k0 k1 k2 k3
    obtain ⟨z0, z1, z2, z3⟩ := blk4 Z
    have f0 := Z.frozen 0; have f1 := Z.frozen 1; have f2 := Z.frozen 2; have f3 := Z.frozen 3
    have Z2 := (((Z.set_ 0 (.int .i64 0)).set_ 1 (.int .i64 0)).set_ 2 (.slice none 0 0)).set_ 3 (.slice none 0 0)
    obtain ⟨q0, q1, q2, q3⟩ := blk4 Z2
    have GP := Below.setCell (Below.setCell (Below.setCell (Below.setCell G (p := ⟨w.heap.size + 1, 0, none⟩) (Nat.le_succ _) (.int .i64 0)) (p := ⟨w.heap.size + 1, 1, none⟩) (Nat.le_succ _) (.int .i64 0)) (p := ⟨w.heap.size + 1, 2, none⟩) (Nat.le_succ _) (.slice none 0 0)) (p := ⟨w.heap.size + 1, 3, none⟩) (Nat.le_succ _) (.slice none 0 0)
    clear Z2
    go_wp2_with fail
    refine bodyPost_ret (v := .tuple #[.agg #[.int .i64 0, .int .i64 0, .slice none 0 0, .slice none 0 0], .bool false]) ?_ ?_ ?_
    · simp [results, Tryd.results50, go_sem, q0, q1, q2, q3]
    · rfl
    exact mapEnd_zero GP
  · rw [ok] at HM
    have V := valid_iff.1 ok
    have e9 : mrM m = ⟨m.wd, m.ht, allL m.ri (mirI m) (m.wd).toNat (m.ht).toNat, allL m.co (mirI m) (m.wd).toNat (m.ht).toNat⟩ := by unfold mrM; rw [if_pos ok]
    rw [e9]
    clear e9 ok
    have hkl := h2.len
    have hnl := h1.len
    have hc36 := V.n36
    have hlc := V.lc
    have w1' := V.w1; have w6' := V.w6; have h1' := V.h1; have h6' := V.h6
    obtain ⟨r, orr, rfl, hrb, hrc⟩ := h1.int (show 0 < n by omega)
    obtain ⟨s, os, rfl, hsb, hsc⟩ := h2.int (show 0 < k by omega)
    obtain ⟨i0, hi0, hz0, hz1, hz2⟩ := info_parts int_info
    obtain ⟨wd, hwd⟩ := Int.eq_ofNat_of_zero_le (show 0 ≤ m.wd by omega)
    obtain ⟨ht, hht⟩ := Int.eq_ofNat_of_zero_le (show 0 ≤ m.ht by omega)
    obtain ⟨I, hI⟩ : ∃ I, I = mirI m := ⟨_, rfl⟩
    rw [← hI]
    have hw6 : wd ≤ 6 := by omega
    have hh6 : ht ≤ 6 := by omega
    have HWD := Lib.hid hwd
    have HHT := Lib.hid hht
    have HI9 := Lib.hid hI
    have VH := Lib.hid V
    have hwm : IntKind.i64.wrap (m.wd - 1) = m.wd - 1 := IntWalk.i64_in _ (by omega)
    have HRC := Lib.hid hrc
    have HSC := Lib.hid hsc
    have HKL := Lib.hid hkl
    have HNL := Lib.hid hnl
    have HLC := Lib.hid hlc
    clear hI V hrc hsc hkl hnl hlc hc36 w1' w6' h1' h6' hwd hht
    go_enter Tryd.func50, Tryd.ntmps50
    go_wp2_with fail
    refine (HM _ G0).mono ?_
    rintro e w1 ⟨rfl, hb⟩
    have G1 := G0.trans (hb.mono G0.size)
    have Z1 := Z0.on hb
    have K1 := K0.on hb
    have hlt1 := Z1.lt
    clear hb k0 k1 k2 k3 K0 Z0 G0
    obtain ⟨k0, k1, k2, k3⟩ := blk4 K1
    go_wp2_with fail
    go_loopw [5] (fun i wr => ∃ (y q : Nat) (P R : Option Addr) (c e : Nat), y ≤ ht ∧ i = .int .i64 y ∧ Hid (q = y * wd) ∧ Two wr (w.heap.size + 2) (w1.heap.size + 2) P R q c e (soFar m.ri I wd y 0) (soFar m.co I wd y 0) q ∧ Blk wr (w1.heap.size + 2) 47 [.int .i64 (m.wd), .int .i64 (m.ht), .slice P q c, .slice R q e] ∧ Blk wr w.heap.size 47 [.int .i64 m.wd, .int .i64 m.ht, .slice (some ⟨r, orr, none⟩) n cp, .slice (some ⟨s, os, none⟩) k d] ∧ Blk wr (w.heap.size + 1) 47 [.int .i64 0, .int .i64 0, .slice none 0 0, .slice none 0 0] ∧ Below w.heap.size w wr) (fun i _ => ht - (intOf i).toNat)
    case atStart =>
      have B4 := box3 w1 47 [.int .i64 m.wd, .int .i64 m.ht, .slice (some ⟨w1.heap.size, 0, none⟩) 0 0, .slice (some ⟨w1.heap.size + 1, 0, none⟩) 0 0] (.cells #[] 3) (.cells #[] 3)
      have S3 := start3 w1 (base := w.heap.size + 2) (by omega) (.cells #[.int .i64 m.wd, .int .i64 m.ht, .slice (some ⟨w1.heap.size, 0, none⟩) 0 0, .slice (some ⟨w1.heap.size + 1, 0, none⟩) 0 0] 47)
      have K4 := ((K1.alloc (.cells #[] 3)).alloc (.cells #[] 3)).alloc (.cells #[.int .i64 m.wd, .int .i64 m.ht, .slice (some ⟨w1.heap.size, 0, none⟩) 0 0, .slice (some ⟨w1.heap.size + 1, 0, none⟩) 0 0] 47)
      have Z4 := ((Z1.alloc (.cells #[] 3)).alloc (.cells #[] 3)).alloc (.cells #[.int .i64 m.wd, .int .i64 m.ht, .slice (some ⟨w1.heap.size, 0, none⟩) 0 0, .slice (some ⟨w1.heap.size + 1, 0, none⟩) 0 0] 47)
      have G4 := ((G1.alloc (by omega) (.cells #[] 3)).alloc (by simp; omega) (.cells #[] 3)).alloc (by simp; omega) (.cells #[.int .i64 m.wd, .int .i64 m.ht, .slice (some ⟨w1.heap.size, 0, none⟩) 0 0, .slice (some ⟨w1.heap.size + 1, 0, none⟩) 0 0] 47)
      exact ⟨0, 0, _, _, 0, 0, Nat.zero_le _, rfl, (show 0 = 0 * wd by omega), S3, B4, K4, Z4, G4⟩
    clear K1 Z1 G1 k0 k1 k2 k3
    case round =>
      obtain ⟨y, q, P, R, c, e, hy, rfl, HQ, hT, hX, K, Z, G⟩ := hrel
      obtain ⟨k0, k1, k2, k3⟩ := blk4 K
      by_cases hlt : (y : Int) < m.ht
      · have hyh : y < ht := by have := HHT.out; omega
        go_wp2_with fail
        go_loopw [6] (fun i wr => ∃ (x q : Nat) (P R : Option Addr) (c e : Nat), x ≤ wd ∧ i = .int .i64 (m.wd - 1 - (x : Int)) ∧ Hid (q = y * wd + x) ∧ Two wr (w.heap.size + 2) (w1.heap.size + 2) P R q c e (soFar m.ri I wd y x) (soFar m.co I wd y x) q ∧ Blk wr (w1.heap.size + 2) 47 [.int .i64 (m.wd), .int .i64 (m.ht), .slice P q c, .slice R q e] ∧ Blk wr w.heap.size 47 [.int .i64 m.wd, .int .i64 m.ht, .slice (some ⟨r, orr, none⟩) n cp, .slice (some ⟨s, os, none⟩) k d] ∧ Blk wr (w.heap.size + 1) 47 [.int .i64 0, .int .i64 0, .slice none 0 0, .slice none 0 0] ∧ Below w.heap.size w wr) (fun i _ => (intOf i + 1).toNat)
        case atStart => exact ⟨0, q, P, R, c, e, Nat.zero_le _, by congr 1; omega, HQ, hT, hX, K, Z, G⟩
        clear HQ hT hX K Z G k0 k1 k2 k3
        case round =>
          obtain ⟨x, q, P, R, c, e, hx, hxi, HQ, hT, hX, K, Z, G⟩ := hrel
          obtain ⟨k0, k1, k2, k3⟩ := blk4 K
          by_cases hxw : x < wd
          · obtain ⟨xv, hxv⟩ : ∃ xv : Nat, m.wd - 1 - (x : Int) = (xv : Int) := Int.eq_ofNat_of_zero_le (by have := HWD.out; omega)
            rw [hxv] at hxi
            subst hxi
            obtain ⟨b1, b2, b3, b4⟩ := mirI_bd VH.out (x := x) (y := y) (by have := HWD.out; omega) (by have := HHT.out; omega)
            obtain ⟨ix, hix⟩ := Int.eq_ofNat_of_zero_le b1
            obtain ⟨p, hp⟩ : ∃ p : Nat, (y : Int) * m.wd = (p : Int) := Int.eq_ofNat_of_zero_le (by exact b4)
            have hpb : (p : Int) ≤ 36 := by rw [← hp]; exact b3
            have hmul : IntKind.i64.wrap ((y : Int) * m.wd) = (p : Int) := by rw [hp]; exact IntWalk.i64_in _ (by omega)
            have hxs : xv ≤ 6 := by have := HWD.out; omega
            have hys : y ≤ 6 := by omega
            have hadd : IntKind.i64.wrap ((p : Int) + (xv : Int)) = (ix : Int) := by
              have e9 : (p : Int) + (xv : Int) = (ix : Int) := by
                rw [← hix, ← hp]
                show _ = mirI m x y; unfold mirI; omega
              rw [e9]
              exact IntWalk.i64_in _ (by omega)
            have i3 : ix < k := by have := HKL.out; omega
            have i4 : ix < n := by have h9 := HNL.out; have h8 := HLC.out; omega
            have hdec : IntKind.i64.wrap ((xv : Int) - 1) = (xv : Int) - 1 := IntWalk.i64_in _ (by omega)
            obtain ⟨rv, hrv⟩ : ∃ rv, rv = m.ri.getD ix 0 := ⟨_, rfl⟩
            obtain ⟨cv, hcv⟩ : ∃ cv, cv = m.co.getD ix 0 := ⟨_, rfl⟩
            have hc1 : w.cell? ⟨r, orr + ix, none⟩ = some (.int .i64 rv) := by
              rw [HRC.out ix (by have := HNL.out; omega), hrv]; simp [List.getD, show ix < m.ri.length by have := HNL.out; omega]
            have hc2 : w.cell? ⟨s, os + ix, none⟩ = some (.int .i64 cv) := by
              rw [HSC.out ix (by have := HKL.out; omega), hcv]; simp [List.getD, show ix < m.co.length by have := HKL.out; omega]
            have hIx : (I x y).toNat = ix := by rw [HI9.out, hix]; rfl
            have SR : Hid (soFar m.ri I wd y (x + 1) = soFar m.ri I wd y x ++ [rv]) := by show _ = _; rw [soFar_succ, hIx, hrv]
            have SC : Hid (soFar m.co I wd y (x + 1) = soFar m.co I wd y x ++ [cv]) := by show _ = _; rw [soFar_succ, hIx, hcv]
            have q42 : q ≤ 42 := by rw [HQ.out]; exact cells36 hw6 hh6 (by omega) (by omega)
            have HXV := Lib.hid hxv
            clear hrv hcv hIx b1 b2 b3 b4 hix hp hxv
            go_wp2_with fail
            go_upto_region 10 with (fail)
            go_cut [44] (fun _ wx => ∃ (P1 : Option Addr) (c1 : Nat), Two wx (w.heap.size + 2) (w1.heap.size + 2) P1 R (q + 1) c1 e (soFar m.ri I wd y (x + 1)) (soFar m.co I wd y x) q ∧ Blk wx (w1.heap.size + 2) 47 [.int .i64 (m.wd : Int), .int .i64 (m.ht : Int), .slice P1 (q + 1) c1, .slice R q e] ∧ Blk wx w.heap.size 47 [.int .i64 m.wd, .int .i64 m.ht, .slice (some ⟨r, orr, none⟩) n cp, .slice (some ⟨s, os, none⟩) k d] ∧ Blk wx (w.heap.size + 1) 47 [.int .i64 0, .int .i64 0, .slice none 0 0, .slice none 0 0] ∧ Below w.heap.size w wx)
            case first =>
              replace hT := hT.drew
              replace hX := hX.drew
              obtain ⟨x0, x1, x2, x3⟩ := blk4 hX
              refine wp_region_held_drew (S := fun w' => Blk w' w.heap.size 47 [.int .i64 m.wd, .int .i64 m.ht, .slice (some ⟨r, orr, none⟩) n cp, .slice (some ⟨s, os, none⟩) k d] ∧ Blk w' (w.heap.size + 1) 47 [.int .i64 0, .int .i64 0, .slice none 0 0, .slice none 0 0] ∧ Below w.heap.size w w') (by kernel_rfl) ?_ (fun hHeld => ?_)
              · (try dsimp only)
                first | exact ⟨K.drew, Z.drew, G.drew⟩ | exact hHeld
              generalize wr.drew = wx at *
              refine rgTake (i := 0) (d := 31) (v := ?_) rfl rfl (by kernel_rfl) (by kernel_rfl) (by kernel_rfl) (fun _ _ _ h => h) (by rfl) ?_ (by assumption) ?_
              rotate_left
              · ((intro w hSw); (try dsimp only at hSw); go_simp; (try with_reducible rfl))
              try simp only [Act.put, List.setIfInBounds_toArray, List.set_cons_zero, List.set_cons_succ]
              refine rgTake (i := 2) (d := 33) (v := ?_) rfl rfl (by kernel_rfl) (by kernel_rfl) (by kernel_rfl) (fun _ _ _ h => h) (by rfl) ?_ (by assumption) ?_
              rotate_left
              · ((intro w hSw); (try dsimp only at hSw); go_simp; (try with_reducible rfl))
              try simp only [Act.put, List.setIfInBounds_toArray, List.set_cons_zero, List.set_cons_succ]
              refine rgTake (i := 3) (d := 34) (v := ?_) rfl rfl (by kernel_rfl) (by kernel_rfl) (by kernel_rfl) (fun _ _ _ h => h) (by rfl) ?_ (by assumption) ?_
              rotate_left
              · ((intro w hSw); (try dsimp only at hSw); (obtain ⟨z0, z1, z2, z3⟩ := blk4 hSw.1; have zc := ((bcell hSw.2.2).1 r (orr + ix) hrb).trans hc1); go_simp; (try with_reducible rfl))
              try simp only [Act.put, List.setIfInBounds_toArray, List.set_cons_zero, List.set_cons_succ]
              refine rgTake (i := 4) (d := 35) (v := ?_) rfl rfl (by kernel_rfl) (by kernel_rfl) (by kernel_rfl) (fun _ _ _ h => h) (by rfl) ?_ (by assumption) ?_
              rotate_left
              · ((intro w hSw); (try dsimp only at hSw); go_simp; (try with_reducible rfl))
              try simp only [Act.put, List.setIfInBounds_toArray, List.set_cons_zero, List.set_cons_succ]
              refine rgTake (i := 5) (d := 36) (v := ?_) rfl rfl (by kernel_rfl) (by kernel_rfl) (by kernel_rfl) (fun _ _ _ h => h) (by rfl) ?_ (by assumption) ?_
              rotate_left
              · ((intro w hSw); (try dsimp only at hSw); go_simp; (try with_reducible rfl))
              try simp only [Act.put, List.setIfInBounds_toArray, List.set_cons_zero, List.set_cons_succ]
              refine rgTake (i := 6) (d := 37) (v := ?_) rfl rfl (by kernel_rfl) (by kernel_rfl) (by kernel_rfl) (fun _ _ _ h => h) (by rfl) ?_ (by assumption) ?_
              rotate_left
              · ((intro w hSw); (try dsimp only at hSw); (obtain ⟨z0, z1, z2, z3⟩ := blk4 hSw.1; have zc := ((bcell hSw.2.2).1 r (orr + ix) hrb).trans hc1); go_simp; (try with_reducible rfl))
              try simp only [Act.put, List.setIfInBounds_toArray, List.set_cons_zero, List.set_cons_succ]
              refine rgTake (i := 7) (d := 38) (v := ?_) rfl rfl (by kernel_rfl) (by kernel_rfl) (by kernel_rfl) (fun _ _ _ h => h) (by rfl) ?_ (by assumption) ?_
              rotate_left
              · ((intro w hSw); (try dsimp only at hSw); go_simp; (try with_reducible rfl))
              try simp only [Act.put, List.setIfInBounds_toArray, List.set_cons_zero, List.set_cons_succ]
              refine rgTake (i := 8) (d := 39) (v := ?_) rfl rfl (by kernel_rfl) (by kernel_rfl) (by kernel_rfl) (fun _ _ _ h => h) (by rfl) ?_ (by assumption) ?_
              rotate_left
              · ((intro w hSw); (try dsimp only at hSw); go_simp; (try with_reducible rfl))
              try simp only [Act.put, List.setIfInBounds_toArray, List.set_cons_zero, List.set_cons_succ]
              refine rgTake (i := 9) (d := 40) (v := ?_) rfl rfl (by kernel_rfl) (by kernel_rfl) (by kernel_rfl) (fun _ _ _ h => h) (by rfl) ?_ (by assumption) ?_
              rotate_left
              · ((intro w hSw); (try dsimp only at hSw); go_simp; (try with_reducible rfl))
              try simp only [Act.put, List.setIfInBounds_toArray, List.set_cons_zero, List.set_cons_succ]
              refine rgTake (i := 10) (d := 41) (v := ?_) rfl rfl (by kernel_rfl) (by kernel_rfl) (by kernel_rfl) (fun _ _ _ h => h) (by rfl) ?_ (by assumption) ?_
              rotate_left
              · ((intro w hSw); (try dsimp only at hSw); go_simp; (try with_reducible rfl))
              try simp only [Act.put, List.setIfInBounds_toArray, List.set_cons_zero, List.set_cons_succ]
              refine rgTake (i := 11) (d := 42) (v := ?_) rfl rfl (by kernel_rfl) (by kernel_rfl) (by kernel_rfl) (fun _ _ _ h => h) (by rfl) ?_ (by assumption) ?_
              rotate_left
              · ((intro w hSw); (try dsimp only at hSw); (obtain ⟨z0, z1, z2, z3⟩ := blk4 hSw.1; have zc := ((bcell hSw.2.2).1 r (orr + ix) hrb).trans hc1); go_simp; (try with_reducible rfl))
              try simp only [Act.put, List.setIfInBounds_toArray, List.set_cons_zero, List.set_cons_succ]
              refine wpAnyH_ready (rs := [1, 12]) (by kernel_rfl) (by simp) ?_
              refine AllReadyH.cons rfl (fun K hK => ?_) ?_
              ·
                go_simp
                refine hK.out _ _ ?_ (fun hHeld => ?_)
                · (try dsimp only)
                  first | exact ⟨K.drew, Z.drew, G.drew⟩ | exact hHeld
                clear hK K
                try simp only [Act.put, List.setIfInBounds_toArray, List.set_cons_zero, List.set_cons_succ]
                refine wpAnyH_ready (rs := [12]) (by kernel_rfl) (by simp) ?_
                refine AllReadyH.cons rfl (fun K hK => ?_) AllReadyH.nil
                have hXl := hX.lt; replace hX := hX.alloc (.cells #[.int .i64 rv] 3); replace hT := hT.on (Below.alloc (Below.refl _ _) (Nat.le_refl _) (.cells #[.int .i64 rv] 3)); obtain ⟨x0, x1, x2, x3⟩ := blk4 hX; go_simp
                refine hK.out _ _ ?_ (fun hHeld => ?_)
                · (try dsimp only)
                  exact ⟨hHeld.1.alloc _, hHeld.2.1.alloc _, hHeld.2.2.alloc hHeld.2.2.size _⟩
                clear hK K
                try simp only [Act.put, List.setIfInBounds_toArray, List.set_cons_zero, List.set_cons_succ]
                refine wpAnyH_ready (rs := [13]) (by kernel_rfl) (by simp) ?_
                refine AllReadyH.cons rfl (fun K hK => ?_) AllReadyH.nil
                refine step_append_lies _ rfl _ _ 34 rfl (w.heap.size + 2) 3 i0 (.int .i64 0) 1 8 Tryd.underlying34 hi0 hz0 hz1 hz2 rfl (by decide) _ _ _ rfl hT.oa _ 1 1 [.int .i64 rv] rfl rfl (cell_one_new _ _ _) (by intro u hu; simp at hu; subst hu; rfl) (by decide) (by simp only [maxLen]; omega) (by omega) (by have := hX.lt; omega) _ rfl ?_; intro g8 c8 w8 hown hgrow hat hlt; have hT8 := Two.push (x := rv) hT (by have := hX.lt; omega) (by simpa [ints] using hown) hgrow hat; have hX8 := hX.grown hgrow (fun h => hT.ax h.symm); have hXl := hX.lt; have K8 := hHeld.1.grown hgrow (fun h => by have := (hT.oa.lt _ h.symm).1; omega); have Z8 := hHeld.2.1.grown hgrow (fun h => by have := (hT.oa.lt _ h.symm).1; omega); have G8 := hHeld.2.2.grown hgrow hHeld.2.2.size (fun j hj => by have := (hT.oa.lt j hj).1; omega); clear hT hX x0 x1 x2 x3; obtain ⟨x0, x1, x2, x3⟩ := blk4 hX8; have fx := hX8.frozen 2
                refine hK.out _ _ ?_ (fun hHeld => ?_)
                · (try dsimp only)
                  exact ⟨K8, Z8, G8⟩
                clear hK K
                try simp only [Act.put, List.setIfInBounds_toArray, List.set_cons_zero, List.set_cons_succ]
                refine rgTake (i := 14) (d := 45) (v := ?_) rfl rfl (by kernel_rfl) (by kernel_rfl) (by kernel_rfl) (fun _ _ _ h => h) (by rfl) ?_ (by assumption) ?_
                rotate_left
                · ((intro w hSw); (try dsimp only at hSw); go_simp; (try with_reducible rfl))
                try simp only [Act.put, List.setIfInBounds_toArray, List.set_cons_zero, List.set_cons_succ]
                refine wpAnyH_ready (rs := [15]) (by kernel_rfl) (by simp) ?_
                refine AllReadyH.cons rfl (fun K hK => ?_) AllReadyH.nil
                go_simp
                refine hK.out _ _ ?_ (fun hHeld => ?_)
                · (try dsimp only)
                  exact ⟨K8.far (by first | omega | (simp; done) | (simp; omega)) _, Z8.far (by first | omega | (simp; done) | (simp; omega)) _, Below.setCell G8 (by first | omega | (simp; done) | (simp; omega)) _⟩
                clear hK K
                try simp only [Act.put, List.setIfInBounds_toArray, List.set_cons_zero, List.set_cons_succ]
                refine wpAnyH_done (by kernel_rfl) ?_ _
                go_wp2_with fail
                go_meet
                exact ⟨_, _, (by rw [SR.out]; exact hT8.box), hX8.set_ 2 _, hHeld⟩
              refine AllReadyH.cons rfl (fun K hK => ?_) ?_
              ·
                have hXl := hX.lt; replace hX := hX.alloc (.cells #[.int .i64 rv] 3); replace hT := hT.on (Below.alloc (Below.refl _ _) (Nat.le_refl _) (.cells #[.int .i64 rv] 3)); obtain ⟨x0, x1, x2, x3⟩ := blk4 hX; go_simp
                refine hK.out _ _ ?_ (fun hHeld => ?_)
                · (try dsimp only)
                  exact ⟨hHeld.1.alloc _, hHeld.2.1.alloc _, hHeld.2.2.alloc hHeld.2.2.size _⟩
                clear hK K
                try simp only [Act.put, List.setIfInBounds_toArray, List.set_cons_zero, List.set_cons_succ]
                refine wpAnyH_ready (rs := [1]) (by kernel_rfl) (by simp) ?_
                refine AllReadyH.cons rfl (fun K hK => ?_) AllReadyH.nil
                go_simp
                refine hK.out _ _ ?_ (fun hHeld => ?_)
                · (try dsimp only)
                  first | exact ⟨K.drew, Z.drew, G.drew⟩ | exact hHeld
                clear hK K
                try simp only [Act.put, List.setIfInBounds_toArray, List.set_cons_zero, List.set_cons_succ]
                refine wpAnyH_ready (rs := [13]) (by kernel_rfl) (by simp) ?_
                refine AllReadyH.cons rfl (fun K hK => ?_) AllReadyH.nil
                refine step_append_lies _ rfl _ _ 34 rfl (w.heap.size + 2) 3 i0 (.int .i64 0) 1 8 Tryd.underlying34 hi0 hz0 hz1 hz2 rfl (by decide) _ _ _ rfl hT.oa _ 1 1 [.int .i64 rv] rfl rfl (cell_one_new _ _ _) (by intro u hu; simp at hu; subst hu; rfl) (by decide) (by simp only [maxLen]; omega) (by omega) (by have := hX.lt; omega) _ rfl ?_; intro g8 c8 w8 hown hgrow hat hlt; have hT8 := Two.push (x := rv) hT (by have := hX.lt; omega) (by simpa [ints] using hown) hgrow hat; have hX8 := hX.grown hgrow (fun h => hT.ax h.symm); have hXl := hX.lt; have K8 := hHeld.1.grown hgrow (fun h => by have := (hT.oa.lt _ h.symm).1; omega); have Z8 := hHeld.2.1.grown hgrow (fun h => by have := (hT.oa.lt _ h.symm).1; omega); have G8 := hHeld.2.2.grown hgrow hHeld.2.2.size (fun j hj => by have := (hT.oa.lt j hj).1; omega); clear hT hX x0 x1 x2 x3; obtain ⟨x0, x1, x2, x3⟩ := blk4 hX8; have fx := hX8.frozen 2
                refine hK.out _ _ ?_ (fun hHeld => ?_)
                · (try dsimp only)
                  exact ⟨K8, Z8, G8⟩
                clear hK K
                try simp only [Act.put, List.setIfInBounds_toArray, List.set_cons_zero, List.set_cons_succ]
                refine rgTake (i := 14) (d := 45) (v := ?_) rfl rfl (by kernel_rfl) (by kernel_rfl) (by kernel_rfl) (fun _ _ _ h => h) (by rfl) ?_ (by assumption) ?_
                rotate_left
                · ((intro w hSw); (try dsimp only at hSw); go_simp; (try with_reducible rfl))
                try simp only [Act.put, List.setIfInBounds_toArray, List.set_cons_zero, List.set_cons_succ]
                refine wpAnyH_ready (rs := [15]) (by kernel_rfl) (by simp) ?_
                refine AllReadyH.cons rfl (fun K hK => ?_) AllReadyH.nil
                go_simp
                refine hK.out _ _ ?_ (fun hHeld => ?_)
                · (try dsimp only)
                  exact ⟨K8.far (by first | omega | (simp; done) | (simp; omega)) _, Z8.far (by first | omega | (simp; done) | (simp; omega)) _, Below.setCell G8 (by first | omega | (simp; done) | (simp; omega)) _⟩
                clear hK K
                try simp only [Act.put, List.setIfInBounds_toArray, List.set_cons_zero, List.set_cons_succ]
                refine wpAnyH_done (by kernel_rfl) ?_ _
                go_wp2_with fail
                go_meet
                exact ⟨_, _, (by rw [SR.out]; exact hT8.box), hX8.set_ 2 _, hHeld⟩
              exact AllReadyH.nil
            case rest =>
            obtain ⟨P, c, hT, hX, K, Z, G⟩ := hcut
            go_upto_region 11 with (fail)
            replace hT := hT.drew
            replace hX := hX.drew
            obtain ⟨x0, x1, x2, x3⟩ := blk4 hX
            refine wp_region_held_drew (S := fun w' => Blk w' w.heap.size 47 [.int .i64 m.wd, .int .i64 m.ht, .slice (some ⟨r, orr, none⟩) n cp, .slice (some ⟨s, os, none⟩) k d] ∧ Blk w' (w.heap.size + 1) 47 [.int .i64 0, .int .i64 0, .slice none 0 0, .slice none 0 0] ∧ Below w.heap.size w w') (by kernel_rfl) ?_ (fun hHeld => ?_)
            · (try dsimp only)
              first | exact ⟨K.drew, Z.drew, G.drew⟩ | exact hHeld
            generalize wc.drew = wx at *
            refine rgTake (i := 0) (d := 46) (v := ?_) rfl rfl (by kernel_rfl) (by kernel_rfl) (by kernel_rfl) (fun _ _ _ h => h) (by rfl) ?_ (by assumption) ?_
            rotate_left
            · ((intro w hSw); (try dsimp only at hSw); go_simp; (try with_reducible rfl))
            try simp only [Act.put, List.setIfInBounds_toArray, List.set_cons_zero, List.set_cons_succ]
            refine rgTake (i := 2) (d := 48) (v := ?_) rfl rfl (by kernel_rfl) (by kernel_rfl) (by kernel_rfl) (fun _ _ _ h => h) (by rfl) ?_ (by assumption) ?_
            rotate_left
            · ((intro w hSw); (try dsimp only at hSw); go_simp; (try with_reducible rfl))
            try simp only [Act.put, List.setIfInBounds_toArray, List.set_cons_zero, List.set_cons_succ]
            refine rgTake (i := 3) (d := 49) (v := ?_) rfl rfl (by kernel_rfl) (by kernel_rfl) (by kernel_rfl) (fun _ _ _ h => h) (by rfl) ?_ (by assumption) ?_
            rotate_left
            · ((intro w hSw); (try dsimp only at hSw); (obtain ⟨z0, z1, z2, z3⟩ := blk4 hSw.1; have zc := ((bcell hSw.2.2).1 s (os + ix) hsb).trans hc2); go_simp; (try with_reducible rfl))
            try simp only [Act.put, List.setIfInBounds_toArray, List.set_cons_zero, List.set_cons_succ]
            refine rgTake (i := 4) (d := 50) (v := ?_) rfl rfl (by kernel_rfl) (by kernel_rfl) (by kernel_rfl) (fun _ _ _ h => h) (by rfl) ?_ (by assumption) ?_
            rotate_left
            · ((intro w hSw); (try dsimp only at hSw); go_simp; (try with_reducible rfl))
            try simp only [Act.put, List.setIfInBounds_toArray, List.set_cons_zero, List.set_cons_succ]
            refine rgTake (i := 5) (d := 51) (v := ?_) rfl rfl (by kernel_rfl) (by kernel_rfl) (by kernel_rfl) (fun _ _ _ h => h) (by rfl) ?_ (by assumption) ?_
            rotate_left
            · ((intro w hSw); (try dsimp only at hSw); go_simp; (try with_reducible rfl))
            try simp only [Act.put, List.setIfInBounds_toArray, List.set_cons_zero, List.set_cons_succ]
            refine rgTake (i := 6) (d := 52) (v := ?_) rfl rfl (by kernel_rfl) (by kernel_rfl) (by kernel_rfl) (fun _ _ _ h => h) (by rfl) ?_ (by assumption) ?_
            rotate_left
            · ((intro w hSw); (try dsimp only at hSw); (obtain ⟨z0, z1, z2, z3⟩ := blk4 hSw.1; have zc := ((bcell hSw.2.2).1 s (os + ix) hsb).trans hc2); go_simp; (try with_reducible rfl))
            try simp only [Act.put, List.setIfInBounds_toArray, List.set_cons_zero, List.set_cons_succ]
            refine rgTake (i := 7) (d := 53) (v := ?_) rfl rfl (by kernel_rfl) (by kernel_rfl) (by kernel_rfl) (fun _ _ _ h => h) (by rfl) ?_ (by assumption) ?_
            rotate_left
            · ((intro w hSw); (try dsimp only at hSw); go_simp; (try with_reducible rfl))
            try simp only [Act.put, List.setIfInBounds_toArray, List.set_cons_zero, List.set_cons_succ]
            refine rgTake (i := 8) (d := 54) (v := ?_) rfl rfl (by kernel_rfl) (by kernel_rfl) (by kernel_rfl) (fun _ _ _ h => h) (by rfl) ?_ (by assumption) ?_
            rotate_left
            · ((intro w hSw); (try dsimp only at hSw); go_simp; (try with_reducible rfl))
            try simp only [Act.put, List.setIfInBounds_toArray, List.set_cons_zero, List.set_cons_succ]
            refine rgTake (i := 9) (d := 55) (v := ?_) rfl rfl (by kernel_rfl) (by kernel_rfl) (by kernel_rfl) (fun _ _ _ h => h) (by rfl) ?_ (by assumption) ?_
            rotate_left
            · ((intro w hSw); (try dsimp only at hSw); go_simp; (try with_reducible rfl))
            try simp only [Act.put, List.setIfInBounds_toArray, List.set_cons_zero, List.set_cons_succ]
            refine rgTake (i := 10) (d := 56) (v := ?_) rfl rfl (by kernel_rfl) (by kernel_rfl) (by kernel_rfl) (fun _ _ _ h => h) (by rfl) ?_ (by assumption) ?_
            rotate_left
            · ((intro w hSw); (try dsimp only at hSw); go_simp; (try with_reducible rfl))
            try simp only [Act.put, List.setIfInBounds_toArray, List.set_cons_zero, List.set_cons_succ]
            refine rgTake (i := 11) (d := 57) (v := ?_) rfl rfl (by kernel_rfl) (by kernel_rfl) (by kernel_rfl) (fun _ _ _ h => h) (by rfl) ?_ (by assumption) ?_
            rotate_left
            · ((intro w hSw); (try dsimp only at hSw); (obtain ⟨z0, z1, z2, z3⟩ := blk4 hSw.1; have zc := ((bcell hSw.2.2).1 s (os + ix) hsb).trans hc2); go_simp; (try with_reducible rfl))
            try simp only [Act.put, List.setIfInBounds_toArray, List.set_cons_zero, List.set_cons_succ]
            refine wpAnyH_ready (rs := [1, 12]) (by kernel_rfl) (by simp) ?_
            refine AllReadyH.cons rfl (fun K hK => ?_) ?_
            ·
              go_simp
              refine hK.out _ _ ?_ (fun hHeld => ?_)
              · (try dsimp only)
                first | exact ⟨K.drew, Z.drew, G.drew⟩ | exact hHeld
              clear hK K
              try simp only [Act.put, List.setIfInBounds_toArray, List.set_cons_zero, List.set_cons_succ]
              refine wpAnyH_ready (rs := [12]) (by kernel_rfl) (by simp) ?_
              refine AllReadyH.cons rfl (fun K hK => ?_) AllReadyH.nil
              have hXl := hX.lt; replace hX := hX.alloc (.cells #[.int .i64 cv] 3); replace hT := hT.on (Below.alloc (Below.refl _ _) (Nat.le_refl _) (.cells #[.int .i64 cv] 3)); obtain ⟨x0, x1, x2, x3⟩ := blk4 hX; go_simp
              refine hK.out _ _ ?_ (fun hHeld => ?_)
              · (try dsimp only)
                exact ⟨hHeld.1.alloc _, hHeld.2.1.alloc _, hHeld.2.2.alloc hHeld.2.2.size _⟩
              clear hK K
              try simp only [Act.put, List.setIfInBounds_toArray, List.set_cons_zero, List.set_cons_succ]
              refine wpAnyH_ready (rs := [13]) (by kernel_rfl) (by simp) ?_
              refine AllReadyH.cons rfl (fun K hK => ?_) AllReadyH.nil
              refine step_append_lies _ rfl _ _ 34 rfl (w.heap.size + 2) 3 i0 (.int .i64 0) 1 8 Tryd.underlying34 hi0 hz0 hz1 hz2 rfl (by decide) _ _ _ rfl hT.ob _ 1 1 [.int .i64 cv] rfl rfl (cell_one_new _ _ _) (by intro u hu; simp at hu; subst hu; rfl) (by decide) (by simp only [maxLen]; omega) (by omega) (by have := hX.lt; omega) _ rfl ?_; intro g8 c8 w8 hown hgrow hat hlt; have hT8 := (Two.push (x := cv) hT.swap (by have := hX.lt; omega) (by simpa [ints] using hown) hgrow hat).swap; have hX8 := hX.grown hgrow (fun h => hT.bx h.symm); have hXl := hX.lt; have K8 := hHeld.1.grown hgrow (fun h => by have := (hT.ob.lt _ h.symm).1; omega); have Z8 := hHeld.2.1.grown hgrow (fun h => by have := (hT.ob.lt _ h.symm).1; omega); have G8 := hHeld.2.2.grown hgrow hHeld.2.2.size (fun j hj => by have := (hT.ob.lt j hj).1; omega); clear hT hX x0 x1 x2 x3; obtain ⟨x0, x1, x2, x3⟩ := blk4 hX8; have fx := hX8.frozen 3
              refine hK.out _ _ ?_ (fun hHeld => ?_)
              · (try dsimp only)
                exact ⟨K8, Z8, G8⟩
              clear hK K
              try simp only [Act.put, List.setIfInBounds_toArray, List.set_cons_zero, List.set_cons_succ]
              refine rgTake (i := 14) (d := 60) (v := ?_) rfl rfl (by kernel_rfl) (by kernel_rfl) (by kernel_rfl) (fun _ _ _ h => h) (by rfl) ?_ (by assumption) ?_
              rotate_left
              · ((intro w hSw); (try dsimp only at hSw); go_simp; (try with_reducible rfl))
              try simp only [Act.put, List.setIfInBounds_toArray, List.set_cons_zero, List.set_cons_succ]
              refine wpAnyH_ready (rs := [15]) (by kernel_rfl) (by simp) ?_
              refine AllReadyH.cons rfl (fun K hK => ?_) AllReadyH.nil
              go_simp
              refine hK.out _ _ ?_ (fun hHeld => ?_)
              · (try dsimp only)
                exact ⟨K8.far (by first | omega | (simp; done) | (simp; omega)) _, Z8.far (by first | omega | (simp; done) | (simp; omega)) _, Below.setCell G8 (by first | omega | (simp; done) | (simp; omega)) _⟩
              clear hK K
              try simp only [Act.put, List.setIfInBounds_toArray, List.set_cons_zero, List.set_cons_succ]
              refine wpAnyH_done (by kernel_rfl) ?_ _
              go_wp2_with fail
              go_roundw
              case rel => exact ⟨x + 1, q + 1, _, _, _, _, by omega, (by congr 1; have h9 := HXV.out; omega), (show q + 1 = y * wd + (x + 1) by rw [HQ.out]; rfl), (by rw [SC.out]; exact hT8.box), hX8.set_ 3 _, hHeld.1, hHeld.2.1, hHeld.2.2⟩
              case measure => simp [intOf] <;> omega
            refine AllReadyH.cons rfl (fun K hK => ?_) ?_
            ·
              have hXl := hX.lt; replace hX := hX.alloc (.cells #[.int .i64 cv] 3); replace hT := hT.on (Below.alloc (Below.refl _ _) (Nat.le_refl _) (.cells #[.int .i64 cv] 3)); obtain ⟨x0, x1, x2, x3⟩ := blk4 hX; go_simp
              refine hK.out _ _ ?_ (fun hHeld => ?_)
              · (try dsimp only)
                exact ⟨hHeld.1.alloc _, hHeld.2.1.alloc _, hHeld.2.2.alloc hHeld.2.2.size _⟩
              clear hK K
              try simp only [Act.put, List.setIfInBounds_toArray, List.set_cons_zero, List.set_cons_succ]
              refine wpAnyH_ready (rs := [1]) (by kernel_rfl) (by simp) ?_
              refine AllReadyH.cons rfl (fun K hK => ?_) AllReadyH.nil
              go_simp
              refine hK.out _ _ ?_ (fun hHeld => ?_)
              · (try dsimp only)
                first | exact ⟨K.drew, Z.drew, G.drew⟩ | exact hHeld
              clear hK K
              try simp only [Act.put, List.setIfInBounds_toArray, List.set_cons_zero, List.set_cons_succ]
              refine wpAnyH_ready (rs := [13]) (by kernel_rfl) (by simp) ?_
              refine AllReadyH.cons rfl (fun K hK => ?_) AllReadyH.nil
              refine step_append_lies _ rfl _ _ 34 rfl (w.heap.size + 2) 3 i0 (.int .i64 0) 1 8 Tryd.underlying34 hi0 hz0 hz1 hz2 rfl (by decide) _ _ _ rfl hT.ob _ 1 1 [.int .i64 cv] rfl rfl (cell_one_new _ _ _) (by intro u hu; simp at hu; subst hu; rfl) (by decide) (by simp only [maxLen]; omega) (by omega) (by have := hX.lt; omega) _ rfl ?_; intro g8 c8 w8 hown hgrow hat hlt; have hT8 := (Two.push (x := cv) hT.swap (by have := hX.lt; omega) (by simpa [ints] using hown) hgrow hat).swap; have hX8 := hX.grown hgrow (fun h => hT.bx h.symm); have hXl := hX.lt; have K8 := hHeld.1.grown hgrow (fun h => by have := (hT.ob.lt _ h.symm).1; omega); have Z8 := hHeld.2.1.grown hgrow (fun h => by have := (hT.ob.lt _ h.symm).1; omega); have G8 := hHeld.2.2.grown hgrow hHeld.2.2.size (fun j hj => by have := (hT.ob.lt j hj).1; omega); clear hT hX x0 x1 x2 x3; obtain ⟨x0, x1, x2, x3⟩ := blk4 hX8; have fx := hX8.frozen 3
              refine hK.out _ _ ?_ (fun hHeld => ?_)
              · (try dsimp only)
                exact ⟨K8, Z8, G8⟩
              clear hK K
              try simp only [Act.put, List.setIfInBounds_toArray, List.set_cons_zero, List.set_cons_succ]
              refine rgTake (i := 14) (d := 60) (v := ?_) rfl rfl (by kernel_rfl) (by kernel_rfl) (by kernel_rfl) (fun _ _ _ h => h) (by rfl) ?_ (by assumption) ?_
              rotate_left
              · ((intro w hSw); (try dsimp only at hSw); go_simp; (try with_reducible rfl))
              try simp only [Act.put, List.setIfInBounds_toArray, List.set_cons_zero, List.set_cons_succ]
              refine wpAnyH_ready (rs := [15]) (by kernel_rfl) (by simp) ?_
              refine AllReadyH.cons rfl (fun K hK => ?_) AllReadyH.nil
              go_simp
              refine hK.out _ _ ?_ (fun hHeld => ?_)
              · (try dsimp only)
                exact ⟨K8.far (by first | omega | (simp; done) | (simp; omega)) _, Z8.far (by first | omega | (simp; done) | (simp; omega)) _, Below.setCell G8 (by first | omega | (simp; done) | (simp; omega)) _⟩
              clear hK K
              try simp only [Act.put, List.setIfInBounds_toArray, List.set_cons_zero, List.set_cons_succ]
              refine wpAnyH_done (by kernel_rfl) ?_ _
              go_wp2_with fail
              go_roundw
              case rel => exact ⟨x + 1, q + 1, _, _, _, _, by omega, (by congr 1; have h9 := HXV.out; omega), (show q + 1 = y * wd + (x + 1) by rw [HQ.out]; rfl), (by rw [SC.out]; exact hT8.box), hX8.set_ 3 _, hHeld.1, hHeld.2.1, hHeld.2.2⟩
              case measure => simp [intOf] <;> omega
            exact AllReadyH.nil
          · have hxe : x = wd := by omega
            subst hxe
            have hxm : m.wd - 1 - (x : Int) = -1 := by have := HWD.out; omega
            rw [hxm] at hxi
            subst hxi
            rw [soFar_next, soFar_next] at hT
            go_wp2_with fail
            go_roundw
            case rel => exact ⟨y + 1, q, P, R, c, e, by omega, by go_num, (show q = (y + 1) * x by rw [HQ.out, Nat.succ_mul]), hT, hX, K, Z, G⟩
            case measure => simp [intOf]; omega
      · have hye : y = ht := by have := HHT.out; omega
        subst hye
        rw [soFar_zero, soFar_zero] at hT
        have hq := HQ.out
        subst hq
        obtain ⟨x0, x1, x2, x3⟩ := blk4 hX
        obtain ⟨z0, z1, z2, z3⟩ := blk4 Z
        have f0 := Z.frozen 0
        have f1 := Z.frozen 1
        have f2 := Z.frozen 2
        have f3 := Z.frozen 3
        have Z2 := (((Z.set_ 0 (.int .i64 m.wd)).set_ 1 (.int .i64 m.ht)).set_ 2 (.slice P (y * wd) c)).set_ 3 (.slice R (y * wd) e)
        obtain ⟨q0, q1, q2, q3⟩ := blk4 Z2
        have hZ2 : w.heap.size + 1 < w.heap.size + 2 := by omega
        have oA := own_far (own_far (own_far (own_far hT.oa hZ2 0 (.int .i64 m.wd)) hZ2 1 (.int .i64 m.ht)) hZ2 2 (.slice P (y * wd) c)) hZ2 3 (.slice R (y * wd) e)
        have oB := own_far (own_far (own_far (own_far hT.ob hZ2 0 (.int .i64 m.wd)) hZ2 1 (.int .i64 m.ht)) hZ2 2 (.slice P (y * wd) c)) hZ2 3 (.slice R (y * wd) e)
        have GP := below4 (X := w.heap.size + 1) G (Nat.le_succ _) (.int .i64 m.wd) (.int .i64 m.ht) (.slice P (y * wd) c) (.slice R (y * wd) e)
        have AB := Lib.hid hT.ab
        clear Z2 hT hX K Z G
        go_wp2_with fail
        refine bodyPost_ret (v := .tuple #[.agg #[.int .i64 m.wd, .int .i64 m.ht, .slice P (y * wd) c, .slice R (y * wd) e], .bool true]) ?_ ?_ ?_
        · simp [results, Tryd.results50, go_sem, q0, q1, q2, q3]
        · rfl
        have eT : (m.wd).toNat = wd := by rw [HWD.out]; rfl
        have eH : (m.ht).toNat = y := by rw [HHT.out]; rfl
        have l1 : (allL m.ri I (m.wd).toNat (m.ht).toNat).length = y * wd := by rw [allL_len, eT, eH]
        have l2 : (allL m.co I (m.wd).toNat (m.ht).toNat).length = y * wd := by rw [allL_len, eT, eH]
        refine ⟨P, R, c, e, ?_, ?_, ?_, ?_, GP⟩
        · show _ = Ending.returned (Value.tuple #[.agg #[_, _, .slice P (allL m.ri I (m.wd).toNat (m.ht).toNat).length c, .slice R (allL m.co I (m.wd).toNat (m.ht).toNat).length e], _])
          rw [l1, l2]
        · show World.ownsRow _ _ _ _ (.slice P (allL m.ri I (m.wd).toNat (m.ht).toNat).length c) (allL m.ri I (m.wd).toNat (m.ht).toNat).length (ints (allL m.ri I (m.wd).toNat (m.ht).toNat))
          rw [l1, eT, eH]
          exact own_le oA (by omega)
        · show World.ownsRow _ _ _ _ (.slice R (allL m.co I (m.wd).toNat (m.ht).toNat).length e) (allL m.co I (m.wd).toNat (m.ht).toNat).length (ints (allL m.co I (m.wd).toNat (m.ht).toNat))
          rw [l2, eT, eH]
          exact own_le oB (by omega)
        · show ∀ z, Value.ownBlock (.slice P (allL m.ri I (m.wd).toNat (m.ht).toNat).length c) = some z → Value.ownBlock (.slice R (allL m.co I (m.wd).toNat (m.ht).toNat).length e) ≠ some z
          rw [l1, l2]
          exact AB.out
set_option maxRecDepth 100000 in
set_option maxHeartbeats 4000000 in
theorem TurnMap_spec {m : Mp} {v : Value} {w : World} (hv : MapIn w m v) :
    Calls Tryd.prog 46 #[v] w fun e w' => MapEnd w (tnM m) (okM m) e w' := by
  have HM : ∀ W : World, Below w.heap.size w W → _ := fun W hb => l2Map_m (hv.on hb)
  obtain ⟨A, n, cp, B, k, d, rfl, h1, h2, h3, h4⟩ := hv
  obtain ⟨K0, Z0⟩ := two_newM w 47 [.int .i64 m.wd, .int .i64 m.ht, .slice A n cp, .slice B k d] [.int .i64 0, .int .i64 0, .slice none 0 0, .slice none 0 0]
  have G0 : Below w.heap.size w ((w.alloc (.cells #[.int .i64 m.wd, .int .i64 m.ht, .slice A n cp, .slice B k d] 47)).alloc (.cells #[.int .i64 0, .int .i64 0, .slice none 0 0, .slice none 0 0] 47)) := (by repeat (first | exact Below.refl _ _ | refine below_drewN ?_ _ | refine Below.drew ?_ | refine Below.alloc ?_ (by first | omega | (simp; done) | (simp; omega)) _ | refine Below.setCell ?_ (by first | omega | (simp; done) | (simp; omega)) _))
  obtain ⟨k0, k1, k2, k3⟩ := blk4 K0
  cases ok : okM m
  · rw [ok] at HM
    have e9 : tnM m = zM := by unfold tnM; rw [ok]; rfl
    rw [e9]
    clear e9 ok
    go_enter Tryd.func46, Tryd.ntmps46
    go_wp2_with fail
    refine (HM _ G0).mono ?_
    rintro e w1 ⟨rfl, hb⟩
    have G := G0.trans (hb.mono G0.size)
    have Z := Z0.on hb
    clear hb k0 k1 k2 k3
    obtain ⟨z0, z1, z2, z3⟩ := blk4 Z
    have f0 := Z.frozen 0; have f1 := Z.frozen 1; have f2 := Z.frozen 2; have f3 := Z.frozen 3
    have Z2 := (((Z.set_ 0 (.int .i64 0)).set_ 1 (.int .i64 0)).set_ 2 (.slice none 0 0)).set_ 3 (.slice none 0 0)
    obtain ⟨q0, q1, q2, q3⟩ := blk4 Z2
    have GP := Below.setCell (Below.setCell (Below.setCell (Below.setCell G (p := ⟨w.heap.size + 1, 0, none⟩) (Nat.le_succ _) (.int .i64 0)) (p := ⟨w.heap.size + 1, 1, none⟩) (Nat.le_succ _) (.int .i64 0)) (p := ⟨w.heap.size + 1, 2, none⟩) (Nat.le_succ _) (.slice none 0 0)) (p := ⟨w.heap.size + 1, 3, none⟩) (Nat.le_succ _) (.slice none 0 0)
    clear Z2
    go_wp2_with fail
    refine bodyPost_ret (v := .tuple #[.agg #[.int .i64 0, .int .i64 0, .slice none 0 0, .slice none 0 0], .bool false]) ?_ ?_ ?_
    · simp [results, Tryd.results46, go_sem, q0, q1, q2, q3]
    · rfl
    exact mapEnd_zero GP
  · rw [ok] at HM
    have V := valid_iff.1 ok
    have e9 : tnM m = ⟨m.ht, m.wd, allL m.ri (trnI m) (m.ht).toNat (m.wd).toNat, allL m.co (trnI m) (m.ht).toNat (m.wd).toNat⟩ := by unfold tnM; rw [if_pos ok]
    rw [e9]
    clear e9 ok
    have hkl := h2.len
    have hnl := h1.len
    have hc36 := V.n36
    have hlc := V.lc
    have w1' := V.w1; have w6' := V.w6; have h1' := V.h1; have h6' := V.h6
    obtain ⟨r, orr, rfl, hrb, hrc⟩ := h1.int (show 0 < n by omega)
    obtain ⟨s, os, rfl, hsb, hsc⟩ := h2.int (show 0 < k by omega)
    obtain ⟨i0, hi0, hz0, hz1, hz2⟩ := info_parts int_info
    obtain ⟨wd, hwd⟩ := Int.eq_ofNat_of_zero_le (show 0 ≤ m.ht by omega)
    obtain ⟨ht, hht⟩ := Int.eq_ofNat_of_zero_le (show 0 ≤ m.wd by omega)
    obtain ⟨I, hI⟩ : ∃ I, I = trnI m := ⟨_, rfl⟩
    rw [← hI]
    have hw6 : wd ≤ 6 := by omega
    have hh6 : ht ≤ 6 := by omega
    have HWD := Lib.hid hwd
    have HHT := Lib.hid hht
    have HI9 := Lib.hid hI
    have VH := Lib.hid V
    have hwm : IntKind.i64.wrap (m.ht - 1) = m.ht - 1 := IntWalk.i64_in _ (by omega)
    have HRC := Lib.hid hrc
    have HSC := Lib.hid hsc
    have HKL := Lib.hid hkl
    have HNL := Lib.hid hnl
    have HLC := Lib.hid hlc
    clear hI V hrc hsc hkl hnl hlc hc36 w1' w6' h1' h6' hwd hht
    go_enter Tryd.func46, Tryd.ntmps46
    go_wp2_with fail
    refine (HM _ G0).mono ?_
    rintro e w1 ⟨rfl, hb⟩
    have G1 := G0.trans (hb.mono G0.size)
    have Z1 := Z0.on hb
    have K1 := K0.on hb
    have hlt1 := Z1.lt
    clear hb k0 k1 k2 k3 K0 Z0 G0
    obtain ⟨k0, k1, k2, k3⟩ := blk4 K1
    go_wp2_with fail
    go_loopw [5] (fun i wr => ∃ (y q : Nat) (P R : Option Addr) (c e : Nat), y ≤ ht ∧ i = .int .i64 y ∧ Hid (q = y * wd) ∧ Two wr (w.heap.size + 2) (w1.heap.size + 2) P R q c e (soFar m.ri I wd y 0) (soFar m.co I wd y 0) q ∧ Blk wr (w1.heap.size + 2) 47 [.int .i64 (m.ht), .int .i64 (m.wd), .slice P q c, .slice R q e] ∧ Blk wr w.heap.size 47 [.int .i64 m.wd, .int .i64 m.ht, .slice (some ⟨r, orr, none⟩) n cp, .slice (some ⟨s, os, none⟩) k d] ∧ Blk wr (w.heap.size + 1) 47 [.int .i64 0, .int .i64 0, .slice none 0 0, .slice none 0 0] ∧ Below w.heap.size w wr) (fun i _ => ht - (intOf i).toNat)
    case atStart =>
      have B4 := box3 w1 47 [.int .i64 m.ht, .int .i64 m.wd, .slice (some ⟨w1.heap.size, 0, none⟩) 0 0, .slice (some ⟨w1.heap.size + 1, 0, none⟩) 0 0] (.cells #[] 3) (.cells #[] 3)
      have S3 := start3 w1 (base := w.heap.size + 2) (by omega) (.cells #[.int .i64 m.ht, .int .i64 m.wd, .slice (some ⟨w1.heap.size, 0, none⟩) 0 0, .slice (some ⟨w1.heap.size + 1, 0, none⟩) 0 0] 47)
      have K4 := ((K1.alloc (.cells #[] 3)).alloc (.cells #[] 3)).alloc (.cells #[.int .i64 m.ht, .int .i64 m.wd, .slice (some ⟨w1.heap.size, 0, none⟩) 0 0, .slice (some ⟨w1.heap.size + 1, 0, none⟩) 0 0] 47)
      have Z4 := ((Z1.alloc (.cells #[] 3)).alloc (.cells #[] 3)).alloc (.cells #[.int .i64 m.ht, .int .i64 m.wd, .slice (some ⟨w1.heap.size, 0, none⟩) 0 0, .slice (some ⟨w1.heap.size + 1, 0, none⟩) 0 0] 47)
      have G4 := ((G1.alloc (by omega) (.cells #[] 3)).alloc (by simp; omega) (.cells #[] 3)).alloc (by simp; omega) (.cells #[.int .i64 m.ht, .int .i64 m.wd, .slice (some ⟨w1.heap.size, 0, none⟩) 0 0, .slice (some ⟨w1.heap.size + 1, 0, none⟩) 0 0] 47)
      exact ⟨0, 0, _, _, 0, 0, Nat.zero_le _, rfl, (show 0 = 0 * wd by omega), S3, B4, K4, Z4, G4⟩
    clear K1 Z1 G1 k0 k1 k2 k3
    case round =>
      obtain ⟨y, q, P, R, c, e, hy, rfl, HQ, hT, hX, K, Z, G⟩ := hrel
      obtain ⟨k0, k1, k2, k3⟩ := blk4 K
      by_cases hlt : (y : Int) < m.wd
      · have hyh : y < ht := by have := HHT.out; omega
        go_wp2_with fail
        go_loopw [6] (fun i wr => ∃ (x q : Nat) (P R : Option Addr) (c e : Nat), x ≤ wd ∧ i = .int .i64 (m.ht - 1 - (x : Int)) ∧ Hid (q = y * wd + x) ∧ Two wr (w.heap.size + 2) (w1.heap.size + 2) P R q c e (soFar m.ri I wd y x) (soFar m.co I wd y x) q ∧ Blk wr (w1.heap.size + 2) 47 [.int .i64 (m.ht), .int .i64 (m.wd), .slice P q c, .slice R q e] ∧ Blk wr w.heap.size 47 [.int .i64 m.wd, .int .i64 m.ht, .slice (some ⟨r, orr, none⟩) n cp, .slice (some ⟨s, os, none⟩) k d] ∧ Blk wr (w.heap.size + 1) 47 [.int .i64 0, .int .i64 0, .slice none 0 0, .slice none 0 0] ∧ Below w.heap.size w wr) (fun i _ => (intOf i + 1).toNat)
        case atStart => exact ⟨0, q, P, R, c, e, Nat.zero_le _, by congr 1; omega, HQ, hT, hX, K, Z, G⟩
        clear HQ hT hX K Z G k0 k1 k2 k3
        case round =>
          obtain ⟨x, q, P, R, c, e, hx, hxi, HQ, hT, hX, K, Z, G⟩ := hrel
          obtain ⟨k0, k1, k2, k3⟩ := blk4 K
          by_cases hxw : x < wd
          · obtain ⟨xv, hxv⟩ : ∃ xv : Nat, m.ht - 1 - (x : Int) = (xv : Int) := Int.eq_ofNat_of_zero_le (by have := HWD.out; omega)
            rw [hxv] at hxi
            subst hxi
            obtain ⟨b1, b2, b3, b4⟩ := trnI_bd VH.out (x := x) (y := y) (by have := HWD.out; omega) (by have := HHT.out; omega)
            obtain ⟨ix, hix⟩ := Int.eq_ofNat_of_zero_le b1
            obtain ⟨p, hp⟩ : ∃ p : Nat, (xv : Int) * m.wd = (p : Int) := Int.eq_ofNat_of_zero_le (by rw [← hxv]; exact b4)
            have hpb : (p : Int) ≤ 36 := by rw [← hp]; rw [← hxv]; exact b3
            have hmul : IntKind.i64.wrap ((xv : Int) * m.wd) = (p : Int) := by rw [hp]; exact IntWalk.i64_in _ (by omega)
            have hxs : xv ≤ 6 := by have := HWD.out; omega
            have hys : y ≤ 6 := by omega
            have hadd : IntKind.i64.wrap ((p : Int) + (y : Int)) = (ix : Int) := by
              have e9 : (p : Int) + (y : Int) = (ix : Int) := by
                rw [← hix, ← hp]
                show _ = trnI m x y; unfold trnI; rw [← hxv]
              rw [e9]
              exact IntWalk.i64_in _ (by omega)
            have i3 : ix < k := by have := HKL.out; omega
            have i4 : ix < n := by have h9 := HNL.out; have h8 := HLC.out; omega
            have hdec : IntKind.i64.wrap ((xv : Int) - 1) = (xv : Int) - 1 := IntWalk.i64_in _ (by omega)
            obtain ⟨rv, hrv⟩ : ∃ rv, rv = m.ri.getD ix 0 := ⟨_, rfl⟩
            obtain ⟨cv, hcv⟩ : ∃ cv, cv = m.co.getD ix 0 := ⟨_, rfl⟩
            have hc1 : w.cell? ⟨r, orr + ix, none⟩ = some (.int .i64 rv) := by
              rw [HRC.out ix (by have := HNL.out; omega), hrv]; simp [List.getD, show ix < m.ri.length by have := HNL.out; omega]
            have hc2 : w.cell? ⟨s, os + ix, none⟩ = some (.int .i64 cv) := by
              rw [HSC.out ix (by have := HKL.out; omega), hcv]; simp [List.getD, show ix < m.co.length by have := HKL.out; omega]
            have hIx : (I x y).toNat = ix := by rw [HI9.out, hix]; rfl
            have SR : Hid (soFar m.ri I wd y (x + 1) = soFar m.ri I wd y x ++ [rv]) := by show _ = _; rw [soFar_succ, hIx, hrv]
            have SC : Hid (soFar m.co I wd y (x + 1) = soFar m.co I wd y x ++ [cv]) := by show _ = _; rw [soFar_succ, hIx, hcv]
            have q42 : q ≤ 42 := by rw [HQ.out]; exact cells36 hw6 hh6 (by omega) (by omega)
            have HXV := Lib.hid hxv
            clear hrv hcv hIx b1 b2 b3 b4 hix hp hxv
            go_wp2_with fail
            go_upto_region 10 with (fail)
            go_cut [44] (fun _ wx => ∃ (P1 : Option Addr) (c1 : Nat), Two wx (w.heap.size + 2) (w1.heap.size + 2) P1 R (q + 1) c1 e (soFar m.ri I wd y (x + 1)) (soFar m.co I wd y x) q ∧ Blk wx (w1.heap.size + 2) 47 [.int .i64 (m.ht : Int), .int .i64 (m.wd : Int), .slice P1 (q + 1) c1, .slice R q e] ∧ Blk wx w.heap.size 47 [.int .i64 m.wd, .int .i64 m.ht, .slice (some ⟨r, orr, none⟩) n cp, .slice (some ⟨s, os, none⟩) k d] ∧ Blk wx (w.heap.size + 1) 47 [.int .i64 0, .int .i64 0, .slice none 0 0, .slice none 0 0] ∧ Below w.heap.size w wx)
            case first =>
              replace hT := hT.drew
              replace hX := hX.drew
              obtain ⟨x0, x1, x2, x3⟩ := blk4 hX
              refine wp_region_held_drew (S := fun w' => Blk w' w.heap.size 47 [.int .i64 m.wd, .int .i64 m.ht, .slice (some ⟨r, orr, none⟩) n cp, .slice (some ⟨s, os, none⟩) k d] ∧ Blk w' (w.heap.size + 1) 47 [.int .i64 0, .int .i64 0, .slice none 0 0, .slice none 0 0] ∧ Below w.heap.size w w') (by kernel_rfl) ?_ (fun hHeld => ?_)
              · (try dsimp only)
                first | exact ⟨K.drew, Z.drew, G.drew⟩ | exact hHeld
              generalize wr.drew = wx at *
              refine rgTake (i := 0) (d := 31) (v := ?_) rfl rfl (by kernel_rfl) (by kernel_rfl) (by kernel_rfl) (fun _ _ _ h => h) (by rfl) ?_ (by assumption) ?_
              rotate_left
              · ((intro w hSw); (try dsimp only at hSw); go_simp; (try with_reducible rfl))
              try simp only [Act.put, List.setIfInBounds_toArray, List.set_cons_zero, List.set_cons_succ]
              refine rgTake (i := 2) (d := 33) (v := ?_) rfl rfl (by kernel_rfl) (by kernel_rfl) (by kernel_rfl) (fun _ _ _ h => h) (by rfl) ?_ (by assumption) ?_
              rotate_left
              · ((intro w hSw); (try dsimp only at hSw); go_simp; (try with_reducible rfl))
              try simp only [Act.put, List.setIfInBounds_toArray, List.set_cons_zero, List.set_cons_succ]
              refine rgTake (i := 3) (d := 34) (v := ?_) rfl rfl (by kernel_rfl) (by kernel_rfl) (by kernel_rfl) (fun _ _ _ h => h) (by rfl) ?_ (by assumption) ?_
              rotate_left
              · ((intro w hSw); (try dsimp only at hSw); (obtain ⟨z0, z1, z2, z3⟩ := blk4 hSw.1; have zc := ((bcell hSw.2.2).1 r (orr + ix) hrb).trans hc1); go_simp; (try with_reducible rfl))
              try simp only [Act.put, List.setIfInBounds_toArray, List.set_cons_zero, List.set_cons_succ]
              refine rgTake (i := 4) (d := 35) (v := ?_) rfl rfl (by kernel_rfl) (by kernel_rfl) (by kernel_rfl) (fun _ _ _ h => h) (by rfl) ?_ (by assumption) ?_
              rotate_left
              · ((intro w hSw); (try dsimp only at hSw); go_simp; (try with_reducible rfl))
              try simp only [Act.put, List.setIfInBounds_toArray, List.set_cons_zero, List.set_cons_succ]
              refine rgTake (i := 5) (d := 36) (v := ?_) rfl rfl (by kernel_rfl) (by kernel_rfl) (by kernel_rfl) (fun _ _ _ h => h) (by rfl) ?_ (by assumption) ?_
              rotate_left
              · ((intro w hSw); (try dsimp only at hSw); go_simp; (try with_reducible rfl))
              try simp only [Act.put, List.setIfInBounds_toArray, List.set_cons_zero, List.set_cons_succ]
              refine rgTake (i := 6) (d := 37) (v := ?_) rfl rfl (by kernel_rfl) (by kernel_rfl) (by kernel_rfl) (fun _ _ _ h => h) (by rfl) ?_ (by assumption) ?_
              rotate_left
              · ((intro w hSw); (try dsimp only at hSw); (obtain ⟨z0, z1, z2, z3⟩ := blk4 hSw.1; have zc := ((bcell hSw.2.2).1 r (orr + ix) hrb).trans hc1); go_simp; (try with_reducible rfl))
              try simp only [Act.put, List.setIfInBounds_toArray, List.set_cons_zero, List.set_cons_succ]
              refine rgTake (i := 7) (d := 38) (v := ?_) rfl rfl (by kernel_rfl) (by kernel_rfl) (by kernel_rfl) (fun _ _ _ h => h) (by rfl) ?_ (by assumption) ?_
              rotate_left
              · ((intro w hSw); (try dsimp only at hSw); go_simp; (try with_reducible rfl))
              try simp only [Act.put, List.setIfInBounds_toArray, List.set_cons_zero, List.set_cons_succ]
              refine rgTake (i := 8) (d := 39) (v := ?_) rfl rfl (by kernel_rfl) (by kernel_rfl) (by kernel_rfl) (fun _ _ _ h => h) (by rfl) ?_ (by assumption) ?_
              rotate_left
              · ((intro w hSw); (try dsimp only at hSw); go_simp; (try with_reducible rfl))
              try simp only [Act.put, List.setIfInBounds_toArray, List.set_cons_zero, List.set_cons_succ]
              refine rgTake (i := 9) (d := 40) (v := ?_) rfl rfl (by kernel_rfl) (by kernel_rfl) (by kernel_rfl) (fun _ _ _ h => h) (by rfl) ?_ (by assumption) ?_
              rotate_left
              · ((intro w hSw); (try dsimp only at hSw); go_simp; (try with_reducible rfl))
              try simp only [Act.put, List.setIfInBounds_toArray, List.set_cons_zero, List.set_cons_succ]
              refine rgTake (i := 10) (d := 41) (v := ?_) rfl rfl (by kernel_rfl) (by kernel_rfl) (by kernel_rfl) (fun _ _ _ h => h) (by rfl) ?_ (by assumption) ?_
              rotate_left
              · ((intro w hSw); (try dsimp only at hSw); go_simp; (try with_reducible rfl))
              try simp only [Act.put, List.setIfInBounds_toArray, List.set_cons_zero, List.set_cons_succ]
              refine rgTake (i := 11) (d := 42) (v := ?_) rfl rfl (by kernel_rfl) (by kernel_rfl) (by kernel_rfl) (fun _ _ _ h => h) (by rfl) ?_ (by assumption) ?_
              rotate_left
              · ((intro w hSw); (try dsimp only at hSw); (obtain ⟨z0, z1, z2, z3⟩ := blk4 hSw.1; have zc := ((bcell hSw.2.2).1 r (orr + ix) hrb).trans hc1); go_simp; (try with_reducible rfl))
              try simp only [Act.put, List.setIfInBounds_toArray, List.set_cons_zero, List.set_cons_succ]
              refine wpAnyH_ready (rs := [1, 12]) (by kernel_rfl) (by simp) ?_
              refine AllReadyH.cons rfl (fun K hK => ?_) ?_
              ·
                go_simp
                refine hK.out _ _ ?_ (fun hHeld => ?_)
                · (try dsimp only)
                  first | exact ⟨K.drew, Z.drew, G.drew⟩ | exact hHeld
                clear hK K
                try simp only [Act.put, List.setIfInBounds_toArray, List.set_cons_zero, List.set_cons_succ]
                refine wpAnyH_ready (rs := [12]) (by kernel_rfl) (by simp) ?_
                refine AllReadyH.cons rfl (fun K hK => ?_) AllReadyH.nil
                have hXl := hX.lt; replace hX := hX.alloc (.cells #[.int .i64 rv] 3); replace hT := hT.on (Below.alloc (Below.refl _ _) (Nat.le_refl _) (.cells #[.int .i64 rv] 3)); obtain ⟨x0, x1, x2, x3⟩ := blk4 hX; go_simp
                refine hK.out _ _ ?_ (fun hHeld => ?_)
                · (try dsimp only)
                  exact ⟨hHeld.1.alloc _, hHeld.2.1.alloc _, hHeld.2.2.alloc hHeld.2.2.size _⟩
                clear hK K
                try simp only [Act.put, List.setIfInBounds_toArray, List.set_cons_zero, List.set_cons_succ]
                refine wpAnyH_ready (rs := [13]) (by kernel_rfl) (by simp) ?_
                refine AllReadyH.cons rfl (fun K hK => ?_) AllReadyH.nil
                refine step_append_lies _ rfl _ _ 34 rfl (w.heap.size + 2) 3 i0 (.int .i64 0) 1 8 Tryd.underlying34 hi0 hz0 hz1 hz2 rfl (by decide) _ _ _ rfl hT.oa _ 1 1 [.int .i64 rv] rfl rfl (cell_one_new _ _ _) (by intro u hu; simp at hu; subst hu; rfl) (by decide) (by simp only [maxLen]; omega) (by omega) (by have := hX.lt; omega) _ rfl ?_; intro g8 c8 w8 hown hgrow hat hlt; have hT8 := Two.push (x := rv) hT (by have := hX.lt; omega) (by simpa [ints] using hown) hgrow hat; have hX8 := hX.grown hgrow (fun h => hT.ax h.symm); have hXl := hX.lt; have K8 := hHeld.1.grown hgrow (fun h => by have := (hT.oa.lt _ h.symm).1; omega); have Z8 := hHeld.2.1.grown hgrow (fun h => by have := (hT.oa.lt _ h.symm).1; omega); have G8 := hHeld.2.2.grown hgrow hHeld.2.2.size (fun j hj => by have := (hT.oa.lt j hj).1; omega); clear hT hX x0 x1 x2 x3; obtain ⟨x0, x1, x2, x3⟩ := blk4 hX8; have fx := hX8.frozen 2
                refine hK.out _ _ ?_ (fun hHeld => ?_)
                · (try dsimp only)
                  exact ⟨K8, Z8, G8⟩
                clear hK K
                try simp only [Act.put, List.setIfInBounds_toArray, List.set_cons_zero, List.set_cons_succ]
                refine rgTake (i := 14) (d := 45) (v := ?_) rfl rfl (by kernel_rfl) (by kernel_rfl) (by kernel_rfl) (fun _ _ _ h => h) (by rfl) ?_ (by assumption) ?_
                rotate_left
                · ((intro w hSw); (try dsimp only at hSw); go_simp; (try with_reducible rfl))
                try simp only [Act.put, List.setIfInBounds_toArray, List.set_cons_zero, List.set_cons_succ]
                refine wpAnyH_ready (rs := [15]) (by kernel_rfl) (by simp) ?_
                refine AllReadyH.cons rfl (fun K hK => ?_) AllReadyH.nil
                go_simp
                refine hK.out _ _ ?_ (fun hHeld => ?_)
                · (try dsimp only)
                  exact ⟨K8.far (by first | omega | (simp; done) | (simp; omega)) _, Z8.far (by first | omega | (simp; done) | (simp; omega)) _, Below.setCell G8 (by first | omega | (simp; done) | (simp; omega)) _⟩
                clear hK K
                try simp only [Act.put, List.setIfInBounds_toArray, List.set_cons_zero, List.set_cons_succ]
                refine wpAnyH_done (by kernel_rfl) ?_ _
                go_wp2_with fail
                go_meet
                exact ⟨_, _, (by rw [SR.out]; exact hT8.box), hX8.set_ 2 _, hHeld⟩
              refine AllReadyH.cons rfl (fun K hK => ?_) ?_
              ·
                have hXl := hX.lt; replace hX := hX.alloc (.cells #[.int .i64 rv] 3); replace hT := hT.on (Below.alloc (Below.refl _ _) (Nat.le_refl _) (.cells #[.int .i64 rv] 3)); obtain ⟨x0, x1, x2, x3⟩ := blk4 hX; go_simp
                refine hK.out _ _ ?_ (fun hHeld => ?_)
                · (try dsimp only)
                  exact ⟨hHeld.1.alloc _, hHeld.2.1.alloc _, hHeld.2.2.alloc hHeld.2.2.size _⟩
                clear hK K
                try simp only [Act.put, List.setIfInBounds_toArray, List.set_cons_zero, List.set_cons_succ]
                refine wpAnyH_ready (rs := [1]) (by kernel_rfl) (by simp) ?_
                refine AllReadyH.cons rfl (fun K hK => ?_) AllReadyH.nil
                go_simp
                refine hK.out _ _ ?_ (fun hHeld => ?_)
                · (try dsimp only)
                  first | exact ⟨K.drew, Z.drew, G.drew⟩ | exact hHeld
                clear hK K
                try simp only [Act.put, List.setIfInBounds_toArray, List.set_cons_zero, List.set_cons_succ]
                refine wpAnyH_ready (rs := [13]) (by kernel_rfl) (by simp) ?_
                refine AllReadyH.cons rfl (fun K hK => ?_) AllReadyH.nil
                refine step_append_lies _ rfl _ _ 34 rfl (w.heap.size + 2) 3 i0 (.int .i64 0) 1 8 Tryd.underlying34 hi0 hz0 hz1 hz2 rfl (by decide) _ _ _ rfl hT.oa _ 1 1 [.int .i64 rv] rfl rfl (cell_one_new _ _ _) (by intro u hu; simp at hu; subst hu; rfl) (by decide) (by simp only [maxLen]; omega) (by omega) (by have := hX.lt; omega) _ rfl ?_; intro g8 c8 w8 hown hgrow hat hlt; have hT8 := Two.push (x := rv) hT (by have := hX.lt; omega) (by simpa [ints] using hown) hgrow hat; have hX8 := hX.grown hgrow (fun h => hT.ax h.symm); have hXl := hX.lt; have K8 := hHeld.1.grown hgrow (fun h => by have := (hT.oa.lt _ h.symm).1; omega); have Z8 := hHeld.2.1.grown hgrow (fun h => by have := (hT.oa.lt _ h.symm).1; omega); have G8 := hHeld.2.2.grown hgrow hHeld.2.2.size (fun j hj => by have := (hT.oa.lt j hj).1; omega); clear hT hX x0 x1 x2 x3; obtain ⟨x0, x1, x2, x3⟩ := blk4 hX8; have fx := hX8.frozen 2
                refine hK.out _ _ ?_ (fun hHeld => ?_)
                · (try dsimp only)
                  exact ⟨K8, Z8, G8⟩
                clear hK K
                try simp only [Act.put, List.setIfInBounds_toArray, List.set_cons_zero, List.set_cons_succ]
                refine rgTake (i := 14) (d := 45) (v := ?_) rfl rfl (by kernel_rfl) (by kernel_rfl) (by kernel_rfl) (fun _ _ _ h => h) (by rfl) ?_ (by assumption) ?_
                rotate_left
                · ((intro w hSw); (try dsimp only at hSw); go_simp; (try with_reducible rfl))
                try simp only [Act.put, List.setIfInBounds_toArray, List.set_cons_zero, List.set_cons_succ]
                refine wpAnyH_ready (rs := [15]) (by kernel_rfl) (by simp) ?_
                refine AllReadyH.cons rfl (fun K hK => ?_) AllReadyH.nil
                go_simp
                refine hK.out _ _ ?_ (fun hHeld => ?_)
                · (try dsimp only)
                  exact ⟨K8.far (by first | omega | (simp; done) | (simp; omega)) _, Z8.far (by first | omega | (simp; done) | (simp; omega)) _, Below.setCell G8 (by first | omega | (simp; done) | (simp; omega)) _⟩
                clear hK K
                try simp only [Act.put, List.setIfInBounds_toArray, List.set_cons_zero, List.set_cons_succ]
                refine wpAnyH_done (by kernel_rfl) ?_ _
                go_wp2_with fail
                go_meet
                exact ⟨_, _, (by rw [SR.out]; exact hT8.box), hX8.set_ 2 _, hHeld⟩
              exact AllReadyH.nil
            case rest =>
            obtain ⟨P, c, hT, hX, K, Z, G⟩ := hcut
            go_upto_region 11 with (fail)
            replace hT := hT.drew
            replace hX := hX.drew
            obtain ⟨x0, x1, x2, x3⟩ := blk4 hX
            refine wp_region_held_drew (S := fun w' => Blk w' w.heap.size 47 [.int .i64 m.wd, .int .i64 m.ht, .slice (some ⟨r, orr, none⟩) n cp, .slice (some ⟨s, os, none⟩) k d] ∧ Blk w' (w.heap.size + 1) 47 [.int .i64 0, .int .i64 0, .slice none 0 0, .slice none 0 0] ∧ Below w.heap.size w w') (by kernel_rfl) ?_ (fun hHeld => ?_)
            · (try dsimp only)
              first | exact ⟨K.drew, Z.drew, G.drew⟩ | exact hHeld
            generalize wc.drew = wx at *
            refine rgTake (i := 0) (d := 46) (v := ?_) rfl rfl (by kernel_rfl) (by kernel_rfl) (by kernel_rfl) (fun _ _ _ h => h) (by rfl) ?_ (by assumption) ?_
            rotate_left
            · ((intro w hSw); (try dsimp only at hSw); go_simp; (try with_reducible rfl))
            try simp only [Act.put, List.setIfInBounds_toArray, List.set_cons_zero, List.set_cons_succ]
            refine rgTake (i := 2) (d := 48) (v := ?_) rfl rfl (by kernel_rfl) (by kernel_rfl) (by kernel_rfl) (fun _ _ _ h => h) (by rfl) ?_ (by assumption) ?_
            rotate_left
            · ((intro w hSw); (try dsimp only at hSw); go_simp; (try with_reducible rfl))
            try simp only [Act.put, List.setIfInBounds_toArray, List.set_cons_zero, List.set_cons_succ]
            refine rgTake (i := 3) (d := 49) (v := ?_) rfl rfl (by kernel_rfl) (by kernel_rfl) (by kernel_rfl) (fun _ _ _ h => h) (by rfl) ?_ (by assumption) ?_
            rotate_left
            · ((intro w hSw); (try dsimp only at hSw); (obtain ⟨z0, z1, z2, z3⟩ := blk4 hSw.1; have zc := ((bcell hSw.2.2).1 s (os + ix) hsb).trans hc2); go_simp; (try with_reducible rfl))
            try simp only [Act.put, List.setIfInBounds_toArray, List.set_cons_zero, List.set_cons_succ]
            refine rgTake (i := 4) (d := 50) (v := ?_) rfl rfl (by kernel_rfl) (by kernel_rfl) (by kernel_rfl) (fun _ _ _ h => h) (by rfl) ?_ (by assumption) ?_
            rotate_left
            · ((intro w hSw); (try dsimp only at hSw); go_simp; (try with_reducible rfl))
            try simp only [Act.put, List.setIfInBounds_toArray, List.set_cons_zero, List.set_cons_succ]
            refine rgTake (i := 5) (d := 51) (v := ?_) rfl rfl (by kernel_rfl) (by kernel_rfl) (by kernel_rfl) (fun _ _ _ h => h) (by rfl) ?_ (by assumption) ?_
            rotate_left
            · ((intro w hSw); (try dsimp only at hSw); go_simp; (try with_reducible rfl))
            try simp only [Act.put, List.setIfInBounds_toArray, List.set_cons_zero, List.set_cons_succ]
            refine rgTake (i := 6) (d := 52) (v := ?_) rfl rfl (by kernel_rfl) (by kernel_rfl) (by kernel_rfl) (fun _ _ _ h => h) (by rfl) ?_ (by assumption) ?_
            rotate_left
            · ((intro w hSw); (try dsimp only at hSw); (obtain ⟨z0, z1, z2, z3⟩ := blk4 hSw.1; have zc := ((bcell hSw.2.2).1 s (os + ix) hsb).trans hc2); go_simp; (try with_reducible rfl))
            try simp only [Act.put, List.setIfInBounds_toArray, List.set_cons_zero, List.set_cons_succ]
            refine rgTake (i := 7) (d := 53) (v := ?_) rfl rfl (by kernel_rfl) (by kernel_rfl) (by kernel_rfl) (fun _ _ _ h => h) (by rfl) ?_ (by assumption) ?_
            rotate_left
            · ((intro w hSw); (try dsimp only at hSw); go_simp; (try with_reducible rfl))
            try simp only [Act.put, List.setIfInBounds_toArray, List.set_cons_zero, List.set_cons_succ]
            refine rgTake (i := 8) (d := 54) (v := ?_) rfl rfl (by kernel_rfl) (by kernel_rfl) (by kernel_rfl) (fun _ _ _ h => h) (by rfl) ?_ (by assumption) ?_
            rotate_left
            · ((intro w hSw); (try dsimp only at hSw); go_simp; (try with_reducible rfl))
            try simp only [Act.put, List.setIfInBounds_toArray, List.set_cons_zero, List.set_cons_succ]
            refine rgTake (i := 9) (d := 55) (v := ?_) rfl rfl (by kernel_rfl) (by kernel_rfl) (by kernel_rfl) (fun _ _ _ h => h) (by rfl) ?_ (by assumption) ?_
            rotate_left
            · ((intro w hSw); (try dsimp only at hSw); go_simp; (try with_reducible rfl))
            try simp only [Act.put, List.setIfInBounds_toArray, List.set_cons_zero, List.set_cons_succ]
            refine rgTake (i := 10) (d := 56) (v := ?_) rfl rfl (by kernel_rfl) (by kernel_rfl) (by kernel_rfl) (fun _ _ _ h => h) (by rfl) ?_ (by assumption) ?_
            rotate_left
            · ((intro w hSw); (try dsimp only at hSw); go_simp; (try with_reducible rfl))
            try simp only [Act.put, List.setIfInBounds_toArray, List.set_cons_zero, List.set_cons_succ]
            refine rgTake (i := 11) (d := 57) (v := ?_) rfl rfl (by kernel_rfl) (by kernel_rfl) (by kernel_rfl) (fun _ _ _ h => h) (by rfl) ?_ (by assumption) ?_
            rotate_left
            · ((intro w hSw); (try dsimp only at hSw); (obtain ⟨z0, z1, z2, z3⟩ := blk4 hSw.1; have zc := ((bcell hSw.2.2).1 s (os + ix) hsb).trans hc2); go_simp; (try with_reducible rfl))
            try simp only [Act.put, List.setIfInBounds_toArray, List.set_cons_zero, List.set_cons_succ]
            refine wpAnyH_ready (rs := [1, 12]) (by kernel_rfl) (by simp) ?_
            refine AllReadyH.cons rfl (fun K hK => ?_) ?_
            ·
              go_simp
              refine hK.out _ _ ?_ (fun hHeld => ?_)
              · (try dsimp only)
                first | exact ⟨K.drew, Z.drew, G.drew⟩ | exact hHeld
              clear hK K
              try simp only [Act.put, List.setIfInBounds_toArray, List.set_cons_zero, List.set_cons_succ]
              refine wpAnyH_ready (rs := [12]) (by kernel_rfl) (by simp) ?_
              refine AllReadyH.cons rfl (fun K hK => ?_) AllReadyH.nil
              have hXl := hX.lt; replace hX := hX.alloc (.cells #[.int .i64 cv] 3); replace hT := hT.on (Below.alloc (Below.refl _ _) (Nat.le_refl _) (.cells #[.int .i64 cv] 3)); obtain ⟨x0, x1, x2, x3⟩ := blk4 hX; go_simp
              refine hK.out _ _ ?_ (fun hHeld => ?_)
              · (try dsimp only)
                exact ⟨hHeld.1.alloc _, hHeld.2.1.alloc _, hHeld.2.2.alloc hHeld.2.2.size _⟩
              clear hK K
              try simp only [Act.put, List.setIfInBounds_toArray, List.set_cons_zero, List.set_cons_succ]
              refine wpAnyH_ready (rs := [13]) (by kernel_rfl) (by simp) ?_
              refine AllReadyH.cons rfl (fun K hK => ?_) AllReadyH.nil
              refine step_append_lies _ rfl _ _ 34 rfl (w.heap.size + 2) 3 i0 (.int .i64 0) 1 8 Tryd.underlying34 hi0 hz0 hz1 hz2 rfl (by decide) _ _ _ rfl hT.ob _ 1 1 [.int .i64 cv] rfl rfl (cell_one_new _ _ _) (by intro u hu; simp at hu; subst hu; rfl) (by decide) (by simp only [maxLen]; omega) (by omega) (by have := hX.lt; omega) _ rfl ?_; intro g8 c8 w8 hown hgrow hat hlt; have hT8 := (Two.push (x := cv) hT.swap (by have := hX.lt; omega) (by simpa [ints] using hown) hgrow hat).swap; have hX8 := hX.grown hgrow (fun h => hT.bx h.symm); have hXl := hX.lt; have K8 := hHeld.1.grown hgrow (fun h => by have := (hT.ob.lt _ h.symm).1; omega); have Z8 := hHeld.2.1.grown hgrow (fun h => by have := (hT.ob.lt _ h.symm).1; omega); have G8 := hHeld.2.2.grown hgrow hHeld.2.2.size (fun j hj => by have := (hT.ob.lt j hj).1; omega); clear hT hX x0 x1 x2 x3; obtain ⟨x0, x1, x2, x3⟩ := blk4 hX8; have fx := hX8.frozen 3
              refine hK.out _ _ ?_ (fun hHeld => ?_)
              · (try dsimp only)
                exact ⟨K8, Z8, G8⟩
              clear hK K
              try simp only [Act.put, List.setIfInBounds_toArray, List.set_cons_zero, List.set_cons_succ]
              refine rgTake (i := 14) (d := 60) (v := ?_) rfl rfl (by kernel_rfl) (by kernel_rfl) (by kernel_rfl) (fun _ _ _ h => h) (by rfl) ?_ (by assumption) ?_
              rotate_left
              · ((intro w hSw); (try dsimp only at hSw); go_simp; (try with_reducible rfl))
              try simp only [Act.put, List.setIfInBounds_toArray, List.set_cons_zero, List.set_cons_succ]
              refine wpAnyH_ready (rs := [15]) (by kernel_rfl) (by simp) ?_
              refine AllReadyH.cons rfl (fun K hK => ?_) AllReadyH.nil
              go_simp
              refine hK.out _ _ ?_ (fun hHeld => ?_)
              · (try dsimp only)
                exact ⟨K8.far (by first | omega | (simp; done) | (simp; omega)) _, Z8.far (by first | omega | (simp; done) | (simp; omega)) _, Below.setCell G8 (by first | omega | (simp; done) | (simp; omega)) _⟩
              clear hK K
              try simp only [Act.put, List.setIfInBounds_toArray, List.set_cons_zero, List.set_cons_succ]
              refine wpAnyH_done (by kernel_rfl) ?_ _
              go_wp2_with fail
              go_roundw
              case rel => exact ⟨x + 1, q + 1, _, _, _, _, by omega, (by congr 1; have h9 := HXV.out; omega), (show q + 1 = y * wd + (x + 1) by rw [HQ.out]; rfl), (by rw [SC.out]; exact hT8.box), hX8.set_ 3 _, hHeld.1, hHeld.2.1, hHeld.2.2⟩
              case measure => simp [intOf] <;> omega
            refine AllReadyH.cons rfl (fun K hK => ?_) ?_
            ·
              have hXl := hX.lt; replace hX := hX.alloc (.cells #[.int .i64 cv] 3); replace hT := hT.on (Below.alloc (Below.refl _ _) (Nat.le_refl _) (.cells #[.int .i64 cv] 3)); obtain ⟨x0, x1, x2, x3⟩ := blk4 hX; go_simp
              refine hK.out _ _ ?_ (fun hHeld => ?_)
              · (try dsimp only)
                exact ⟨hHeld.1.alloc _, hHeld.2.1.alloc _, hHeld.2.2.alloc hHeld.2.2.size _⟩
              clear hK K
              try simp only [Act.put, List.setIfInBounds_toArray, List.set_cons_zero, List.set_cons_succ]
              refine wpAnyH_ready (rs := [1]) (by kernel_rfl) (by simp) ?_
              refine AllReadyH.cons rfl (fun K hK => ?_) AllReadyH.nil
              go_simp
              refine hK.out _ _ ?_ (fun hHeld => ?_)
              · (try dsimp only)
                first | exact ⟨K.drew, Z.drew, G.drew⟩ | exact hHeld
              clear hK K
              try simp only [Act.put, List.setIfInBounds_toArray, List.set_cons_zero, List.set_cons_succ]
              refine wpAnyH_ready (rs := [13]) (by kernel_rfl) (by simp) ?_
              refine AllReadyH.cons rfl (fun K hK => ?_) AllReadyH.nil
              refine step_append_lies _ rfl _ _ 34 rfl (w.heap.size + 2) 3 i0 (.int .i64 0) 1 8 Tryd.underlying34 hi0 hz0 hz1 hz2 rfl (by decide) _ _ _ rfl hT.ob _ 1 1 [.int .i64 cv] rfl rfl (cell_one_new _ _ _) (by intro u hu; simp at hu; subst hu; rfl) (by decide) (by simp only [maxLen]; omega) (by omega) (by have := hX.lt; omega) _ rfl ?_; intro g8 c8 w8 hown hgrow hat hlt; have hT8 := (Two.push (x := cv) hT.swap (by have := hX.lt; omega) (by simpa [ints] using hown) hgrow hat).swap; have hX8 := hX.grown hgrow (fun h => hT.bx h.symm); have hXl := hX.lt; have K8 := hHeld.1.grown hgrow (fun h => by have := (hT.ob.lt _ h.symm).1; omega); have Z8 := hHeld.2.1.grown hgrow (fun h => by have := (hT.ob.lt _ h.symm).1; omega); have G8 := hHeld.2.2.grown hgrow hHeld.2.2.size (fun j hj => by have := (hT.ob.lt j hj).1; omega); clear hT hX x0 x1 x2 x3; obtain ⟨x0, x1, x2, x3⟩ := blk4 hX8; have fx := hX8.frozen 3
              refine hK.out _ _ ?_ (fun hHeld => ?_)
              · (try dsimp only)
                exact ⟨K8, Z8, G8⟩
              clear hK K
              try simp only [Act.put, List.setIfInBounds_toArray, List.set_cons_zero, List.set_cons_succ]
              refine rgTake (i := 14) (d := 60) (v := ?_) rfl rfl (by kernel_rfl) (by kernel_rfl) (by kernel_rfl) (fun _ _ _ h => h) (by rfl) ?_ (by assumption) ?_
              rotate_left
              · ((intro w hSw); (try dsimp only at hSw); go_simp; (try with_reducible rfl))
              try simp only [Act.put, List.setIfInBounds_toArray, List.set_cons_zero, List.set_cons_succ]
              refine wpAnyH_ready (rs := [15]) (by kernel_rfl) (by simp) ?_
              refine AllReadyH.cons rfl (fun K hK => ?_) AllReadyH.nil
              go_simp
              refine hK.out _ _ ?_ (fun hHeld => ?_)
              · (try dsimp only)
                exact ⟨K8.far (by first | omega | (simp; done) | (simp; omega)) _, Z8.far (by first | omega | (simp; done) | (simp; omega)) _, Below.setCell G8 (by first | omega | (simp; done) | (simp; omega)) _⟩
              clear hK K
              try simp only [Act.put, List.setIfInBounds_toArray, List.set_cons_zero, List.set_cons_succ]
              refine wpAnyH_done (by kernel_rfl) ?_ _
              go_wp2_with fail
              go_roundw
              case rel => exact ⟨x + 1, q + 1, _, _, _, _, by omega, (by congr 1; have h9 := HXV.out; omega), (show q + 1 = y * wd + (x + 1) by rw [HQ.out]; rfl), (by rw [SC.out]; exact hT8.box), hX8.set_ 3 _, hHeld.1, hHeld.2.1, hHeld.2.2⟩
              case measure => simp [intOf] <;> omega
            exact AllReadyH.nil
          · have hxe : x = wd := by omega
            subst hxe
            have hxm : m.ht - 1 - (x : Int) = -1 := by have := HWD.out; omega
            rw [hxm] at hxi
            subst hxi
            rw [soFar_next, soFar_next] at hT
            go_wp2_with fail
            go_roundw
            case rel => exact ⟨y + 1, q, P, R, c, e, by omega, by go_num, (show q = (y + 1) * x by rw [HQ.out, Nat.succ_mul]), hT, hX, K, Z, G⟩
            case measure => simp [intOf]; omega
      · have hye : y = ht := by have := HHT.out; omega
        subst hye
        rw [soFar_zero, soFar_zero] at hT
        have hq := HQ.out
        subst hq
        obtain ⟨x0, x1, x2, x3⟩ := blk4 hX
        obtain ⟨z0, z1, z2, z3⟩ := blk4 Z
        have f0 := Z.frozen 0
        have f1 := Z.frozen 1
        have f2 := Z.frozen 2
        have f3 := Z.frozen 3
        have Z2 := (((Z.set_ 0 (.int .i64 m.ht)).set_ 1 (.int .i64 m.wd)).set_ 2 (.slice P (y * wd) c)).set_ 3 (.slice R (y * wd) e)
        obtain ⟨q0, q1, q2, q3⟩ := blk4 Z2
        have hZ2 : w.heap.size + 1 < w.heap.size + 2 := by omega
        have oA := own_far (own_far (own_far (own_far hT.oa hZ2 0 (.int .i64 m.ht)) hZ2 1 (.int .i64 m.wd)) hZ2 2 (.slice P (y * wd) c)) hZ2 3 (.slice R (y * wd) e)
        have oB := own_far (own_far (own_far (own_far hT.ob hZ2 0 (.int .i64 m.ht)) hZ2 1 (.int .i64 m.wd)) hZ2 2 (.slice P (y * wd) c)) hZ2 3 (.slice R (y * wd) e)
        have GP := below4 (X := w.heap.size + 1) G (Nat.le_succ _) (.int .i64 m.ht) (.int .i64 m.wd) (.slice P (y * wd) c) (.slice R (y * wd) e)
        have AB := Lib.hid hT.ab
        clear Z2 hT hX K Z G
        go_wp2_with fail
        refine bodyPost_ret (v := .tuple #[.agg #[.int .i64 m.ht, .int .i64 m.wd, .slice P (y * wd) c, .slice R (y * wd) e], .bool true]) ?_ ?_ ?_
        · simp [results, Tryd.results46, go_sem, q0, q1, q2, q3]
        · rfl
        have eT : (m.ht).toNat = wd := by rw [HWD.out]; rfl
        have eH : (m.wd).toNat = y := by rw [HHT.out]; rfl
        have l1 : (allL m.ri I (m.ht).toNat (m.wd).toNat).length = y * wd := by rw [allL_len, eT, eH]
        have l2 : (allL m.co I (m.ht).toNat (m.wd).toNat).length = y * wd := by rw [allL_len, eT, eH]
        refine ⟨P, R, c, e, ?_, ?_, ?_, ?_, GP⟩
        · show _ = Ending.returned (Value.tuple #[.agg #[_, _, .slice P (allL m.ri I (m.ht).toNat (m.wd).toNat).length c, .slice R (allL m.co I (m.ht).toNat (m.wd).toNat).length e], _])
          rw [l1, l2]
        · show World.ownsRow _ _ _ _ (.slice P (allL m.ri I (m.ht).toNat (m.wd).toNat).length c) (allL m.ri I (m.ht).toNat (m.wd).toNat).length (ints (allL m.ri I (m.ht).toNat (m.wd).toNat))
          rw [l1, eT, eH]
          exact own_le oA (by omega)
        · show World.ownsRow _ _ _ _ (.slice R (allL m.co I (m.ht).toNat (m.wd).toNat).length e) (allL m.co I (m.ht).toNat (m.wd).toNat).length (ints (allL m.co I (m.ht).toNat (m.wd).toNat))
          rw [l2, eT, eH]
          exact own_le oB (by omega)
        · show ∀ z, Value.ownBlock (.slice P (allL m.ri I (m.ht).toNat (m.wd).toNat).length c) = some z → Value.ownBlock (.slice R (allL m.co I (m.ht).toNat (m.wd).toNat).length e) ≠ some z
          rw [l1, l2]
          exact AB.out
end Go.Proofs.YtmmpcchjalgokaaDoor
