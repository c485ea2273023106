/- Contracts: a route's time, the program's and the reference's. -/
import Derived.Test.YtijmlagehdmfeaaIsRouteFn
namespace Go.Proofs.Ytijmlagehdmfeaa
set_option linter.unusedVariables false
set_option linter.unusedSimpArgs false
open Go.RowKit
def rtT (m : Mp) (l : List Int) : Nat → Int
  | 0 => 0
  | k + 1 => rtT m l k + (if k = 0 then 0 else stepV m (l.getD (k - 1) 0) (l.getD k 0))
theorem rtT_bd {m : Mp} (V : Valid m) (l : List Int) : ∀ k : Nat, 0 ≤ rtT m l k ∧ rtT m l k ≤ 40 * k := by
  intro k
  induction k with
  | zero => simp [rtT]
  | succ k ih =>
    have := V.step_bd (l.getD (k - 1) 0) (l.getD k 0)
    rw [rtT]
    split <;> omega
theorem rtB_len {m : Mp} {l : List Int} (h : rtB m l = true) : 1 ≤ l.length := by
  unfold rtB at h; simp at h; omega
theorem rtB_open {m : Mp} {l : List Int} (h : rtB m l = true) {k : Nat} (hk : k < l.length) : opM m l[k] = true := by
  unfold rtB at h
  rw [Bool.and_eq_true] at h
  have := rtP_open h.1 k hk
  rwa [show l.getD k 0 = l[k] by simp [List.getD, hk]] at this
set_option maxRecDepth 100000 in
set_option maxHeartbeats 1000000 in
theorem routeTime_any {m : Mp} {v : Value} {R : Option Addr} {q cq : Nat} {l : List Int} {w : World} (hv : MapIn w m v) (V : Valid m) (hR : Rd w w.heap.size 1 R q (ints l)) (hq : q ≤ 1048576) (hrt : rtB m l = true) :
    Calls Try.prog 80 #[v, .slice R q cq] w fun e w' => e = .returned (.int .i64 (rtT m l l.length)) ∧ Below w.heap.size w w' := by
  have hv' := hv
  obtain ⟨A, n, cp, B, k, d, rfl, h1, h2, h3, h4⟩ := hv
  have HQ := Lib.hid hR.len
  have hq1 : 1 ≤ q := by have := rtB_len hrt; have := hR.len; omega
  have HT := Lib.hid hrt
  clear hrt
  go_enter Try.func80, Try.ntmps80
  go_wp2_with fail
  go_loopw [5, 6] (fun s i wr => ∃ j : Nat, 1 ≤ j ∧ j ≤ q ∧ i = .int .i64 j ∧ s = .int .i64 (rtT m l j) ∧ Blk wr w.heap.size 28 [.int .i64 m.wd, .int .i64 m.ht, .slice A n cp, .slice B k d] ∧ Below w.heap.size w wr) (fun _ i _ => q - (intOf i).toNat)
  case atStart => exact ⟨1, Nat.le_refl _, hq1, rfl, by simp [rtT], Blk.new w 28 [.int .i64 m.wd, .int .i64 m.ht, .slice A n cp, .slice B k d], (by repeat (first | exact Below.refl _ _ | refine below_drewN ?_ _ | refine Below.drew ?_ | refine Below.alloc ?_ (by first | omega | (simp; done) | (simp; omega)) _ | refine Below.setCell ?_ (by first | omega | (simp; done) | (simp; omega)) _))⟩
  case round =>
    obtain ⟨j, hj1, hj, rfl, rfl, K, G⟩ := hrel
    by_cases hlt : j < q
    · have kx : j < l.length := by rw [HQ.out]; exact hlt
      have kx2 : j - 1 < l.length := by omega
      obtain ⟨b, off, rfl, hbb0, hcw⟩ := hR.int hlt
      have c10 := hcw j kx
      have c20 := hcw (j - 1) kx2
      obtain ⟨a0, a1⟩ := (opM_iff.1 (rtB_open HT.out kx2)).1
      obtain ⟨b0, b1⟩ := (opM_iff.1 (rtB_open HT.out kx)).1
      have sb := V.step_bd l[j - 1] l[j]
      have tb := rtT_bd V l j
      have HN : Hid (rtT m l (j + 1) = rtT m l j + stepV m l[j - 1] l[j]) := by
        show _ = _
        rw [rtT, if_neg (by omega), show l.getD (j - 1) 0 = l[j - 1] by simp [List.getD, kx2], show l.getD j 0 = l[j] by simp [List.getD, kx]]
      have p1 : IntKind.i64.wrap ((j : Int) - 1) = (j : Int) - 1 := IntWalk.i64_in _ (by omega)
      have p5 : IntKind.i64.wrap (rtT m l j + stepV m l[j - 1] l[j]) = rtT m l j + stepV m l[j - 1] l[j] := IntWalk.i64_in _ (by omega)
      have p0 : (1 : Int) ≤ (j : Int) := by omega
      have p2 : (0 : Int) ≤ (j : Int) - 1 := by omega
      have p3 : ((j : Int) - 1).toNat = j - 1 := by omega
      have p4 : (j : Int) - 1 < (q : Int) := by omega
      go_wp2_with fail
      refine wp_region_held_drew (S := fun w' => Blk w' w.heap.size 28 [.int .i64 m.wd, .int .i64 m.ht, .slice A n cp, .slice B k d] ∧ Below w.heap.size w w') (by kernel_rfl) ?_ (fun hHeld => ?_)
      · (try dsimp only)
        first | exact ⟨K.drew, G.drew⟩ | exact ⟨hHeld.1.on hb6, hHeld.2.trans (hb6.mono hHeld.2.size)⟩ | exact hHeld
      refine rgTake (i := 0) (d := 13) (v := ?_) rfl rfl (by kernel_rfl) (by kernel_rfl) (by kernel_rfl) (fun _ _ _ h => h) (by rfl) ?_ (by assumption) ?_
      rotate_left
      · ((intro w hSw); (try dsimp only at hSw); go_simp; (try with_reducible rfl))
      try simp only [Act.put, List.setIfInBounds_toArray, List.set_cons_zero, List.set_cons_succ]
      refine rgTake (i := 1) (d := 14) (v := ?_) rfl rfl (by kernel_rfl) (by kernel_rfl) (by kernel_rfl) (fun _ _ _ h => h) (by rfl) ?_ (by assumption) ?_
      rotate_left
      · ((intro w hSw); (try dsimp only at hSw); (obtain ⟨z0, z1, z2, z3⟩ := blk4 hSw.1; have zc := ((bcell hSw.2).1 b (off + j) hbb0).trans c10; have zd := ((bcell hSw.2).1 b (off + (j - 1)) hbb0).trans c20); go_simp; (try with_reducible rfl))
      try simp only [Act.put, List.setIfInBounds_toArray, List.set_cons_zero, List.set_cons_succ]
      refine rgTake (i := 2) (d := 15) (v := ?_) rfl rfl (by kernel_rfl) (by kernel_rfl) (by kernel_rfl) (fun _ _ _ h => h) (by rfl) ?_ (by assumption) ?_
      rotate_left
      · ((intro w hSw); (try dsimp only at hSw); go_simp; (try with_reducible rfl))
      try simp only [Act.put, List.setIfInBounds_toArray, List.set_cons_zero, List.set_cons_succ]
      refine rgTake (i := 3) (d := 16) (v := ?_) rfl rfl (by kernel_rfl) (by kernel_rfl) (by kernel_rfl) (fun _ _ _ h => h) (by rfl) ?_ (by assumption) ?_
      rotate_left
      · ((intro w hSw); (try dsimp only at hSw); go_simp; (try with_reducible rfl))
      try simp only [Act.put, List.setIfInBounds_toArray, List.set_cons_zero, List.set_cons_succ]
      refine rgTake (i := 4) (d := 17) (v := ?_) rfl rfl (by kernel_rfl) (by kernel_rfl) (by kernel_rfl) (fun _ _ _ h => h) (by rfl) ?_ (by assumption) ?_
      rotate_left
      · ((intro w hSw); (try dsimp only at hSw); go_simp; (try with_reducible rfl))
      try simp only [Act.put, List.setIfInBounds_toArray, List.set_cons_zero, List.set_cons_succ]
      refine rgTake (i := 5) (d := 18) (v := ?_) rfl rfl (by kernel_rfl) (by kernel_rfl) (by kernel_rfl) (fun _ _ _ h => h) (by rfl) ?_ (by assumption) ?_
      rotate_left
      · ((intro w hSw); (try dsimp only at hSw); go_simp; (try with_reducible rfl))
      try simp only [Act.put, List.setIfInBounds_toArray, List.set_cons_zero, List.set_cons_succ]
      refine rgTake (i := 6) (d := 19) (v := ?_) rfl rfl (by kernel_rfl) (by kernel_rfl) (by kernel_rfl) (fun _ _ _ h => h) (by rfl) ?_ (by assumption) ?_
      rotate_left
      · ((intro w hSw); (try dsimp only at hSw); (obtain ⟨z0, z1, z2, z3⟩ := blk4 hSw.1; have zc := ((bcell hSw.2).1 b (off + j) hbb0).trans c10; have zd := ((bcell hSw.2).1 b (off + (j - 1)) hbb0).trans c20); go_simp; (try with_reducible rfl))
      try simp only [Act.put, List.setIfInBounds_toArray, List.set_cons_zero, List.set_cons_succ]
      refine rgTake (i := 7) (d := 20) (v := ?_) rfl rfl (by kernel_rfl) (by kernel_rfl) (by kernel_rfl) (fun _ _ _ h => h) (by rfl) ?_ (by assumption) ?_
      rotate_left
      · ((intro w hSw); (try dsimp only at hSw); go_simp; (try with_reducible rfl))
      try simp only [Act.put, List.setIfInBounds_toArray, List.set_cons_zero, List.set_cons_succ]
      refine rgTake (i := 8) (d := 21) (v := ?_) rfl rfl (by kernel_rfl) (by kernel_rfl) (by kernel_rfl) (fun _ _ _ h => h) (by rfl) ?_ (by assumption) ?_
      rotate_left
      · ((intro w hSw); (try dsimp only at hSw); go_simp; (try with_reducible rfl))
      try simp only [Act.put, List.setIfInBounds_toArray, List.set_cons_zero, List.set_cons_succ]
      refine rgTake (i := 9) (d := 22) (v := ?_) rfl rfl (by kernel_rfl) (by kernel_rfl) (by kernel_rfl) (fun _ _ _ h => h) (by rfl) ?_ (by assumption) ?_
      rotate_left
      · ((intro w hSw); (try dsimp only at hSw); go_simp; (try with_reducible rfl))
      try simp only [Act.put, List.setIfInBounds_toArray, List.set_cons_zero, List.set_cons_succ]
      refine rgTake (i := 10) (d := 23) (v := ?_) rfl rfl (by kernel_rfl) (by kernel_rfl) (by kernel_rfl) (fun _ _ _ h => h) (by rfl) ?_ (by assumption) ?_
      rotate_left
      · ((intro w hSw); (try dsimp only at hSw); (obtain ⟨z0, z1, z2, z3⟩ := blk4 hSw.1; have zc := ((bcell hSw.2).1 b (off + j) hbb0).trans c10; have zd := ((bcell hSw.2).1 b (off + (j - 1)) hbb0).trans c20); go_simp; (try with_reducible rfl))
      try simp only [Act.put, List.setIfInBounds_toArray, List.set_cons_zero, List.set_cons_succ]
      refine wpAnyH_ready (rs := [11]) (by kernel_rfl) (by simp) ?_
      refine AllReadyH.cons rfl (fun K hK => ?_) AllReadyH.nil
      go_simp
      refine (stepTime_any (m := m) (hv'.on hHeld.2) V a0 a1 b0 b1).mono ?_; rintro e wy ⟨rfl, hb6⟩
      go_wp2_with fail
      refine hK.out _ _ ?_ (fun hHeld => ?_)
      · (try dsimp only)
        first | exact ⟨K.drew, G.drew⟩ | exact ⟨hHeld.1.on hb6, hHeld.2.trans (hb6.mono hHeld.2.size)⟩ | exact hHeld
      clear hK K
      try simp only [Act.put, List.setIfInBounds_toArray, List.set_cons_zero, List.set_cons_succ]
      refine rgTake (i := 12) (d := 25) (v := ?_) rfl rfl (by kernel_rfl) (by kernel_rfl) (by kernel_rfl) (fun _ _ _ h => h) (by rfl) ?_ (by assumption) ?_
      rotate_left
      · ((intro w hSw); (try dsimp only at hSw); go_simp; (try with_reducible rfl))
      try simp only [Act.put, List.setIfInBounds_toArray, List.set_cons_zero, List.set_cons_succ]
      refine rgTake (i := 13) (d := 5) (v := ?_) rfl rfl (by kernel_rfl) (by kernel_rfl) (by kernel_rfl) (fun _ _ _ h => h) (by rfl) ?_ (by assumption) ?_
      rotate_left
      · ((intro w hSw); (try dsimp only at hSw); go_simp; (try with_reducible rfl))
      try simp only [Act.put, List.setIfInBounds_toArray, List.set_cons_zero, List.set_cons_succ]
      refine wpAnyH_done (by kernel_rfl) ?_ _
      go_wp2_with fail
      clear p1 p2 p3 p4 p5
      go_roundw
      case rel => exact ⟨j + 1, by omega, by omega, by go_num, by rw [HN.out], hHeld.1, hHeld.2⟩
      case measure => simp [intOf]; omega
    · have hjq : j = q := by omega
      have HE := Lib.hid hjq
      clear hjq
      go_wp2_with fail
      go_ret
      exact ⟨ret_int (by rw [HQ.out, ← HE.out]), G⟩
set_option maxRecDepth 100000 in
set_option maxHeartbeats 1000000 in
theorem l4Time_any {m : Mp} {v : Value} {R : Option Addr} {q cq : Nat} {l : List Int} {w : World} (hv : MapIn w m v) (V : Valid m) (hR : Rd w w.heap.size 1 R q (ints l)) (hq : q ≤ 1048576) (hrt : rtB m l = true) :
    Calls Try.prog 79 #[v, .slice R q cq] w fun e w' => e = .returned (.int .i64 (rtT m l l.length)) ∧ Below w.heap.size w w' := by
  have hv' := hv
  obtain ⟨A, n, cp, B, k, d, rfl, h1, h2, h3, h4⟩ := hv
  have HQ := Lib.hid hR.len
  have hq1 : 1 ≤ q := by have := rtB_len hrt; have := hR.len; omega
  have HT := Lib.hid hrt
  clear hrt
  go_enter Try.func79, Try.ntmps79
  go_wp2_with fail
  go_loopw [5, 6] (fun s i wr => ∃ j : Nat, 1 ≤ j ∧ j ≤ q ∧ i = .int .i64 j ∧ s = .int .i64 (rtT m l j) ∧ Blk wr w.heap.size 28 [.int .i64 m.wd, .int .i64 m.ht, .slice A n cp, .slice B k d] ∧ Below w.heap.size w wr) (fun _ i _ => q - (intOf i).toNat)
  case atStart => exact ⟨1, Nat.le_refl _, hq1, rfl, by simp [rtT], Blk.new w 28 [.int .i64 m.wd, .int .i64 m.ht, .slice A n cp, .slice B k d], (by repeat (first | exact Below.refl _ _ | refine below_drewN ?_ _ | refine Below.drew ?_ | refine Below.alloc ?_ (by first | omega | (simp; done) | (simp; omega)) _ | refine Below.setCell ?_ (by first | omega | (simp; done) | (simp; omega)) _))⟩
  case round =>
    obtain ⟨j, hj1, hj, rfl, rfl, K, G⟩ := hrel
    by_cases hlt : j < q
    · have kx : j < l.length := by rw [HQ.out]; exact hlt
      have kx2 : j - 1 < l.length := by omega
      obtain ⟨b, off, rfl, hbb0, hcw⟩ := hR.int hlt
      have c10 := hcw j kx
      have c20 := hcw (j - 1) kx2
      obtain ⟨a0, a1⟩ := (opM_iff.1 (rtB_open HT.out kx2)).1
      obtain ⟨b0, b1⟩ := (opM_iff.1 (rtB_open HT.out kx)).1
      have sb := V.step_bd l[j - 1] l[j]
      have tb := rtT_bd V l j
      have HN : Hid (rtT m l (j + 1) = rtT m l j + stepV m l[j - 1] l[j]) := by
        show _ = _
        rw [rtT, if_neg (by omega), show l.getD (j - 1) 0 = l[j - 1] by simp [List.getD, kx2], show l.getD j 0 = l[j] by simp [List.getD, kx]]
      have p1 : IntKind.i64.wrap ((j : Int) - 1) = (j : Int) - 1 := IntWalk.i64_in _ (by omega)
      have p5 : IntKind.i64.wrap (rtT m l j + stepV m l[j - 1] l[j]) = rtT m l j + stepV m l[j - 1] l[j] := IntWalk.i64_in _ (by omega)
      have p0 : (1 : Int) ≤ (j : Int) := by omega
      have p2 : (0 : Int) ≤ (j : Int) - 1 := by omega
      have p3 : ((j : Int) - 1).toNat = j - 1 := by omega
      have p4 : (j : Int) - 1 < (q : Int) := by omega
      go_wp2_with fail
      refine wp_region_held_drew (S := fun w' => Blk w' w.heap.size 28 [.int .i64 m.wd, .int .i64 m.ht, .slice A n cp, .slice B k d] ∧ Below w.heap.size w w') (by kernel_rfl) ?_ (fun hHeld => ?_)
      · (try dsimp only)
        first | exact ⟨K.drew, G.drew⟩ | exact ⟨hHeld.1.on hb6, hHeld.2.trans (hb6.mono hHeld.2.size)⟩ | exact hHeld
      refine rgTake (i := 0) (d := 13) (v := ?_) rfl rfl (by kernel_rfl) (by kernel_rfl) (by kernel_rfl) (fun _ _ _ h => h) (by rfl) ?_ (by assumption) ?_
      rotate_left
      · ((intro w hSw); (try dsimp only at hSw); go_simp; (try with_reducible rfl))
      try simp only [Act.put, List.setIfInBounds_toArray, List.set_cons_zero, List.set_cons_succ]
      refine rgTake (i := 1) (d := 14) (v := ?_) rfl rfl (by kernel_rfl) (by kernel_rfl) (by kernel_rfl) (fun _ _ _ h => h) (by rfl) ?_ (by assumption) ?_
      rotate_left
      · ((intro w hSw); (try dsimp only at hSw); (obtain ⟨z0, z1, z2, z3⟩ := blk4 hSw.1; have zc := ((bcell hSw.2).1 b (off + j) hbb0).trans c10; have zd := ((bcell hSw.2).1 b (off + (j - 1)) hbb0).trans c20); go_simp; (try with_reducible rfl))
      try simp only [Act.put, List.setIfInBounds_toArray, List.set_cons_zero, List.set_cons_succ]
      refine rgTake (i := 2) (d := 15) (v := ?_) rfl rfl (by kernel_rfl) (by kernel_rfl) (by kernel_rfl) (fun _ _ _ h => h) (by rfl) ?_ (by assumption) ?_
      rotate_left
      · ((intro w hSw); (try dsimp only at hSw); go_simp; (try with_reducible rfl))
      try simp only [Act.put, List.setIfInBounds_toArray, List.set_cons_zero, List.set_cons_succ]
      refine rgTake (i := 3) (d := 16) (v := ?_) rfl rfl (by kernel_rfl) (by kernel_rfl) (by kernel_rfl) (fun _ _ _ h => h) (by rfl) ?_ (by assumption) ?_
      rotate_left
      · ((intro w hSw); (try dsimp only at hSw); go_simp; (try with_reducible rfl))
      try simp only [Act.put, List.setIfInBounds_toArray, List.set_cons_zero, List.set_cons_succ]
      refine rgTake (i := 4) (d := 17) (v := ?_) rfl rfl (by kernel_rfl) (by kernel_rfl) (by kernel_rfl) (fun _ _ _ h => h) (by rfl) ?_ (by assumption) ?_
      rotate_left
      · ((intro w hSw); (try dsimp only at hSw); go_simp; (try with_reducible rfl))
      try simp only [Act.put, List.setIfInBounds_toArray, List.set_cons_zero, List.set_cons_succ]
      refine rgTake (i := 5) (d := 18) (v := ?_) rfl rfl (by kernel_rfl) (by kernel_rfl) (by kernel_rfl) (fun _ _ _ h => h) (by rfl) ?_ (by assumption) ?_
      rotate_left
      · ((intro w hSw); (try dsimp only at hSw); go_simp; (try with_reducible rfl))
      try simp only [Act.put, List.setIfInBounds_toArray, List.set_cons_zero, List.set_cons_succ]
      refine rgTake (i := 6) (d := 19) (v := ?_) rfl rfl (by kernel_rfl) (by kernel_rfl) (by kernel_rfl) (fun _ _ _ h => h) (by rfl) ?_ (by assumption) ?_
      rotate_left
      · ((intro w hSw); (try dsimp only at hSw); (obtain ⟨z0, z1, z2, z3⟩ := blk4 hSw.1; have zc := ((bcell hSw.2).1 b (off + j) hbb0).trans c10; have zd := ((bcell hSw.2).1 b (off + (j - 1)) hbb0).trans c20); go_simp; (try with_reducible rfl))
      try simp only [Act.put, List.setIfInBounds_toArray, List.set_cons_zero, List.set_cons_succ]
      refine rgTake (i := 7) (d := 20) (v := ?_) rfl rfl (by kernel_rfl) (by kernel_rfl) (by kernel_rfl) (fun _ _ _ h => h) (by rfl) ?_ (by assumption) ?_
      rotate_left
      · ((intro w hSw); (try dsimp only at hSw); go_simp; (try with_reducible rfl))
      try simp only [Act.put, List.setIfInBounds_toArray, List.set_cons_zero, List.set_cons_succ]
      refine rgTake (i := 8) (d := 21) (v := ?_) rfl rfl (by kernel_rfl) (by kernel_rfl) (by kernel_rfl) (fun _ _ _ h => h) (by rfl) ?_ (by assumption) ?_
      rotate_left
      · ((intro w hSw); (try dsimp only at hSw); go_simp; (try with_reducible rfl))
      try simp only [Act.put, List.setIfInBounds_toArray, List.set_cons_zero, List.set_cons_succ]
      refine rgTake (i := 9) (d := 22) (v := ?_) rfl rfl (by kernel_rfl) (by kernel_rfl) (by kernel_rfl) (fun _ _ _ h => h) (by rfl) ?_ (by assumption) ?_
      rotate_left
      · ((intro w hSw); (try dsimp only at hSw); go_simp; (try with_reducible rfl))
      try simp only [Act.put, List.setIfInBounds_toArray, List.set_cons_zero, List.set_cons_succ]
      refine rgTake (i := 10) (d := 23) (v := ?_) rfl rfl (by kernel_rfl) (by kernel_rfl) (by kernel_rfl) (fun _ _ _ h => h) (by rfl) ?_ (by assumption) ?_
      rotate_left
      · ((intro w hSw); (try dsimp only at hSw); (obtain ⟨z0, z1, z2, z3⟩ := blk4 hSw.1; have zc := ((bcell hSw.2).1 b (off + j) hbb0).trans c10; have zd := ((bcell hSw.2).1 b (off + (j - 1)) hbb0).trans c20); go_simp; (try with_reducible rfl))
      try simp only [Act.put, List.setIfInBounds_toArray, List.set_cons_zero, List.set_cons_succ]
      refine wpAnyH_ready (rs := [11]) (by kernel_rfl) (by simp) ?_
      refine AllReadyH.cons rfl (fun K hK => ?_) AllReadyH.nil
      go_simp
      refine (l2Step_any (m := m) (hv'.on hHeld.2) V a0 a1 b0 b1).mono ?_; rintro e wy ⟨rfl, hb6⟩
      go_wp2_with fail
      refine hK.out _ _ ?_ (fun hHeld => ?_)
      · (try dsimp only)
        first | exact ⟨K.drew, G.drew⟩ | exact ⟨hHeld.1.on hb6, hHeld.2.trans (hb6.mono hHeld.2.size)⟩ | exact hHeld
      clear hK K
      try simp only [Act.put, List.setIfInBounds_toArray, List.set_cons_zero, List.set_cons_succ]
      refine rgTake (i := 12) (d := 25) (v := ?_) rfl rfl (by kernel_rfl) (by kernel_rfl) (by kernel_rfl) (fun _ _ _ h => h) (by rfl) ?_ (by assumption) ?_
      rotate_left
      · ((intro w hSw); (try dsimp only at hSw); go_simp; (try with_reducible rfl))
      try simp only [Act.put, List.setIfInBounds_toArray, List.set_cons_zero, List.set_cons_succ]
      refine rgTake (i := 13) (d := 5) (v := ?_) rfl rfl (by kernel_rfl) (by kernel_rfl) (by kernel_rfl) (fun _ _ _ h => h) (by rfl) ?_ (by assumption) ?_
      rotate_left
      · ((intro w hSw); (try dsimp only at hSw); go_simp; (try with_reducible rfl))
      try simp only [Act.put, List.setIfInBounds_toArray, List.set_cons_zero, List.set_cons_succ]
      refine wpAnyH_done (by kernel_rfl) ?_ _
      go_wp2_with fail
      clear p1 p2 p3 p4 p5
      go_roundw
      case rel => exact ⟨j + 1, by omega, by omega, by go_num, by rw [HN.out], hHeld.1, hHeld.2⟩
      case measure => simp [intOf]; omega
    · have hjq : j = q := by omega
      have HE := Lib.hid hjq
      clear hjq
      go_wp2_with fail
      go_ret
      exact ⟨ret_int (by rw [HQ.out, ← HE.out]), G⟩
def rtOk2 (m : Mp) (l : List Int) : Bool := okM m && rtB m l
def rtTV (m : Mp) (l : List Int) : Int := if rtOk2 m l = true then rtT m l l.length else 0
set_option maxRecDepth 100000 in
set_option maxHeartbeats 1000000 in
theorem RouteTime_impl {m : Mp} {v : Value} {R : Option Addr} {q cq : Nat} {l : List Int} {w : World} (hv : MapIn w m v) (hR : Rd w w.heap.size 1 R q (ints l)) (hq : q ≤ 1048576) (hqc : q ≤ cq) :
    Calls Try.prog 42 #[v, .slice R q cq] w fun e w' => e = .returned (.tuple #[.int .i64 (rtTV m l), .bool (rtOk2 m l)]) ∧ Below w.heap.size w w' := by
  have hv' := hv
  obtain ⟨A, n, cp, B, k, d, rfl, h1, h2, h3, h4⟩ := hv
  have K := Blk.new w 28 [.int .i64 m.wd, .int .i64 m.ht, .slice A n cp, .slice B k d]
  have G : Below w.heap.size w (w.alloc (.cells #[.int .i64 m.wd, .int .i64 m.ht, .slice A n cp, .slice B k d] 28)) := (by repeat (first | exact Below.refl _ _ | refine below_drewN ?_ _ | refine Below.drew ?_ | refine Below.alloc ?_ (by first | omega | (simp; done) | (simp; omega)) _ | refine Below.setCell ?_ (by first | omega | (simp; done) | (simp; omega)) _))
  cases hok : okM m
  · have e1 : rtOk2 m l = false := by unfold rtOk2; rw [hok]; rfl
    have e2 : rtTV m l = 0 := by unfold rtTV; rw [e1]; rfl
    rw [e1, e2]; clear e1 e2
    have HOK := Lib.hid hok
    clear hok
    go_enter Try.func42, Try.ntmps42
    go_wp2_with fail
    refine (IsMap_m (m := m) (hv'.on G)).mono ?_
    rintro e w1 ⟨rfl, hb6⟩
    rw [HOK.out]
    have K1 := K.on hb6
    have G1 := G.trans (hb6.mono G.size)
    obtain ⟨k0, k1, k2, k3⟩ := blk4 K1
    go_wp2_with fail
    go_ret2
    exact ⟨rfl, G1⟩
  · have V := valid_iff.1 hok
    have HOK := Lib.hid hok
    cases hrt : rtB m l
    · have e1 : rtOk2 m l = false := by unfold rtOk2; rw [hok, hrt]; rfl
      have e2 : rtTV m l = 0 := by unfold rtTV; rw [e1]; rfl
      rw [e1, e2]; clear e1 e2
      have HT := Lib.hid hrt
      clear hok hrt
      go_enter Try.func42, Try.ntmps42
      go_wp2_with fail
      refine (IsMap_m (m := m) (hv'.on G)).mono ?_
      rintro e w1 ⟨rfl, hb6⟩
      rw [HOK.out]
      have K1 := K.on hb6
      have G1 := G.trans (hb6.mono G.size)
      obtain ⟨k0, k1, k2, k3⟩ := blk4 K1
      go_wp2_with fail
      refine (isRoute_any (m := m) (hv'.on G1) HOK.out (hR.on G1) hq hqc).mono ?_
      rintro e w2 ⟨rfl, hb7⟩
      rw [HT.out]
      clear k0 k1 k2 k3
      have K2 := K1.on hb7
      have G2 := G1.trans (hb7.mono G1.size)
      obtain ⟨k0, k1, k2, k3⟩ := blk4 K2
      go_wp2_with fail
      go_ret2
      exact ⟨rfl, G2⟩
    · have e1 : rtOk2 m l = true := by unfold rtOk2; rw [hok, hrt]; rfl
      have e2 : rtTV m l = rtT m l l.length := by unfold rtTV; rw [e1]; rfl
      rw [e1, e2]; clear e1 e2
      have HT := Lib.hid hrt
      clear hok hrt
      go_enter Try.func42, Try.ntmps42
      go_wp2_with fail
      refine (IsMap_m (m := m) (hv'.on G)).mono ?_
      rintro e w1 ⟨rfl, hb6⟩
      rw [HOK.out]
      have K1 := K.on hb6
      have G1 := G.trans (hb6.mono G.size)
      obtain ⟨k0, k1, k2, k3⟩ := blk4 K1
      go_wp2_with fail
      refine (isRoute_any (m := m) (hv'.on G1) HOK.out (hR.on G1) hq hqc).mono ?_
      rintro e w2 ⟨rfl, hb7⟩
      rw [HT.out]
      clear k0 k1 k2 k3
      have K2 := K1.on hb7
      have G2 := G1.trans (hb7.mono G1.size)
      obtain ⟨k0, k1, k2, k3⟩ := blk4 K2
      go_wp2_with fail
      refine (routeTime_any (m := m) (hv'.on G2) V (hR.on G2) hq HT.out).mono ?_
      rintro e wz ⟨rfl, hb8⟩
      go_wp2_with fail
      go_ret2
      exact ⟨rfl, G2.trans (hb8.mono G2.size)⟩
set_option maxRecDepth 100000 in
set_option maxHeartbeats 1000000 in
theorem RouteTime_spec {m : Mp} {v : Value} {R : Option Addr} {q cq : Nat} {l : List Int} {w : World} (hv : MapIn w m v) (hR : Rd w w.heap.size 1 R q (ints l)) (hq : q ≤ 1048576) (hqc : q ≤ cq) :
    Calls Try.prog 41 #[v, .slice R q cq] w fun e w' => e = .returned (.tuple #[.int .i64 (rtTV m l), .bool (rtOk2 m l)]) ∧ Below w.heap.size w w' := by
  have hv' := hv
  obtain ⟨A, n, cp, B, k, d, rfl, h1, h2, h3, h4⟩ := hv
  have K := Blk.new w 28 [.int .i64 m.wd, .int .i64 m.ht, .slice A n cp, .slice B k d]
  have G : Below w.heap.size w (w.alloc (.cells #[.int .i64 m.wd, .int .i64 m.ht, .slice A n cp, .slice B k d] 28)) := (by repeat (first | exact Below.refl _ _ | refine below_drewN ?_ _ | refine Below.drew ?_ | refine Below.alloc ?_ (by first | omega | (simp; done) | (simp; omega)) _ | refine Below.setCell ?_ (by first | omega | (simp; done) | (simp; omega)) _))
  cases hok : okM m
  · have e1 : rtOk2 m l = false := by unfold rtOk2; rw [hok]; rfl
    have e2 : rtTV m l = 0 := by unfold rtTV; rw [e1]; rfl
    rw [e1, e2]; clear e1 e2
    have HOK := Lib.hid hok
    clear hok
    go_enter Try.func41, Try.ntmps41
    go_wp2_with fail
    refine (l2Map_m (m := m) (hv'.on G)).mono ?_
    rintro e w1 ⟨rfl, hb6⟩
    rw [HOK.out]
    have K1 := K.on hb6
    have G1 := G.trans (hb6.mono G.size)
    obtain ⟨k0, k1, k2, k3⟩ := blk4 K1
    go_wp2_with fail
    go_ret2
    exact ⟨rfl, G1⟩
  · have V := valid_iff.1 hok
    have HOK := Lib.hid hok
    cases hrt : rtB m l
    · have e1 : rtOk2 m l = false := by unfold rtOk2; rw [hok, hrt]; rfl
      have e2 : rtTV m l = 0 := by unfold rtTV; rw [e1]; rfl
      rw [e1, e2]; clear e1 e2
      have HT := Lib.hid hrt
      clear hok hrt
      go_enter Try.func41, Try.ntmps41
      go_wp2_with fail
      refine (l2Map_m (m := m) (hv'.on G)).mono ?_
      rintro e w1 ⟨rfl, hb6⟩
      rw [HOK.out]
      have K1 := K.on hb6
      have G1 := G.trans (hb6.mono G.size)
      obtain ⟨k0, k1, k2, k3⟩ := blk4 K1
      go_wp2_with fail
      refine (l4Route_any (m := m) (hv'.on G1) V (hR.on G1) hq hqc).mono ?_
      rintro e w2 ⟨rfl, hb7⟩
      rw [HT.out]
      clear k0 k1 k2 k3
      have K2 := K1.on hb7
      have G2 := G1.trans (hb7.mono G1.size)
      obtain ⟨k0, k1, k2, k3⟩ := blk4 K2
      go_wp2_with fail
      go_ret2
      exact ⟨rfl, G2⟩
    · have e1 : rtOk2 m l = true := by unfold rtOk2; rw [hok, hrt]; rfl
      have e2 : rtTV m l = rtT m l l.length := by unfold rtTV; rw [e1]; rfl
      rw [e1, e2]; clear e1 e2
      have HT := Lib.hid hrt
      clear hok hrt
      go_enter Try.func41, Try.ntmps41
      go_wp2_with fail
      refine (l2Map_m (m := m) (hv'.on G)).mono ?_
      rintro e w1 ⟨rfl, hb6⟩
      rw [HOK.out]
      have K1 := K.on hb6
      have G1 := G.trans (hb6.mono G.size)
      obtain ⟨k0, k1, k2, k3⟩ := blk4 K1
      go_wp2_with fail
      refine (l4Route_any (m := m) (hv'.on G1) V (hR.on G1) hq hqc).mono ?_
      rintro e w2 ⟨rfl, hb7⟩
      rw [HT.out]
      clear k0 k1 k2 k3
      have K2 := K1.on hb7
      have G2 := G1.trans (hb7.mono G1.size)
      obtain ⟨k0, k1, k2, k3⟩ := blk4 K2
      go_wp2_with fail
      refine (l4Time_any (m := m) (hv'.on G2) V (hR.on G2) hq HT.out).mono ?_
      rintro e wz ⟨rfl, hb8⟩
      go_wp2_with fail
      go_ret2
      exact ⟨rfl, G2.trans (hb8.mono G2.size)⟩
end Go.Proofs.Ytijmlagehdmfeaa
