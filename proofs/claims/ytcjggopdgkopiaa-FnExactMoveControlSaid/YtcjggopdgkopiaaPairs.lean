/- Slices of pairs and of Controls: contracts of the law's helpers that compare them, mark them and look whether the marks are held. -/
import Derived.Test.YtcjggopdgkopiaaCts
namespace Go.Proofs.Ytcjggopdgkopiaa
set_option linter.unusedVariables false
set_option linter.unusedSimpArgs false
open Go.RowKit
set_option maxHeartbeats 1000000 in
theorem markControlS_any {A : Option Addr} {n c base : Nat} {k : Int} {xs : List Value} {w : World} (hown : w.ownsRow base 54 2 (.slice A n c) n xs) (hk0 : 0 ≤ k) (hk1 : k ≤ 100000000) (hn : n ≤ 100000000) :
    Calls Try.prog 31 #[.slice A n c, .int .i64 k] w fun e w' => e = .returned (.int .i64 (k + n * 2)) ∧ w'.ownsRow base 54 2 (.slice A n c) n (marksI k (n * 2)) ∧ w.grownBy w' (Value.ownBlock (.slice A n c)) := by
  go_enter Try.func31, Try.ntmps31
  go_wp2_with fail
  go_loopw [1, 5] (fun q i wr => ∃ j : Nat, j ≤ n ∧ i = .int .i64 j ∧ q = .int .i64 (k + j * 2) ∧ (∃ ys, wr.ownsRow base 54 2 (.slice A n c) n ys ∧ ys.take (j * 2) = (marksI k (n * 2)).take (j * 2)) ∧ w.grownBy wr (Value.ownBlock (.slice A n c))) (fun _ i _ => n - (intOf i).toNat)
  case atStart => exact ⟨0, Nat.zero_le _, rfl, by go_num, ⟨xs, hown, by simp⟩, World.grownBy.refl _ _⟩
  case round =>
    obtain ⟨j, hj, rfl, rfl, ⟨ys, ho, ht⟩, hg⟩ := hrel
    have hyl : ys.length = n * 2 := ho.1
    have HT := Lib.hid ht
    have HY := Lib.hid hyl
    clear ht hyl
    by_cases hlt : j < n
    · obtain ⟨g, rfl, hbg, hgl⟩ := own_at ho (by omega)
      have y1 : j * 2 < ys.length := by have := HY.out; omega
      have y2 : j * 2 + 1 < ys.length := by have := HY.out; omega
      have hc1 : wr.cell? ⟨g, j * 2, none⟩ = some ys[j * 2] := by rw [ho.cellAt (j * 2) (by omega)]; simp [y1]
      have hf1 := ho.frozenAt (j * 2)
      obtain ⟨ho1, hg1⟩ := ho.stored (j * 2) (.int .i64 (k + j * 2))
      have hc2 := ho1.cellAt (j * 2 + 1) (by omega)
      have hf2 := ho1.frozenAt (j * 2 + 1)
      rw [List.getElem?_set_ne (by omega), List.getElem?_eq_getElem y2] at hc2
      obtain ⟨ho2, hg2⟩ := ho1.stored (j * 2 + 1) (.int .i64 (k + j * 2 + 1))
      have HG := Lib.hid (grown_trans (grown_trans hg hg1) hg2)
      have HO := Lib.hid ho2
      have q1 : IntKind.i64.wrap (k + j * 2 + 1) = k + j * 2 + 1 := IntWalk.i64_in _ (by omega)
      have q2 : IntKind.i64.wrap (k + j * 2 + 1 + 1) = k + j * 2 + 1 + 1 := IntWalk.i64_in _ (by omega)
      clear ho1 hg1 ho2 hg2
      go_wp2_with fail
      go_roundw
      case rel => exact ⟨j + 1, by omega, by go_num, by congr 1; omega, ⟨_, HO.out, by
        have h1 := set_take (l := ys) (r := marksI k (n * 2)) (k := j * 2) (by simp [marksI, HY.out]) (by simp [marksI]; omega) HT.out
        have h2 := set_take (l := ys.set (j * 2) (.int .i64 (k + (j * 2 : Nat)))) (r := marksI k (n * 2)) (k := j * 2 + 1) (by simp [marksI, HY.out]) (by simp [marksI]; omega) (by simpa [marksI] using h1)
        rw [show (j + 1) * 2 = j * 2 + 1 + 1 by omega]
        have e2 : (marksI k (n * 2))[j * 2 + 1]'(by simp [marksI]; omega) = .int .i64 (k + j * 2 + 1) := by simp [marksI]; omega
        rw [e2] at h2
        simpa using h2⟩, HG.out⟩
      case measure => simp [intOf]; omega
    · go_wp2_with fail
      go_ret
      have e : ys = marksI k (n * 2) := by
        have := HT.out
        rwa [List.take_of_length_le (by rw [HY.out]; omega), List.take_of_length_le (by simp [marksI]; omega)] at this
      subst e
      exact ⟨ret_int (by omega), ho, hg⟩
set_option maxHeartbeats 1000000 in
theorem eqIntA2_any (x y : Int) (w : World) : Calls Try.prog 65 #[.agg #[.int .i64 x, .int .i64 y], .agg #[.int .i64 x, .int .i64 y]] w fun e w' => e = .returned (.bool true) ∧ Below w.heap.size w w' := by
  have hx : (x != x) = false := by simp
  have hy : (y != y) = false := by simp
  go_enter Try.func65, Try.ntmps65
  go_wp2_with fail
  go_loopw [5] (fun i wr => ∃ j : Nat, j ≤ 2 ∧ i = .int .i64 j ∧ Blk wr w.heap.size 70 [.int .i64 x, .int .i64 y] ∧ Blk wr (w.heap.size + 1) 70 [.int .i64 x, .int .i64 y] ∧ Below w.heap.size w wr) (fun i _ => 2 - (intOf i).toNat)
  case atStart =>
    refine ⟨0, by omega, rfl, (Blk.new w 70 [.int .i64 x, .int .i64 y]).alloc _, ?_, (by repeat (first | exact Below.refl _ _ | refine below_drewN ?_ _ | refine Below.drew ?_ | refine Below.alloc ?_ (by first | omega | (simp; done) | (simp; omega)) _ | refine Below.setCell ?_ (by first | omega | (simp; done) | (simp; omega)) _))⟩
    have := Blk.new (w.alloc (.cells #[.int .i64 x, .int .i64 y] 70)) 70 [.int .i64 x, .int .i64 y]
    simpa using this
  case round =>
    obtain ⟨j, hj, rfl, P, Q, G⟩ := hrel
    have p0 : wr.cell? ⟨w.heap.size, 0, none⟩ = some (.int .i64 x) := P.cell 0
    have p1 : wr.cell? ⟨w.heap.size, 1, none⟩ = some (.int .i64 y) := P.cell 1
    have q0 : wr.cell? ⟨w.heap.size + 1, 0, none⟩ = some (.int .i64 x) := Q.cell 0
    have q1 : wr.cell? ⟨w.heap.size + 1, 1, none⟩ = some (.int .i64 y) := Q.cell 1
    rcases (show j = 0 ∨ j = 1 ∨ j = 2 by omega) with rfl | rfl | rfl
    · go_wp2_with fail
      try go_quiet (fail)
      try go_wp2_with fail
      go_roundw
      case rel => exact ⟨1, by omega, by go_num, P.drewN _, Q.drewN _, below_drewN G _⟩
      case measure => simp [intOf]
    · go_wp2_with fail
      try go_quiet (fail)
      try go_wp2_with fail
      go_roundw
      case rel => exact ⟨2, by omega, by go_num, P.drewN _, Q.drewN _, below_drewN G _⟩
      case measure => simp [intOf]
    · go_wp2_with fail
      go_ret
      exact ⟨rfl, G⟩
set_option maxHeartbeats 1000000 in
theorem eqIntA2S_b {A B : Option Addr} {n c d : Nat} {l : List Ct} {w : World} (hA : Rd w w.heap.size 2 A n (cts l)) (hB : Rd w w.heap.size 2 B n (cts l)) (hn : n ≤ 1048576) :
    Calls Try.prog 29 #[.slice A n c, .slice B n d] w fun e w' => e = .returned (.bool true) ∧ Below w.heap.size w w' := by
  have HX := Lib.hid hA.clen
  have hne : ((n : Int) != (n : Int)) = false := by simp
  go_enter Try.func29, Try.ntmps29
  go_wp2_with fail
  go_loopw [5] (fun i wr => ∃ k : Nat, k ≤ n ∧ i = .int .i64 k ∧ Below w.heap.size w wr) (fun i _ => n - (intOf i).toNat)
  case atStart => exact ⟨0, Nat.zero_le _, rfl, Below.refl _ _⟩
  case round =>
    obtain ⟨k, hk, rfl, G⟩ := hrel
    by_cases hlt : k < n
    · obtain ⟨b, off, rfl, hbb, hca⟩ := hA.ct (show 0 < n by omega)
      obtain ⟨b2, off2, rfl, hbb2, hca2⟩ := hB.ct (show 0 < n by omega)
      have kx : k < l.length := by rw [HX.out]; exact hlt
      have c1 := Lib.hid (hca k kx)
      have c2 := Lib.hid (hca2 k kx)
      clear hca hca2
      go_wp2_with fail
      refine wp_region_held_drew (S := fun w' => Below w.heap.size w w') (by kernel_rfl) ?_ (fun hHeld => ?_)
      · (try dsimp only)
        first | exact G.drew | exact hHeld.trans (hb6.mono hHeld.size)
      refine rgTake (i := 0) (d := 17) (v := ?_) rfl rfl (by kernel_rfl) (by kernel_rfl) (by kernel_rfl) (fun _ _ _ h => h) (by rfl) ?_ (by assumption) ?_
      rotate_left
      · ((intro w hSw); (try dsimp only at hSw); go_simp; (try with_reducible rfl))
      try simp only [Act.put, List.setIfInBounds_toArray, List.set_cons_zero, List.set_cons_succ]
      refine rgTake (i := 1) (d := 18) (v := ?_) rfl rfl (by kernel_rfl) (by kernel_rfl) (by kernel_rfl) (fun _ _ _ h => h) (by rfl) ?_ (by assumption) ?_
      rotate_left
      · ((intro w hSw); (try dsimp only at hSw); go_simp; (try with_reducible rfl))
      try simp only [Act.put, List.setIfInBounds_toArray, List.set_cons_zero, List.set_cons_succ]
      refine rgTake (i := 2) (d := 19) (v := ?_) rfl rfl (by kernel_rfl) (by kernel_rfl) (by kernel_rfl) (fun _ _ _ h => h) (by rfl) ?_ (by assumption) ?_
      rotate_left
      · ((intro w hSw); (try dsimp only at hSw); go_simp; (try with_reducible rfl))
      try simp only [Act.put, List.setIfInBounds_toArray, List.set_cons_zero, List.set_cons_succ]
      refine rgTake (i := 3) (d := 20) (v := ?_) rfl rfl (by kernel_rfl) (by kernel_rfl) (by kernel_rfl) (fun _ _ _ h => h) (by rfl) ?_ (by assumption) ?_
      rotate_left
      · ((intro w hSw); (try dsimp only at hSw); (have zc := ((bcell hSw).1 b (off + k * 2) hbb).trans c1.out.1; have zd := ((bcell hSw).1 b (off + k * 2 + 1) hbb).trans c1.out.2; have ze := ((bcell hSw).1 b2 (off2 + k * 2) hbb2).trans c2.out.1; have zf := ((bcell hSw).1 b2 (off2 + k * 2 + 1) hbb2).trans c2.out.2); go_simp; (try with_reducible rfl))
      try simp only [Act.put, List.setIfInBounds_toArray, List.set_cons_zero, List.set_cons_succ]
      refine rgTake (i := 4) (d := 21) (v := ?_) rfl rfl (by kernel_rfl) (by kernel_rfl) (by kernel_rfl) (fun _ _ _ h => h) (by rfl) ?_ (by assumption) ?_
      rotate_left
      · ((intro w hSw); (try dsimp only at hSw); go_simp; (try with_reducible rfl))
      try simp only [Act.put, List.setIfInBounds_toArray, List.set_cons_zero, List.set_cons_succ]
      refine rgTake (i := 5) (d := 22) (v := ?_) rfl rfl (by kernel_rfl) (by kernel_rfl) (by kernel_rfl) (fun _ _ _ h => h) (by rfl) ?_ (by assumption) ?_
      rotate_left
      · ((intro w hSw); (try dsimp only at hSw); go_simp; (try with_reducible rfl))
      try simp only [Act.put, List.setIfInBounds_toArray, List.set_cons_zero, List.set_cons_succ]
      refine rgTake (i := 6) (d := 23) (v := ?_) rfl rfl (by kernel_rfl) (by kernel_rfl) (by kernel_rfl) (fun _ _ _ h => h) (by rfl) ?_ (by assumption) ?_
      rotate_left
      · ((intro w hSw); (try dsimp only at hSw); go_simp; (try with_reducible rfl))
      try simp only [Act.put, List.setIfInBounds_toArray, List.set_cons_zero, List.set_cons_succ]
      refine rgTake (i := 7) (d := 24) (v := ?_) rfl rfl (by kernel_rfl) (by kernel_rfl) (by kernel_rfl) (fun _ _ _ h => h) (by rfl) ?_ (by assumption) ?_
      rotate_left
      · ((intro w hSw); (try dsimp only at hSw); (have zc := ((bcell hSw).1 b (off + k * 2) hbb).trans c1.out.1; have zd := ((bcell hSw).1 b (off + k * 2 + 1) hbb).trans c1.out.2; have ze := ((bcell hSw).1 b2 (off2 + k * 2) hbb2).trans c2.out.1; have zf := ((bcell hSw).1 b2 (off2 + k * 2 + 1) hbb2).trans c2.out.2); go_simp; (try with_reducible rfl))
      try simp only [Act.put, List.setIfInBounds_toArray, List.set_cons_zero, List.set_cons_succ]
      refine wpAnyH_ready (rs := [8]) (by kernel_rfl) (by simp) ?_
      refine AllReadyH.cons rfl (fun K hK => ?_) AllReadyH.nil
      go_simp
      refine (eqIntA2_any l[k].code l[k].cell _).mono ?_; rintro e wy ⟨rfl, hb6⟩
      go_wp2_with fail
      refine hK.out _ _ ?_ (fun hHeld => ?_)
      · (try dsimp only)
        first | exact G.drew | exact hHeld.trans (hb6.mono hHeld.size)
      clear hK K
      try simp only [Act.put, List.setIfInBounds_toArray, List.set_cons_zero, List.set_cons_succ]
      refine rgTake (i := 9) (d := 26) (v := ?_) rfl rfl (by kernel_rfl) (by kernel_rfl) (by kernel_rfl) (fun _ _ _ h => h) (by rfl) ?_ (by assumption) ?_
      rotate_left
      · ((intro w hSw); (try dsimp only at hSw); go_simp; (try with_reducible rfl))
      try simp only [Act.put, List.setIfInBounds_toArray, List.set_cons_zero, List.set_cons_succ]
      refine wpAnyH_done (by kernel_rfl) ?_ _
      go_wp2_with fail
      go_roundw
      case rel => exact ⟨k + 1, by omega, by go_num, hHeld⟩
      case measure => simp [intOf]; omega
    · go_wp2_with fail
      go_ret
      exact ⟨rfl, G⟩
set_option maxHeartbeats 1000000 in
theorem markIntA2S_any {A : Option Addr} {n c base : Nat} {k : Int} {xs : List Value} {w : World} (hown : w.ownsRow base 70 2 (.slice A n c) n xs) (hk0 : 0 ≤ k) (hk1 : k ≤ 100000000) (hn : n ≤ 100000000) :
    Calls Try.prog 32 #[.slice A n c, .int .i64 k] w fun e w' => e = .returned (.int .i64 (k + n * 2)) ∧ w'.ownsRow base 70 2 (.slice A n c) n (marksI k (n * 2)) ∧ w.grownBy w' (Value.ownBlock (.slice A n c)) := by
  go_enter Try.func32, Try.ntmps32
  go_wp2_with fail
  go_loopw [1, 5] (fun q i wr => ∃ j : Nat, j ≤ n ∧ i = .int .i64 j ∧ q = .int .i64 (k + j * 2) ∧ (∃ ys, wr.ownsRow base 70 2 (.slice A n c) n ys ∧ ys.take (j * 2) = (marksI k (n * 2)).take (j * 2)) ∧ w.grownBy wr (Value.ownBlock (.slice A n c))) (fun _ i _ => n - (intOf i).toNat)
  case atStart => exact ⟨0, Nat.zero_le _, rfl, by go_num, ⟨xs, hown, by simp⟩, World.grownBy.refl _ _⟩
  case round =>
    obtain ⟨j, hj, rfl, rfl, ⟨ys, ho, ht⟩, hg⟩ := hrel
    by_cases hlt : j < n
    · go_wp2_with fail
      go_loopw [1, 6] (fun q i wx => ∃ e : Nat, e ≤ 2 ∧ i = .int .i64 e ∧ q = .int .i64 (k + j * 2 + e) ∧ (∃ ys, wx.ownsRow base 70 2 (.slice A n c) n ys ∧ ys.take (j * 2 + e) = (marksI k (n * 2)).take (j * 2 + e)) ∧ w.grownBy wx (Value.ownBlock (.slice A n c))) (fun _ i _ => 2 - (intOf i).toNat)
      case atStart => exact ⟨0, by omega, rfl, by go_num, ⟨ys, ho, by simpa using ht⟩, hg⟩
      clear ho ht hg
      case round =>
        obtain ⟨e, he, rfl, rfl, ⟨ys, ho, ht⟩, hg⟩ := hrel
        have hyl : ys.length = n * 2 := ho.1
        have HT := Lib.hid ht
        have HY := Lib.hid hyl
        clear ht hyl
        by_cases he2 : e < 2
        · obtain ⟨g, rfl, hbg, hgl⟩ := own_at ho (by omega)
          have y1 : j * 2 + e < ys.length := by have := HY.out; omega
          have hc1 : wr.cell? ⟨g, j * 2 + e, none⟩ = some ys[j * 2 + e] := by rw [ho.cellAt (j * 2 + e) (by omega)]; simp [y1]
          have hf1 := ho.frozenAt (j * 2 + e)
          obtain ⟨ho1, hg1⟩ := ho.stored (j * 2 + e) (.int .i64 (k + j * 2 + e))
          have HG := Lib.hid (grown_trans hg hg1)
          have HO := Lib.hid ho1
          have q1 : IntKind.i64.wrap (k + j * 2 + e + 1) = k + j * 2 + e + 1 := IntWalk.i64_in _ (by omega)
          clear ho1 hg1
          go_wp2_with fail
          go_roundw
          case rel => exact ⟨e + 1, by omega, by go_num, by congr 1; omega, ⟨_, HO.out, by
            have h1 := set_take (l := ys) (r := marksI k (n * 2)) (k := j * 2 + e) (by simp [marksI, HY.out]) (by simp [marksI]; omega) HT.out
            have e2 : (marksI k (n * 2))[j * 2 + e]'(by simp [marksI]; omega) = .int .i64 (k + j * 2 + e) := by simp [marksI]; omega
            rw [e2] at h1
            exact h1⟩, HG.out⟩
          case measure => simp [intOf]; omega
        · have hee : e = 2 := by omega
          subst hee
          go_wp2_with fail
          go_roundw
          case rel => exact ⟨j + 1, by omega, by go_num, by congr 1; omega, ⟨ys, ho, by rw [show (j + 1) * 2 = j * 2 + 2 by omega]; exact HT.out⟩, hg⟩
          case measure => simp [intOf]; omega
    · have hyl : ys.length = n * 2 := ho.1
      have HT := Lib.hid ht
      have HY := Lib.hid hyl
      clear ht hyl
      go_wp2_with fail
      go_ret
      have e : ys = marksI k (n * 2) := by
        have := HT.out
        rwa [List.take_of_length_le (by rw [HY.out]; omega), List.take_of_length_le (by simp [marksI]; omega)] at this
      subst e
      exact ⟨ret_int (by omega), ho, hg⟩
set_option maxHeartbeats 1000000 in
theorem heldIntA2S_b {A : Option Addr} {n c b1 : Nat} {k : Int} {w : World} (hA : Rd w b1 2 A n (marksI k (n * 2))) (hk0 : 0 ≤ k) (hk1 : k ≤ 100000000) (hn : n ≤ 100000000) :
    Calls Try.prog 33 #[.slice A n c, .int .i64 k] w fun e w' => e = .returned (.int .i64 (k + n * 2)) ∧ Below w.heap.size w w' := by
  go_enter Try.func33, Try.ntmps33
  go_wp2_with fail
  go_loopw [1, 5] (fun q i wr => ∃ j : Nat, j ≤ n ∧ i = .int .i64 j ∧ q = .int .i64 (k + j * 2) ∧ wr = w) (fun _ i _ => n - (intOf i).toNat)
  case atStart => exact ⟨0, Nat.zero_le _, rfl, by go_num, by first | rfl | trivial⟩
  case round =>
    obtain ⟨j, hj, rfl, rfl, rfl⟩ := hrel
    by_cases hlt : j < n
    · go_wp2_with fail
      go_loopw [1, 6] (fun q i wx => ∃ e : Nat, e ≤ 2 ∧ i = .int .i64 e ∧ q = .int .i64 (k + j * 2 + e) ∧ wx = wr) (fun _ i _ => 2 - (intOf i).toNat)
      case atStart => exact ⟨0, by omega, rfl, by go_num, by first | rfl | trivial⟩
      case round =>
        obtain ⟨e, he, rfl, rfl, rfl⟩ := hrel
        by_cases he2 : e < 2
        · obtain ⟨b, off, rfl, hbb, hca⟩ := hA.2 (by omega)
          have ha := hca (j * 2 + e) _ (marksI_get (show j * 2 + e < n * 2 by omega))
          rw [← Nat.add_assoc] at ha
          have hv : k + ((j * 2 + e : Nat) : Int) = k + j * 2 + e := by omega
          rw [hv] at ha
          have hne : ((k + j * 2 + e : Int) != (k + j * 2 + e)) = false := by simp
          have q1 : IntKind.i64.wrap (k + j * 2 + e + 1) = k + j * 2 + e + 1 := IntWalk.i64_in _ (by omega)
          clear hca hv
          go_wp2_with fail
          go_roundw
          case rel => exact ⟨e + 1, by omega, by go_num, by congr 1; omega, by first | rfl | trivial⟩
          case measure => simp [intOf]; omega
        · have hee : e = 2 := by omega
          subst hee
          go_wp2_with fail
          go_roundw
          case rel => exact ⟨j + 1, by omega, by go_num, by congr 1; omega, by first | rfl | trivial⟩
          case measure => simp [intOf]; omega
    · go_wp2_with fail
      go_ret
      exact ⟨ret_int (by omega), Below.refl _ _⟩
end Go.Proofs.Ytcjggopdgkopiaa
