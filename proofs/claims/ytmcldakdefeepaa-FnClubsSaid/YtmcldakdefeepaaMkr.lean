/- Contracts: the marks that a law lays into a list of runners, and whether they are held. -/
import Derived.Test.YtmcldakdefeepaaRns
import Derived.Test.YtmcldakdefeepaaMkt
import Derived.Deep.DeepCutAuto
namespace Go.Proofs.Ytmcldakdefeepaa
set_option linter.unusedVariables false
set_option linter.unusedSimpArgs false
open Go.RowKit
def mkR (k j : Nat) : Rn := ⟨((k + j * 6 : Nat) : Int), mt (k + j * 6 + 1), mt (k + j * 6 + 2), ((k + j * 6 + 3 : Nat) : Int), (((k + j * 6 + 4 : Nat) : Int) % 3 == 0), ((k + j * 6 + 5 : Nat) : Int)⟩
def mksR (k n : Nat) : List Rn := (List.range n).map (mkR k)
theorem mksR_len (k n : Nat) : (mksR k n).length = n := by simp [mksR]
theorem mksR_get {k n j : Nat} (h : j < n) : (mksR k n)[j]'(by rw [mksR_len]; exact h) = mkR k j := by simp [mksR]
set_option maxHeartbeats 2000000 in
theorem markRunnerS_own {A : Option Addr} {n c base k : Nat} {xs : List Value} {w : World} (hown : w.ownsRow base 30 6 (.slice A n c) n xs) (hk0 : 0 < k) (hk1 : k ≤ 100000000) (hn : n ≤ 100000000) :
    Calls Try.prog 23 #[.slice A n c, .int .i64 k] w fun e w' => e = .returned (.int .i64 ((k : Int) + (n : Int) * 6)) ∧ w'.ownsRow base 30 6 (.slice A n c) n (rns (mksR k n)) ∧ w.grownBy w' (Value.ownBlock (.slice A n c)) := by
  go_enter Try.func23, Try.ntmps23
  go_wp2_with fail
  go_loopw [1, 5] (fun q i wr => ∃ j : Nat, j ≤ n ∧ i = .int .i64 j ∧ q = .int .i64 ((k : Int) + (j : Int) * 6) ∧ (∃ ys, wr.ownsRow base 30 6 (.slice A n c) n ys ∧ ys.take (j * 6) = (rns (mksR k n)).take (j * 6)) ∧ w.grownBy wr (Value.ownBlock (.slice A n c))) (fun _ i _ => n - (intOf i).toNat)
  case atStart => exact ⟨0, Nat.zero_le _, rfl, by go_num, ⟨xs, hown, by simp⟩, World.grownBy.refl _ _⟩
  case round =>
    obtain ⟨j, hj, rfl, rfl, ⟨ys, ho, ht⟩, hg⟩ := hrel
    have hyl : ys.length = n * 6 := ho.1
    have HT := Lib.hid ht
    have HY := Lib.hid hyl
    clear ht hyl
    by_cases hlt : j < n
    · have HPT := Lib.hid (put6_take (l := mksR k n) (cs := ys) (j := j) (by rw [HY.out, mksR_len]) (by rw [mksR_len]; exact hlt) HT.out)
      rw [mksR_get hlt] at HPT
      obtain ⟨g, rfl, hbg, hgl⟩ := own_at ho (by omega)
      have yl : j * 6 + 5 < ys.length := by have := HY.out; omega
      have q1 : IntKind.i64.wrap ((k : Int) + (j : Int) * 6 + 1) = (k : Int) + (j : Int) * 6 + 1 := IntWalk.i64_in _ (by omega)
      have q2 : IntKind.i64.wrap ((k : Int) + (j : Int) * 6 + 1 + 1) = (k : Int) + (j : Int) * 6 + 1 + 1 := IntWalk.i64_in _ (by omega)
      have q3 : IntKind.i64.wrap ((k : Int) + (j : Int) * 6 + 1 + 1 + 1) = (k : Int) + (j : Int) * 6 + 1 + 1 + 1 := IntWalk.i64_in _ (by omega)
      have q4 : IntKind.i64.wrap ((k : Int) + (j : Int) * 6 + 1 + 1 + 1 + 1) = (k : Int) + (j : Int) * 6 + 1 + 1 + 1 + 1 := IntWalk.i64_in _ (by omega)
      have q5 : IntKind.i64.wrap ((k : Int) + (j : Int) * 6 + 1 + 1 + 1 + 1 + 1) = (k : Int) + (j : Int) * 6 + 1 + 1 + 1 + 1 + 1 := IntWalk.i64_in _ (by omega)
      have q6 : IntKind.i64.wrap ((k : Int) + (j : Int) * 6 + 1 + 1 + 1 + 1 + 1 + 1) = (k : Int) + (j : Int) * 6 + 1 + 1 + 1 + 1 + 1 + 1 := IntWalk.i64_in _ (by omega)
      have hc0 := ho.cellAt (j * 6) (by omega)
      rw [List.getElem?_eq_getElem (show j * 6 < ys.length by omega)] at hc0
      have hf0 := ho.frozenAt (j * 6)
      obtain ⟨o1, g1⟩ := ho.stored (j * 6) (.int .i64 ((k : Int) + (j : Int) * 6))
      have O1 := Lib.hid o1
      have G1 := Lib.hid (grown_trans hg g1)
      clear o1 g1 ho hg
      go_wp2_with fail
      refine (markText_int _ (k + j * 6 + 1) _ (by omega) (by omega) (by omega)).mono ?_
      rintro e w1 ⟨rfl, hb1⟩
      have o1 := own_below O1.out hb1
      have G2 := Lib.hid (grown_trans G1.out (grown_of_below hb1 _))
      clear O1 G1 hb1 hc0 hf0
      have hc1 := o1.cellAt (j * 6 + 1) (by omega)
      rw [List.getElem?_eq_getElem (show j * 6 + 1 < (ys.set (j * 6) (.int .i64 ((k : Int) + (j : Int) * 6))).length by simp; omega)] at hc1
      have hf1 := o1.frozenAt (j * 6 + 1)
      obtain ⟨o2, g2⟩ := o1.stored (j * 6 + 1) (.string (mt (k + j * 6 + 1)))
      have O2 := Lib.hid o2
      have G3 := Lib.hid (grown_trans G2.out g2)
      clear o1 o2 g2 G2
      go_wp2_with fail
      refine (markText_int _ (k + j * 6 + 2) _ (by omega) (by omega) (by omega)).mono ?_
      rintro e w2 ⟨rfl, hb2⟩
      have o2 := own_below O2.out hb2
      have G4 := Lib.hid (grown_trans G3.out (grown_of_below hb2 _))
      clear O2 G3 hb2 hc1 hf1
      generalize hzs : (ys.set (j * 6) (.int .i64 ((k : Int) + (j : Int) * 6))).set (j * 6 + 1) (.string (mt (k + j * 6 + 1))) = zs at o2
      have hzl : zs.length = n * 6 := by rw [← hzs]; simp; exact HY.out
      have HZS := Lib.hid hzs
      clear hzs
      have hc2 := o2.cellAt (j * 6 + 2) (by omega)
      rw [List.getElem?_eq_getElem (show j * 6 + 2 < zs.length by omega)] at hc2
      have hf2 := o2.frozenAt (j * 6 + 2)
      obtain ⟨o3, g3⟩ := o2.stored (j * 6 + 2) (.string (mt (k + j * 6 + 2)))
      have hc3 := o3.cellAt (j * 6 + 3) (by omega)
      rw [List.getElem?_set_ne (by omega), List.getElem?_eq_getElem (show j * 6 + 3 < zs.length by omega)] at hc3
      have hf3 := o3.frozenAt (j * 6 + 3)
      obtain ⟨o4, g4⟩ := o3.stored (j * 6 + 3) (.int .i64 ((k : Int) + (j : Int) * 6 + 1 + 1 + 1))
      have hc4 := o4.cellAt (j * 6 + 4) (by omega)
      rw [List.getElem?_set_ne (by omega), List.getElem?_set_ne (by omega), List.getElem?_eq_getElem (show j * 6 + 4 < zs.length by omega)] at hc4
      have hf4 := o4.frozenAt (j * 6 + 4)
      obtain ⟨o5, g5⟩ := o4.stored (j * 6 + 4) (.bool (((k : Int) + (j : Int) * 6 + 1 + 1 + 1 + 1) % 3 == 0))
      have hc5 := o5.cellAt (j * 6 + 5) (by omega)
      rw [List.getElem?_set_ne (by omega), List.getElem?_set_ne (by omega), List.getElem?_set_ne (by omega), List.getElem?_eq_getElem (show j * 6 + 5 < zs.length by omega)] at hc5
      have hf5 := o5.frozenAt (j * 6 + 5)
      obtain ⟨o6, g6⟩ := o5.stored (j * 6 + 5) (.int .i64 ((k : Int) + (j : Int) * 6 + 1 + 1 + 1 + 1 + 1))
      have O6 := Lib.hid o6
      have G6 := Lib.hid (grown_trans (grown_trans (grown_trans (grown_trans G4.out g3) g4) g5) g6)
      clear o2 o3 o4 o5 o6 g3 g4 g5 g6 G4
      go_wp2_with fail
      go_roundw
      case rel => exact ⟨j + 1, by omega, by go_num, by congr 1; omega, ⟨_, O6.out, by
        have h := HPT.out
        rw [← HZS.out]
        have e0 : ((k + j * 6 : Nat) : Int) = (k : Int) + (j : Int) * 6 := by omega
        have e3 : ((k + j * 6 + 3 : Nat) : Int) = (k : Int) + (j : Int) * 6 + 1 + 1 + 1 := by omega
        have e4 : ((k + j * 6 + 4 : Nat) : Int) = (k : Int) + (j : Int) * 6 + 1 + 1 + 1 + 1 := by omega
        have e5 : ((k + j * 6 + 5 : Nat) : Int) = (k : Int) + (j : Int) * 6 + 1 + 1 + 1 + 1 + 1 := by omega
        unfold mkR put6 at h
        rw [e0, e3, e4, e5] at h
        exact h⟩, G6.out⟩
      case measure => simp [intOf]; omega
    · go_wp2_with fail
      go_ret
      have e : ys = rns (mksR k n) := by
        have := HT.out
        rwa [List.take_of_length_le (by rw [HY.out]; omega), List.take_of_length_le (by rw [rns_len, mksR_len]; omega)] at this
      subst e
      exact ⟨ret_int (by omega), ho, hg⟩
theorem markRunnerS_any {l : List Rn} {g n : Nat} {w : World} (Y : Blk w g 30 (rns l)) (hl : l.length = n) (hn : n ≤ 1048576) :
    Calls Try.prog 23 #[.slice (some ⟨g, 0, none⟩) n n, .int .i64 1] w fun e w' => ∃ km, e = .returned (.int .i64 km) ∧ 0 ≤ km ∧ Ch (fun k => k = g) w w' :=
  (markRunnerS_own (k := 1) (Y.own (base := 0) (size := 6) (Nat.zero_le _) (by rw [rns_len, hl]) (by simp only [maxLen]; omega)) (by omega) (by omega) (by omega)).mono fun e w' ⟨he, _, gr⟩ =>
    ⟨_, he, by omega, Ch.of_grown gr (fun k h => by simpa [Value.ownBlock] using h.symm)⟩
set_option maxHeartbeats 2000000 in
theorem heldRunnerS_b {A : Option Addr} {n c k : Nat} {w : World} (hA : Rd w w.heap.size 6 A n (rns (mksR k n))) (hk0 : 0 < k) (hk1 : k ≤ 100000000) (hn : n ≤ 100000000) :
    Calls Try.prog 30 #[.slice A n c, .int .i64 k] w fun e w' => e = .returned (.int .i64 ((k : Int) + (n : Int) * 6)) ∧ Below w.heap.size w w' := by
  go_enter Try.func30, Try.ntmps30
  go_wp2_with fail
  go_loopw [1, 5] (fun q i wr => ∃ j : Nat, j ≤ n ∧ i = .int .i64 j ∧ q = .int .i64 ((k : Int) + (j : Int) * 6) ∧ Below w.heap.size w wr) (fun _ i _ => n - (intOf i).toNat)
  case atStart => exact ⟨0, Nat.zero_le _, rfl, by go_num, Below.refl _ _⟩
  case round =>
    obtain ⟨j, hj, rfl, rfl, G⟩ := hrel
    by_cases hlt : j < n
    · obtain ⟨b, off, rfl, hbb, hca⟩ := hA.rn (show 0 < n by omega)
      have CK := hca j (by rw [mksR_len]; exact hlt)
      rw [mksR_get hlt] at CK
      have e0 : ((k + j * 6 : Nat) : Int) = (k : Int) + (j : Int) * 6 := by omega
      have e3 : ((k + j * 6 + 3 : Nat) : Int) = (k : Int) + (j : Int) * 6 + 1 + 1 + 1 := by omega
      have e4 : ((k + j * 6 + 4 : Nat) : Int) = (k : Int) + (j : Int) * 6 + 1 + 1 + 1 + 1 := by omega
      have e5 : ((k + j * 6 + 5 : Nat) : Int) = (k : Int) + (j : Int) * 6 + 1 + 1 + 1 + 1 + 1 := by omega
      unfold mkR at CK
      rw [e0, e3, e4, e5] at CK
      have n0 : (((k : Int) + (j : Int) * 6) != ((k : Int) + (j : Int) * 6)) = false := by simp
      have n3 : (((k : Int) + (j : Int) * 6 + 1 + 1 + 1) != ((k : Int) + (j : Int) * 6 + 1 + 1 + 1)) = false := by simp
      have n4 : ((((k : Int) + (j : Int) * 6 + 1 + 1 + 1 + 1) % 3 == 0) != (((k : Int) + (j : Int) * 6 + 1 + 1 + 1 + 1) % 3 == 0)) = false := by simp
      have n5 : (((k : Int) + (j : Int) * 6 + 1 + 1 + 1 + 1 + 1) != ((k : Int) + (j : Int) * 6 + 1 + 1 + 1 + 1 + 1)) = false := by simp
      have q1 : IntKind.i64.wrap ((k : Int) + (j : Int) * 6 + 1) = (k : Int) + (j : Int) * 6 + 1 := IntWalk.i64_in _ (by omega)
      have q2 : IntKind.i64.wrap ((k : Int) + (j : Int) * 6 + 1 + 1) = (k : Int) + (j : Int) * 6 + 1 + 1 := IntWalk.i64_in _ (by omega)
      have q3 : IntKind.i64.wrap ((k : Int) + (j : Int) * 6 + 1 + 1 + 1) = (k : Int) + (j : Int) * 6 + 1 + 1 + 1 := IntWalk.i64_in _ (by omega)
      have q4 : IntKind.i64.wrap ((k : Int) + (j : Int) * 6 + 1 + 1 + 1 + 1) = (k : Int) + (j : Int) * 6 + 1 + 1 + 1 + 1 := IntWalk.i64_in _ (by omega)
      have q5 : IntKind.i64.wrap ((k : Int) + (j : Int) * 6 + 1 + 1 + 1 + 1 + 1) = (k : Int) + (j : Int) * 6 + 1 + 1 + 1 + 1 + 1 := IntWalk.i64_in _ (by omega)
      have q6 : IntKind.i64.wrap ((k : Int) + (j : Int) * 6 + 1 + 1 + 1 + 1 + 1 + 1) = (k : Int) + (j : Int) * 6 + 1 + 1 + 1 + 1 + 1 + 1 := IntWalk.i64_in _ (by omega)
      obtain ⟨z0, z1, z2, z3, z4, z5⟩ := CK.below G hbb
      clear hca
      go_upto_region 7 with (fail)
      clear z0 z1 z2 z3 z4 z5
      refine wp_region_held_drew (S := fun w' => Below w.heap.size w w') (by kernel_rfl) ?_ (fun hHeld => ?_)
      · (try dsimp only)
        first | exact G.drew | exact hHeld.trans (hb6.mono hHeld.size)
      refine rgTake (i := 0) (d := 21) (v := ?_) rfl rfl (by kernel_rfl) (by kernel_rfl) (by kernel_rfl) (fun _ _ _ h => h) (by rfl) ?_ (by assumption) ?_
      rotate_left
      · ((intro w hSw); (try dsimp only at hSw); go_simp; (try with_reducible rfl))
      try simp only [Act.put, List.setIfInBounds_toArray, List.set_cons_zero, List.set_cons_succ]
      refine rgTake (i := 1) (d := 22) (v := ?_) rfl rfl (by kernel_rfl) (by kernel_rfl) (by kernel_rfl) (fun _ _ _ h => h) (by rfl) ?_ (by assumption) ?_
      rotate_left
      · ((intro w hSw); (try dsimp only at hSw); go_simp; (try with_reducible rfl))
      try simp only [Act.put, List.setIfInBounds_toArray, List.set_cons_zero, List.set_cons_succ]
      refine rgTake (i := 2) (d := 23) (v := ?_) rfl rfl (by kernel_rfl) (by kernel_rfl) (by kernel_rfl) (fun _ _ _ h => h) (by rfl) ?_ (by assumption) ?_
      rotate_left
      · ((intro w hSw); (try dsimp only at hSw); go_simp; (try with_reducible rfl))
      try simp only [Act.put, List.setIfInBounds_toArray, List.set_cons_zero, List.set_cons_succ]
      refine rgTake (i := 3) (d := 24) (v := ?_) rfl rfl (by kernel_rfl) (by kernel_rfl) (by kernel_rfl) (fun _ _ _ h => h) (by rfl) ?_ (by assumption) ?_
      rotate_left
      · ((intro w hSw); (try dsimp only at hSw); go_simp; (try with_reducible rfl))
      try simp only [Act.put, List.setIfInBounds_toArray, List.set_cons_zero, List.set_cons_succ]
      refine rgTake (i := 4) (d := 25) (v := ?_) rfl rfl (by kernel_rfl) (by kernel_rfl) (by kernel_rfl) (fun _ _ _ h => h) (by rfl) ?_ (by assumption) ?_
      rotate_left
      · ((intro w hSw); (try dsimp only at hSw); (obtain ⟨z0, z1, z2, z3, z4, z5⟩ := CK.below hSw hbb); go_simp; (try with_reducible rfl))
      try simp only [Act.put, List.setIfInBounds_toArray, List.set_cons_zero, List.set_cons_succ]
      refine rgTake (i := 5) (d := 26) (v := ?_) rfl rfl (by kernel_rfl) (by kernel_rfl) (by kernel_rfl) (fun _ _ _ h => h) (by rfl) ?_ (by assumption) ?_
      rotate_left
      · ((intro w hSw); (try dsimp only at hSw); go_simp; (try with_reducible rfl))
      try simp only [Act.put, List.setIfInBounds_toArray, List.set_cons_zero, List.set_cons_succ]
      refine wpAnyH_ready (rs := [6]) (by kernel_rfl) (by simp) ?_
      refine AllReadyH.cons rfl (fun K hK => ?_) AllReadyH.nil
      go_simp
      refine (markText_int _ (k + j * 6 + 1) _ (by omega) (by omega) (by omega)).mono ?_; rintro e wy ⟨rfl, hb6⟩
      go_wp2_with fail
      refine hK.out _ _ ?_ (fun hHeld => ?_)
      · (try dsimp only)
        first | exact G.drew | exact hHeld.trans (hb6.mono hHeld.size)
      clear hK K
      try simp only [Act.put, List.setIfInBounds_toArray, List.set_cons_zero, List.set_cons_succ]
      refine rgTake (i := 7) (d := 28) (v := ?_) rfl rfl (by kernel_rfl) (by kernel_rfl) (by kernel_rfl) (fun _ _ _ h => h) (by rfl) ?_ (by assumption) ?_
      rotate_left
      · ((intro w hSw); (try dsimp only at hSw); go_simp; (try with_reducible rfl))
      try simp only [Act.put, List.setIfInBounds_toArray, List.set_cons_zero, List.set_cons_succ]
      refine wpAnyH_done (by kernel_rfl) ?_ _
      clear G
      go_upto_region 10 with (fail)
      refine wp_region_held_drew (S := fun w' => Below w.heap.size w w') (by kernel_rfl) ?_ (fun hHeld => ?_)
      · (try dsimp only)
        first | exact hHeld.drew | exact hHeld.trans (hb6.mono hHeld.size)
      refine rgTake (i := 0) (d := 31) (v := ?_) rfl rfl (by kernel_rfl) (by kernel_rfl) (by kernel_rfl) (fun _ _ _ h => h) (by rfl) ?_ (by assumption) ?_
      rotate_left
      · ((intro w hSw); (try dsimp only at hSw); go_simp; (try with_reducible rfl))
      try simp only [Act.put, List.setIfInBounds_toArray, List.set_cons_zero, List.set_cons_succ]
      refine rgTake (i := 1) (d := 32) (v := ?_) rfl rfl (by kernel_rfl) (by kernel_rfl) (by kernel_rfl) (fun _ _ _ h => h) (by rfl) ?_ (by assumption) ?_
      rotate_left
      · ((intro w hSw); (try dsimp only at hSw); go_simp; (try with_reducible rfl))
      try simp only [Act.put, List.setIfInBounds_toArray, List.set_cons_zero, List.set_cons_succ]
      refine rgTake (i := 2) (d := 33) (v := ?_) rfl rfl (by kernel_rfl) (by kernel_rfl) (by kernel_rfl) (fun _ _ _ h => h) (by rfl) ?_ (by assumption) ?_
      rotate_left
      · ((intro w hSw); (try dsimp only at hSw); go_simp; (try with_reducible rfl))
      try simp only [Act.put, List.setIfInBounds_toArray, List.set_cons_zero, List.set_cons_succ]
      refine rgTake (i := 3) (d := 34) (v := ?_) rfl rfl (by kernel_rfl) (by kernel_rfl) (by kernel_rfl) (fun _ _ _ h => h) (by rfl) ?_ (by assumption) ?_
      rotate_left
      · ((intro w hSw); (try dsimp only at hSw); go_simp; (try with_reducible rfl))
      try simp only [Act.put, List.setIfInBounds_toArray, List.set_cons_zero, List.set_cons_succ]
      refine rgTake (i := 4) (d := 35) (v := ?_) rfl rfl (by kernel_rfl) (by kernel_rfl) (by kernel_rfl) (fun _ _ _ h => h) (by rfl) ?_ (by assumption) ?_
      rotate_left
      · ((intro w hSw); (try dsimp only at hSw); (obtain ⟨z0, z1, z2, z3, z4, z5⟩ := CK.below hSw hbb); go_simp; (try with_reducible rfl))
      try simp only [Act.put, List.setIfInBounds_toArray, List.set_cons_zero, List.set_cons_succ]
      refine rgTake (i := 5) (d := 36) (v := ?_) rfl rfl (by kernel_rfl) (by kernel_rfl) (by kernel_rfl) (fun _ _ _ h => h) (by rfl) ?_ (by assumption) ?_
      rotate_left
      · ((intro w hSw); (try dsimp only at hSw); go_simp; (try with_reducible rfl))
      try simp only [Act.put, List.setIfInBounds_toArray, List.set_cons_zero, List.set_cons_succ]
      refine wpAnyH_ready (rs := [6]) (by kernel_rfl) (by simp) ?_
      refine AllReadyH.cons rfl (fun K hK => ?_) AllReadyH.nil
      go_simp
      refine (markText_int _ (k + j * 6 + 2) _ (by omega) (by omega) (by omega)).mono ?_; rintro e wy ⟨rfl, hb6⟩
      go_wp2_with fail
      refine hK.out _ _ ?_ (fun hHeld => ?_)
      · (try dsimp only)
        first | exact hHeld.drew | exact hHeld.trans (hb6.mono hHeld.size)
      clear hK K
      try simp only [Act.put, List.setIfInBounds_toArray, List.set_cons_zero, List.set_cons_succ]
      refine rgTake (i := 7) (d := 38) (v := ?_) rfl rfl (by kernel_rfl) (by kernel_rfl) (by kernel_rfl) (fun _ _ _ h => h) (by rfl) ?_ (by assumption) ?_
      rotate_left
      · ((intro w hSw); (try dsimp only at hSw); go_simp; (try with_reducible rfl))
      try simp only [Act.put, List.setIfInBounds_toArray, List.set_cons_zero, List.set_cons_succ]
      refine wpAnyH_done (by kernel_rfl) ?_ _
      have H9 := hHeld
      obtain ⟨z0, z1, z2, z3, z4, z5⟩ := CK.below H9 hbb
      go_wp2_with fail
      go_roundw
      case rel => exact ⟨j + 1, by omega, by go_num, by congr 1; omega, H9⟩
      case measure => simp [intOf]; omega
    · go_wp2_with fail
      go_ret
      exact ⟨ret_int (by omega), G⟩
end Go.Proofs.Ytmcldakdefeepaa
