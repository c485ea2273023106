/- Contracts: RunnerText, the program's and the reference's. -/
import Derived.Test.YtmmpcchjalgokaaGreatDoorNum
import Derived.Test.YtmmpcchjalgokaaGreatDoorRunner
import Derived.Test.YtmmpcchjalgokaaGreatDoorOpenRunner
import Derived.Test.YtmmpcchjalgokaaGreatDoorCh
import Derived.Deep.DeepCutAuto
namespace Go.Proofs.YtmmpcchjalgokaaGreatDoor
set_option linter.unusedVariables false
set_option linter.unusedSimpArgs false
open Go.RowKit
/-- A runner's text up to the blank ahead of the last word but one. -/
def rtH (r : Rn) : ByteArray := itoaB r.id ++ (⟨#[32]⟩ : ByteArray) ++ r.name ++ (⟨#[32, 111, 102, 32]⟩ : ByteArray) ++ r.club ++ (⟨#[32]⟩ : ByteArray) ++ itoaB r.born
def rtS (r : Rn) : ByteArray := rtH r ++ (⟨#[32]⟩ : ByteArray) ++ (if r.woman = true then ⟨#[119]⟩ else ⟨#[109]⟩)
def rtB (r : Rn) : ByteArray := if 0 < r.card then rtS r ++ ((⟨#[32, 99, 97, 114, 100, 32]⟩ : ByteArray) ++ itoaB r.card) else rtS r
def rtV (r : Rn) : ByteArray := if rnOk r = true then rtB r else ⟨#[]⟩
theorem rnOk_bd {r : Rn} (h : rnOk r = true) : (1 ≤ r.id ∧ r.id ≤ 999) ∧ (r.name.size ≤ 10 ∧ 1 ≤ r.name.size) ∧ (r.club.size ≤ 10 ∧ 1 ≤ r.club.size) ∧ (1920 ≤ r.born ∧ r.born ≤ 2020) ∧ 0 ≤ r.card ∧ r.card ≤ 9999 := by
  unfold rnOk wordB at h
  simp only [Bool.and_eq_true] at h
  obtain ⟨⟨⟨⟨h1, _, h2⟩, _, h3⟩, h4⟩, h5⟩ := h
  have a1 := insideB_iff.1 h1
  have a2 := insideB_iff.1 h2
  have a3 := insideB_iff.1 h3
  have a4 := insideB_iff.1 h4
  have a5 := insideB_iff.1 h5
  omega
set_option maxRecDepth 100000 in
set_option maxHeartbeats 4000000 in
theorem runnerText_any {r : Rn} {w : World} (ok : rnOk r = true) (T : Tab w) :
    Calls Tryz.prog 67 #[.agg #[.int .i64 r.id, .string r.name, .string r.club, .int .i64 r.born, .bool r.woman, .int .i64 r.card]] w fun e w' => e = .returned (.string (rtB r)) ∧ Below w.heap.size w w' := by
  obtain ⟨id, name, club, born, woman, card⟩ := r
  obtain ⟨⟨b1, b2⟩, ⟨b3, _⟩, ⟨b4, _⟩, ⟨b5, b6⟩, b7, b8⟩ := rnOk_bd ok
  dsimp only at b1 b2 b3 b4 b5 b6 b7 b8
  clear ok
  have z1 := itoaB_size (n := id) (by omega) (by omega)
  have z2 := itoaB_size (n := born) (by omega) (by omega)
  have z3 := itoaB_size (n := card) (by omega) (by omega)
  have HV : ∀ W : Bool, Hid (rtB ⟨id, name, club, born, W, card⟩ = if 0 < card then itoaB id ++ (⟨#[32]⟩ : ByteArray) ++ name ++ (⟨#[32, 111, 102, 32]⟩ : ByteArray) ++ club ++ (⟨#[32]⟩ : ByteArray) ++ itoaB born ++ (⟨#[32]⟩ : ByteArray) ++ (if W = true then ⟨#[119]⟩ else ⟨#[109]⟩) ++ ((⟨#[32, 99, 97, 114, 100, 32]⟩ : ByteArray) ++ itoaB card) else itoaB id ++ (⟨#[32]⟩ : ByteArray) ++ name ++ (⟨#[32, 111, 102, 32]⟩ : ByteArray) ++ club ++ (⟨#[32]⟩ : ByteArray) ++ itoaB born ++ (⟨#[32]⟩ : ByteArray) ++ (if W = true then ⟨#[119]⟩ else ⟨#[109]⟩)) := fun W => (rfl : rtB ⟨id, name, club, born, W, card⟩ = _)
  generalize hi1 : itoaB id = i1 at *
  generalize hi2 : itoaB born = i2 at *
  generalize hi3 : itoaB card = i3 at *
  have HI1 := Lib.hid hi1
  have HI2 := Lib.hid hi2
  have HI3 := Lib.hid hi3
  clear hi1 hi2 hi3
  have s1 : ¬ 9223372036854775807 < i1.size + 1 := by omega
  have s2 : ¬ 9223372036854775807 < i1.size + 1 + name.size := by omega
  have s3 : ¬ 9223372036854775807 < i1.size + 1 + name.size + 4 := by omega
  have s4 : ¬ 9223372036854775807 < i1.size + 1 + name.size + 4 + club.size := by omega
  have s5 : ¬ 9223372036854775807 < i1.size + 1 + name.size + 4 + club.size + 1 := by omega
  have s6 : ¬ 9223372036854775807 < i1.size + 1 + name.size + 4 + club.size + 1 + i2.size := by omega
  have s7 : ¬ 9223372036854775807 < i1.size + 1 + name.size + 4 + club.size + 1 + i2.size + 1 := by omega
  have s8 : ¬ 9223372036854775807 < i1.size + 1 + name.size + 4 + club.size + 1 + i2.size + 1 + 1 := by omega
  have s9 : ¬ 9223372036854775807 < 6 + i3.size := by omega
  have s10 : ¬ 9223372036854775807 < i1.size + 1 + name.size + 4 + club.size + 1 + i2.size + 1 + 1 + (6 + i3.size) := by omega
  cases woman
  · have K0 := Blk.new w 41 [.int .i64 id, .string name, .string club, .int .i64 born, .bool false, .int .i64 card]
    have G0 : Below w.heap.size w (w.alloc (.cells #[.int .i64 id, .string name, .string club, .int .i64 born, .bool false, .int .i64 card] 41)) := (by repeat (first | exact Below.refl _ _ | refine below_drewN ?_ _ | refine Below.drew ?_ | refine Below.alloc ?_ (by first | omega | (simp; done) | (simp; omega)) _ | refine Below.setCell ?_ (by first | omega | (simp; done) | (simp; omega)) _))
    go_enter Tryz.func67, Tryz.ntmps67
    obtain ⟨x0, x1, x2, x3, x4, x5⟩ := blk6 K0
    go_upto_region 4 with (fail)
    go_cut [4] (fun v wx => v = .string (i1 ++ (⟨#[32]⟩ : ByteArray) ++ name ++ (⟨#[32, 111, 102, 32]⟩ : ByteArray) ++ club ++ (⟨#[32]⟩ : ByteArray) ++ i2 ++ (⟨#[32]⟩ : ByteArray) ++ ⟨#[109]⟩) ∧ Blk wx w.heap.size 41 [.int .i64 id, .string name, .string club, .int .i64 born, .bool false, .int .i64 card] ∧ Below w.heap.size w wx)
    case first =>
      clear x0 x1 x2 x3 x4 x5
      refine wp_region_held_drew (S := fun w' => Blk w' w.heap.size 41 [.int .i64 id, .string name, .string club, .int .i64 born, .bool false, .int .i64 card] ∧ Below w.heap.size w w') (by kernel_rfl) ?_ (fun hHeld => ?_)
      · (try dsimp only)
        first | exact ⟨K0.drew, G0.drew⟩ | exact hHeld
      refine rgTake (i := 0) (d := 7) (v := ?_) rfl rfl (by kernel_rfl) (by kernel_rfl) (by kernel_rfl) (fun _ _ _ h => h) (by rfl) ?_ (by assumption) ?_
      rotate_left
      · ((intro w hSw); (try dsimp only at hSw); go_simp; (try with_reducible rfl))
      try simp only [Act.put, List.setIfInBounds_toArray, List.set_cons_zero, List.set_cons_succ]
      refine rgTake (i := 1) (d := 8) (v := ?_) rfl rfl (by kernel_rfl) (by kernel_rfl) (by kernel_rfl) (fun _ _ _ h => h) (by rfl) ?_ (by assumption) ?_
      rotate_left
      · ((intro w hSw); (try dsimp only at hSw); (obtain ⟨x0, x1, x2, x3, x4, x5⟩ := blk6 hSw.1); go_simp; (try with_reducible rfl))
      try simp only [Act.put, List.setIfInBounds_toArray, List.set_cons_zero, List.set_cons_succ]
      refine rgTake (i := 4) (d := 11) (v := ?_) rfl rfl (by kernel_rfl) (by kernel_rfl) (by kernel_rfl) (fun _ _ _ h => h) (by rfl) ?_ (by assumption) ?_
      rotate_left
      · ((intro w hSw); (try dsimp only at hSw); go_simp; (try with_reducible rfl))
      try simp only [Act.put, List.setIfInBounds_toArray, List.set_cons_zero, List.set_cons_succ]
      refine rgTake (i := 5) (d := 12) (v := ?_) rfl rfl (by kernel_rfl) (by kernel_rfl) (by kernel_rfl) (fun _ _ _ h => h) (by rfl) ?_ (by assumption) ?_
      rotate_left
      · ((intro w hSw); (try dsimp only at hSw); (obtain ⟨x0, x1, x2, x3, x4, x5⟩ := blk6 hSw.1); go_simp; (try with_reducible rfl))
      try simp only [Act.put, List.setIfInBounds_toArray, List.set_cons_zero, List.set_cons_succ]
      refine rgTake (i := 8) (d := 15) (v := ?_) rfl rfl (by kernel_rfl) (by kernel_rfl) (by kernel_rfl) (fun _ _ _ h => h) (by rfl) ?_ (by assumption) ?_
      rotate_left
      · ((intro w hSw); (try dsimp only at hSw); go_simp; (try with_reducible rfl))
      try simp only [Act.put, List.setIfInBounds_toArray, List.set_cons_zero, List.set_cons_succ]
      refine rgTake (i := 9) (d := 16) (v := ?_) rfl rfl (by kernel_rfl) (by kernel_rfl) (by kernel_rfl) (fun _ _ _ h => h) (by rfl) ?_ (by assumption) ?_
      rotate_left
      · ((intro w hSw); (try dsimp only at hSw); (obtain ⟨x0, x1, x2, x3, x4, x5⟩ := blk6 hSw.1); go_simp; (try with_reducible rfl))
      try simp only [Act.put, List.setIfInBounds_toArray, List.set_cons_zero, List.set_cons_succ]
      refine rgTake (i := 12) (d := 19) (v := ?_) rfl rfl (by kernel_rfl) (by kernel_rfl) (by kernel_rfl) (fun _ _ _ h => h) (by rfl) ?_ (by assumption) ?_
      rotate_left
      · ((intro w hSw); (try dsimp only at hSw); go_simp; (try with_reducible rfl))
      try simp only [Act.put, List.setIfInBounds_toArray, List.set_cons_zero, List.set_cons_succ]
      refine rgTake (i := 13) (d := 20) (v := ?_) rfl rfl (by kernel_rfl) (by kernel_rfl) (by kernel_rfl) (fun _ _ _ h => h) (by rfl) ?_ (by assumption) ?_
      rotate_left
      · ((intro w hSw); (try dsimp only at hSw); (obtain ⟨x0, x1, x2, x3, x4, x5⟩ := blk6 hSw.1); go_simp; (try with_reducible rfl))
      try simp only [Act.put, List.setIfInBounds_toArray, List.set_cons_zero, List.set_cons_succ]
      refine rgTake (i := 17) (d := 24) (v := ?_) rfl rfl (by kernel_rfl) (by kernel_rfl) (by kernel_rfl) (fun _ _ _ h => h) (by rfl) ?_ (by assumption) ?_
      rotate_left
      · ((intro w hSw); (try dsimp only at hSw); go_simp; (try with_reducible rfl))
      try simp only [Act.put, List.setIfInBounds_toArray, List.set_cons_zero, List.set_cons_succ]
      refine wpAnyH_ready (rs := [2]) (by kernel_rfl) (by simp) ?_
      refine AllReadyH.cons rfl (fun K hK => ?_) AllReadyH.nil
      go_simp
      refine (Itoa_any (by omega) (by omega) (T.on hHeld.2)).mono ?_; rintro e w1 ⟨rfl, hb⟩; rw [HI1.out]
      go_wp2_with fail
      refine hK.out _ _ ?_ (fun hHeld => ?_)
      · (try dsimp only)
        exact ⟨hHeld.1.on hb, hHeld.2.trans (hb.mono hHeld.2.size)⟩
      clear hK K
      try simp only [Act.put, List.setIfInBounds_toArray, List.set_cons_zero, List.set_cons_succ]
      refine rgTake (i := 3) (d := 10) (v := ?_) rfl rfl (by kernel_rfl) (by kernel_rfl) (by kernel_rfl) (fun _ _ _ h => h) (by rfl) ?_ (by assumption) ?_
      rotate_left
      · ((intro w hSw); (try dsimp only at hSw); go_simp; (try with_reducible rfl))
      try simp only [Act.put, List.setIfInBounds_toArray, List.set_cons_zero, List.set_cons_succ]
      refine rgTake (i := 6) (d := 13) (v := ?_) rfl rfl (by kernel_rfl) (by kernel_rfl) (by kernel_rfl) (fun _ _ _ h => h) (by rfl) ?_ (by assumption) ?_
      rotate_left
      · ((intro w hSw); (try dsimp only at hSw); go_simp; (try with_reducible rfl))
      try simp only [Act.put, List.setIfInBounds_toArray, List.set_cons_zero, List.set_cons_succ]
      refine rgTake (i := 7) (d := 14) (v := ?_) rfl rfl (by kernel_rfl) (by kernel_rfl) (by kernel_rfl) (fun _ _ _ h => h) (by rfl) ?_ (by assumption) ?_
      rotate_left
      · ((intro w hSw); (try dsimp only at hSw); go_simp; (try with_reducible rfl))
      try simp only [Act.put, List.setIfInBounds_toArray, List.set_cons_zero, List.set_cons_succ]
      refine rgTake (i := 10) (d := 17) (v := ?_) rfl rfl (by kernel_rfl) (by kernel_rfl) (by kernel_rfl) (fun _ _ _ h => h) (by rfl) ?_ (by assumption) ?_
      rotate_left
      · ((intro w hSw); (try dsimp only at hSw); go_simp; (try with_reducible rfl))
      try simp only [Act.put, List.setIfInBounds_toArray, List.set_cons_zero, List.set_cons_succ]
      refine rgTake (i := 11) (d := 18) (v := ?_) rfl rfl (by kernel_rfl) (by kernel_rfl) (by kernel_rfl) (fun _ _ _ h => h) (by rfl) ?_ (by assumption) ?_
      rotate_left
      · ((intro w hSw); (try dsimp only at hSw); go_simp; (try with_reducible rfl))
      try simp only [Act.put, List.setIfInBounds_toArray, List.set_cons_zero, List.set_cons_succ]
      refine wpAnyH_ready (rs := [14]) (by kernel_rfl) (by simp) ?_
      refine AllReadyH.cons rfl (fun K hK => ?_) AllReadyH.nil
      go_simp
      refine (Itoa_any (by omega) (by omega) (T.on hHeld.2)).mono ?_; rintro e w2 ⟨rfl, hb2⟩; rw [HI2.out]
      go_wp2_with fail
      refine hK.out _ _ ?_ (fun hHeld => ?_)
      · (try dsimp only)
        exact ⟨hHeld.1.on hb2, hHeld.2.trans (hb2.mono hHeld.2.size)⟩
      clear hK K
      try simp only [Act.put, List.setIfInBounds_toArray, List.set_cons_zero, List.set_cons_succ]
      refine rgTake (i := 15) (d := 22) (v := ?_) rfl rfl (by kernel_rfl) (by kernel_rfl) (by kernel_rfl) (fun _ _ _ h => h) (by rfl) ?_ (by assumption) ?_
      rotate_left
      · ((intro w hSw); (try dsimp only at hSw); go_simp; (try with_reducible rfl))
      try simp only [Act.put, List.setIfInBounds_toArray, List.set_cons_zero, List.set_cons_succ]
      refine rgTake (i := 16) (d := 23) (v := ?_) rfl rfl (by kernel_rfl) (by kernel_rfl) (by kernel_rfl) (fun _ _ _ h => h) (by rfl) ?_ (by assumption) ?_
      rotate_left
      · ((intro w hSw); (try dsimp only at hSw); go_simp; (try with_reducible rfl))
      try simp only [Act.put, List.setIfInBounds_toArray, List.set_cons_zero, List.set_cons_succ]
      refine rgTake (i := 18) (d := 25) (v := ?_) rfl rfl (by kernel_rfl) (by kernel_rfl) (by kernel_rfl) (fun _ _ _ h => h) (by rfl) ?_ (by assumption) ?_
      rotate_left
      · ((intro w hSw); (try dsimp only at hSw); go_simp; (try with_reducible rfl))
      try simp only [Act.put, List.setIfInBounds_toArray, List.set_cons_zero, List.set_cons_succ]
      refine rgTake (i := 19) (d := 4) (v := ?_) rfl rfl (by kernel_rfl) (by kernel_rfl) (by kernel_rfl) (fun _ _ _ h => h) (by rfl) ?_ (by assumption) ?_
      rotate_left
      · ((intro w hSw); (try dsimp only at hSw); go_simp; (try with_reducible rfl))
      try simp only [Act.put, List.setIfInBounds_toArray, List.set_cons_zero, List.set_cons_succ]
      refine wpAnyH_done (by kernel_rfl) ?_ _
      go_wp2_with fail
      go_meet
      exact ⟨rfl, hHeld⟩
    case rest =>
    obtain ⟨rfl, K, G⟩ := hcut
    obtain ⟨x0, x1, x2, x3, x4, x5⟩ := blk6 K
    by_cases hc : 0 < card
    · have HW : Hid (_ = _) := (HV false).out
      rw [if_pos hc] at HW
      go_wp2_with fail
      refine (Itoa_any (by omega) (by omega) (T.on G)).mono ?_
      rintro e w3 ⟨rfl, hb3⟩
      rw [HI3.out]
      replace G := G.trans (hb3.mono G.size)
      replace K := K.on hb3
      clear hb3 x0 x1 x2 x3 x4 x5
      go_wp2_with fail
      go_ret
      exact ⟨by rw [HW.out]; rfl, G⟩
    · have HW : Hid (_ = _) := (HV false).out
      rw [if_neg hc] at HW
      go_wp2_with fail
      go_ret
      exact ⟨by rw [HW.out]; rfl, G⟩
  · have K0 := Blk.new w 41 [.int .i64 id, .string name, .string club, .int .i64 born, .bool true, .int .i64 card]
    have G0 : Below w.heap.size w (w.alloc (.cells #[.int .i64 id, .string name, .string club, .int .i64 born, .bool true, .int .i64 card] 41)) := (by repeat (first | exact Below.refl _ _ | refine below_drewN ?_ _ | refine Below.drew ?_ | refine Below.alloc ?_ (by first | omega | (simp; done) | (simp; omega)) _ | refine Below.setCell ?_ (by first | omega | (simp; done) | (simp; omega)) _))
    go_enter Tryz.func67, Tryz.ntmps67
    obtain ⟨x0, x1, x2, x3, x4, x5⟩ := blk6 K0
    go_upto_region 4 with (fail)
    go_cut [4] (fun v wx => v = .string (i1 ++ (⟨#[32]⟩ : ByteArray) ++ name ++ (⟨#[32, 111, 102, 32]⟩ : ByteArray) ++ club ++ (⟨#[32]⟩ : ByteArray) ++ i2 ++ (⟨#[32]⟩ : ByteArray) ++ ⟨#[119]⟩) ∧ Blk wx w.heap.size 41 [.int .i64 id, .string name, .string club, .int .i64 born, .bool true, .int .i64 card] ∧ Below w.heap.size w wx)
    case first =>
      clear x0 x1 x2 x3 x4 x5
      refine wp_region_held_drew (S := fun w' => Blk w' w.heap.size 41 [.int .i64 id, .string name, .string club, .int .i64 born, .bool true, .int .i64 card] ∧ Below w.heap.size w w') (by kernel_rfl) ?_ (fun hHeld => ?_)
      · (try dsimp only)
        first | exact ⟨K0.drew, G0.drew⟩ | exact hHeld
      refine rgTake (i := 0) (d := 7) (v := ?_) rfl rfl (by kernel_rfl) (by kernel_rfl) (by kernel_rfl) (fun _ _ _ h => h) (by rfl) ?_ (by assumption) ?_
      rotate_left
      · ((intro w hSw); (try dsimp only at hSw); go_simp; (try with_reducible rfl))
      try simp only [Act.put, List.setIfInBounds_toArray, List.set_cons_zero, List.set_cons_succ]
      refine rgTake (i := 1) (d := 8) (v := ?_) rfl rfl (by kernel_rfl) (by kernel_rfl) (by kernel_rfl) (fun _ _ _ h => h) (by rfl) ?_ (by assumption) ?_
      rotate_left
      · ((intro w hSw); (try dsimp only at hSw); (obtain ⟨x0, x1, x2, x3, x4, x5⟩ := blk6 hSw.1); go_simp; (try with_reducible rfl))
      try simp only [Act.put, List.setIfInBounds_toArray, List.set_cons_zero, List.set_cons_succ]
      refine rgTake (i := 4) (d := 11) (v := ?_) rfl rfl (by kernel_rfl) (by kernel_rfl) (by kernel_rfl) (fun _ _ _ h => h) (by rfl) ?_ (by assumption) ?_
      rotate_left
      · ((intro w hSw); (try dsimp only at hSw); go_simp; (try with_reducible rfl))
      try simp only [Act.put, List.setIfInBounds_toArray, List.set_cons_zero, List.set_cons_succ]
      refine rgTake (i := 5) (d := 12) (v := ?_) rfl rfl (by kernel_rfl) (by kernel_rfl) (by kernel_rfl) (fun _ _ _ h => h) (by rfl) ?_ (by assumption) ?_
      rotate_left
      · ((intro w hSw); (try dsimp only at hSw); (obtain ⟨x0, x1, x2, x3, x4, x5⟩ := blk6 hSw.1); go_simp; (try with_reducible rfl))
      try simp only [Act.put, List.setIfInBounds_toArray, List.set_cons_zero, List.set_cons_succ]
      refine rgTake (i := 8) (d := 15) (v := ?_) rfl rfl (by kernel_rfl) (by kernel_rfl) (by kernel_rfl) (fun _ _ _ h => h) (by rfl) ?_ (by assumption) ?_
      rotate_left
      · ((intro w hSw); (try dsimp only at hSw); go_simp; (try with_reducible rfl))
      try simp only [Act.put, List.setIfInBounds_toArray, List.set_cons_zero, List.set_cons_succ]
      refine rgTake (i := 9) (d := 16) (v := ?_) rfl rfl (by kernel_rfl) (by kernel_rfl) (by kernel_rfl) (fun _ _ _ h => h) (by rfl) ?_ (by assumption) ?_
      rotate_left
      · ((intro w hSw); (try dsimp only at hSw); (obtain ⟨x0, x1, x2, x3, x4, x5⟩ := blk6 hSw.1); go_simp; (try with_reducible rfl))
      try simp only [Act.put, List.setIfInBounds_toArray, List.set_cons_zero, List.set_cons_succ]
      refine rgTake (i := 12) (d := 19) (v := ?_) rfl rfl (by kernel_rfl) (by kernel_rfl) (by kernel_rfl) (fun _ _ _ h => h) (by rfl) ?_ (by assumption) ?_
      rotate_left
      · ((intro w hSw); (try dsimp only at hSw); go_simp; (try with_reducible rfl))
      try simp only [Act.put, List.setIfInBounds_toArray, List.set_cons_zero, List.set_cons_succ]
      refine rgTake (i := 13) (d := 20) (v := ?_) rfl rfl (by kernel_rfl) (by kernel_rfl) (by kernel_rfl) (fun _ _ _ h => h) (by rfl) ?_ (by assumption) ?_
      rotate_left
      · ((intro w hSw); (try dsimp only at hSw); (obtain ⟨x0, x1, x2, x3, x4, x5⟩ := blk6 hSw.1); go_simp; (try with_reducible rfl))
      try simp only [Act.put, List.setIfInBounds_toArray, List.set_cons_zero, List.set_cons_succ]
      refine rgTake (i := 17) (d := 24) (v := ?_) rfl rfl (by kernel_rfl) (by kernel_rfl) (by kernel_rfl) (fun _ _ _ h => h) (by rfl) ?_ (by assumption) ?_
      rotate_left
      · ((intro w hSw); (try dsimp only at hSw); go_simp; (try with_reducible rfl))
      try simp only [Act.put, List.setIfInBounds_toArray, List.set_cons_zero, List.set_cons_succ]
      refine wpAnyH_ready (rs := [2]) (by kernel_rfl) (by simp) ?_
      refine AllReadyH.cons rfl (fun K hK => ?_) AllReadyH.nil
      go_simp
      refine (Itoa_any (by omega) (by omega) (T.on hHeld.2)).mono ?_; rintro e w1 ⟨rfl, hb⟩; rw [HI1.out]
      go_wp2_with fail
      refine hK.out _ _ ?_ (fun hHeld => ?_)
      · (try dsimp only)
        exact ⟨hHeld.1.on hb, hHeld.2.trans (hb.mono hHeld.2.size)⟩
      clear hK K
      try simp only [Act.put, List.setIfInBounds_toArray, List.set_cons_zero, List.set_cons_succ]
      refine rgTake (i := 3) (d := 10) (v := ?_) rfl rfl (by kernel_rfl) (by kernel_rfl) (by kernel_rfl) (fun _ _ _ h => h) (by rfl) ?_ (by assumption) ?_
      rotate_left
      · ((intro w hSw); (try dsimp only at hSw); go_simp; (try with_reducible rfl))
      try simp only [Act.put, List.setIfInBounds_toArray, List.set_cons_zero, List.set_cons_succ]
      refine rgTake (i := 6) (d := 13) (v := ?_) rfl rfl (by kernel_rfl) (by kernel_rfl) (by kernel_rfl) (fun _ _ _ h => h) (by rfl) ?_ (by assumption) ?_
      rotate_left
      · ((intro w hSw); (try dsimp only at hSw); go_simp; (try with_reducible rfl))
      try simp only [Act.put, List.setIfInBounds_toArray, List.set_cons_zero, List.set_cons_succ]
      refine rgTake (i := 7) (d := 14) (v := ?_) rfl rfl (by kernel_rfl) (by kernel_rfl) (by kernel_rfl) (fun _ _ _ h => h) (by rfl) ?_ (by assumption) ?_
      rotate_left
      · ((intro w hSw); (try dsimp only at hSw); go_simp; (try with_reducible rfl))
      try simp only [Act.put, List.setIfInBounds_toArray, List.set_cons_zero, List.set_cons_succ]
      refine rgTake (i := 10) (d := 17) (v := ?_) rfl rfl (by kernel_rfl) (by kernel_rfl) (by kernel_rfl) (fun _ _ _ h => h) (by rfl) ?_ (by assumption) ?_
      rotate_left
      · ((intro w hSw); (try dsimp only at hSw); go_simp; (try with_reducible rfl))
      try simp only [Act.put, List.setIfInBounds_toArray, List.set_cons_zero, List.set_cons_succ]
      refine rgTake (i := 11) (d := 18) (v := ?_) rfl rfl (by kernel_rfl) (by kernel_rfl) (by kernel_rfl) (fun _ _ _ h => h) (by rfl) ?_ (by assumption) ?_
      rotate_left
      · ((intro w hSw); (try dsimp only at hSw); go_simp; (try with_reducible rfl))
      try simp only [Act.put, List.setIfInBounds_toArray, List.set_cons_zero, List.set_cons_succ]
      refine wpAnyH_ready (rs := [14]) (by kernel_rfl) (by simp) ?_
      refine AllReadyH.cons rfl (fun K hK => ?_) AllReadyH.nil
      go_simp
      refine (Itoa_any (by omega) (by omega) (T.on hHeld.2)).mono ?_; rintro e w2 ⟨rfl, hb2⟩; rw [HI2.out]
      go_wp2_with fail
      refine hK.out _ _ ?_ (fun hHeld => ?_)
      · (try dsimp only)
        exact ⟨hHeld.1.on hb2, hHeld.2.trans (hb2.mono hHeld.2.size)⟩
      clear hK K
      try simp only [Act.put, List.setIfInBounds_toArray, List.set_cons_zero, List.set_cons_succ]
      refine rgTake (i := 15) (d := 22) (v := ?_) rfl rfl (by kernel_rfl) (by kernel_rfl) (by kernel_rfl) (fun _ _ _ h => h) (by rfl) ?_ (by assumption) ?_
      rotate_left
      · ((intro w hSw); (try dsimp only at hSw); go_simp; (try with_reducible rfl))
      try simp only [Act.put, List.setIfInBounds_toArray, List.set_cons_zero, List.set_cons_succ]
      refine rgTake (i := 16) (d := 23) (v := ?_) rfl rfl (by kernel_rfl) (by kernel_rfl) (by kernel_rfl) (fun _ _ _ h => h) (by rfl) ?_ (by assumption) ?_
      rotate_left
      · ((intro w hSw); (try dsimp only at hSw); go_simp; (try with_reducible rfl))
      try simp only [Act.put, List.setIfInBounds_toArray, List.set_cons_zero, List.set_cons_succ]
      refine rgTake (i := 18) (d := 25) (v := ?_) rfl rfl (by kernel_rfl) (by kernel_rfl) (by kernel_rfl) (fun _ _ _ h => h) (by rfl) ?_ (by assumption) ?_
      rotate_left
      · ((intro w hSw); (try dsimp only at hSw); go_simp; (try with_reducible rfl))
      try simp only [Act.put, List.setIfInBounds_toArray, List.set_cons_zero, List.set_cons_succ]
      refine rgTake (i := 19) (d := 4) (v := ?_) rfl rfl (by kernel_rfl) (by kernel_rfl) (by kernel_rfl) (fun _ _ _ h => h) (by rfl) ?_ (by assumption) ?_
      rotate_left
      · ((intro w hSw); (try dsimp only at hSw); go_simp; (try with_reducible rfl))
      try simp only [Act.put, List.setIfInBounds_toArray, List.set_cons_zero, List.set_cons_succ]
      refine wpAnyH_done (by kernel_rfl) ?_ _
      go_wp2_with fail
      go_meet
      exact ⟨rfl, hHeld⟩
    case rest =>
    obtain ⟨rfl, K, G⟩ := hcut
    obtain ⟨x0, x1, x2, x3, x4, x5⟩ := blk6 K
    by_cases hc : 0 < card
    · have HW : Hid (_ = _) := (HV true).out
      rw [if_pos hc] at HW
      go_wp2_with fail
      refine (Itoa_any (by omega) (by omega) (T.on G)).mono ?_
      rintro e w3 ⟨rfl, hb3⟩
      rw [HI3.out]
      replace G := G.trans (hb3.mono G.size)
      replace K := K.on hb3
      clear hb3 x0 x1 x2 x3 x4 x5
      go_wp2_with fail
      go_ret
      exact ⟨by rw [HW.out]; rfl, G⟩
    · have HW : Hid (_ = _) := (HV true).out
      rw [if_neg hc] at HW
      go_wp2_with fail
      go_ret
      exact ⟨by rw [HW.out]; rfl, G⟩
theorem rt_cut {A : ByteArray} (b c : UInt8) : (A ++ (⟨#[32, b]⟩ : ByteArray)).extract 0 (A.size + 1) ++ (⟨#[c]⟩ : ByteArray) = A ++ (⟨#[32]⟩ : ByteArray) ++ ⟨#[c]⟩ := by
  have e : (A ++ (⟨#[32, b]⟩ : ByteArray)).extract 0 (A.size + 1) = A ++ (⟨#[32]⟩ : ByteArray) := by
    apply ByteArray.ext
    rw [ByteArray.data_extract, ByteArray.data_append, ByteArray.data_append, Array.extract_append]
    simp
    show (A.data.extract 0 A.data.size).push 32 = A.data.push 32
    rw [Array.extract_size]
  rw [e]
theorem rt_join {A : ByteArray} (b : UInt8) : A ++ (⟨#[32, b]⟩ : ByteArray) = A ++ (⟨#[32]⟩ : ByteArray) ++ ⟨#[b]⟩ := by
  rw [ByteArray.append_assoc]
  rfl
set_option maxRecDepth 100000 in
set_option maxHeartbeats 4000000 in
theorem l5Text_any {r : Rn} {w : World} (ok : rnOk r = true) :
    Calls Tryz.prog 69 #[.agg #[.int .i64 r.id, .string r.name, .string r.club, .int .i64 r.born, .bool r.woman, .int .i64 r.card]] w fun e w' => e = .returned (.string (rtB r)) ∧ Below w.heap.size w w' := by
  obtain ⟨id, name, club, born, woman, card⟩ := r
  obtain ⟨⟨b1, b2⟩, ⟨b3, _⟩, ⟨b4, _⟩, ⟨b5, b6⟩, b7, b8⟩ := rnOk_bd ok
  dsimp only at b1 b2 b3 b4 b5 b6 b7 b8
  clear ok
  have z1 := itoaB_size (n := id) (by omega) (by omega)
  have z2 := itoaB_size (n := born) (by omega) (by omega)
  have z3 := itoaB_size (n := card) (by omega) (by omega)
  have HV : ∀ W : Bool, Hid (rtB ⟨id, name, club, born, W, card⟩ = if 0 < card then itoaB id ++ (⟨#[32]⟩ : ByteArray) ++ name ++ (⟨#[32, 111, 102, 32]⟩ : ByteArray) ++ club ++ (⟨#[32]⟩ : ByteArray) ++ itoaB born ++ (⟨#[32]⟩ : ByteArray) ++ (if W = true then ⟨#[119]⟩ else ⟨#[109]⟩) ++ ((⟨#[32, 99, 97, 114, 100, 32]⟩ : ByteArray) ++ itoaB card) else itoaB id ++ (⟨#[32]⟩ : ByteArray) ++ name ++ (⟨#[32, 111, 102, 32]⟩ : ByteArray) ++ club ++ (⟨#[32]⟩ : ByteArray) ++ itoaB born ++ (⟨#[32]⟩ : ByteArray) ++ (if W = true then ⟨#[119]⟩ else ⟨#[109]⟩)) := fun W => (rfl : rtB ⟨id, name, club, born, W, card⟩ = _)
  generalize hi1 : itoaB id = i1 at *
  generalize hi2 : itoaB born = i2 at *
  generalize hi3 : itoaB card = i3 at *
  have HI1 := Lib.hid hi1
  have HI2 := Lib.hid hi2
  have HI3 := Lib.hid hi3
  clear hi1 hi2 hi3
  have s1 : ¬ 9223372036854775807 < i1.size + 1 := by omega
  have s2 : ¬ 9223372036854775807 < i1.size + 1 + name.size := by omega
  have s3 : ¬ 9223372036854775807 < i1.size + 1 + name.size + 4 := by omega
  have s4 : ¬ 9223372036854775807 < i1.size + 1 + name.size + 4 + club.size := by omega
  have s5 : ¬ 9223372036854775807 < i1.size + 1 + name.size + 4 + club.size + 1 := by omega
  have s6 : ¬ 9223372036854775807 < i1.size + 1 + name.size + 4 + club.size + 1 + i2.size := by omega
  have s7 : ¬ 9223372036854775807 < i1.size + 1 + name.size + 4 + club.size + 1 + i2.size + 1 := by omega
  have s9 : ¬ 9223372036854775807 < 6 + i3.size := by omega
  have s10 : ¬ 9223372036854775807 < i1.size + 1 + name.size + 4 + club.size + 1 + i2.size + 1 + 1 + (6 + i3.size) := by omega
  cases woman
  · have K0 := Blk.new w 41 [.int .i64 id, .string name, .string club, .int .i64 born, .bool false, .int .i64 card]
    have G0 : Below w.heap.size w (w.alloc (.cells #[.int .i64 id, .string name, .string club, .int .i64 born, .bool false, .int .i64 card] 41)) := (by repeat (first | exact Below.refl _ _ | refine below_drewN ?_ _ | refine Below.drew ?_ | refine Below.alloc ?_ (by first | omega | (simp; done) | (simp; omega)) _ | refine Below.setCell ?_ (by first | omega | (simp; done) | (simp; omega)) _))
    have s8 : ¬ 9223372036854775807 < i1.size + 1 + name.size + 4 + club.size + 1 + i2.size + 2 := by omega
    obtain ⟨X, hX⟩ : ∃ X, X = i1 ++ (⟨#[32]⟩ : ByteArray) ++ name ++ (⟨#[32, 111, 102, 32]⟩ : ByteArray) ++ club ++ (⟨#[32]⟩ : ByteArray) ++ i2 := ⟨_, rfl⟩
    have zX : X.size = i1.size + 1 + name.size + 4 + club.size + 1 + i2.size := by rw [hX]; simp only [ByteArray.size_append]; rfl
    have HX := Lib.hid hX
    clear hX
    go_enter Tryz.func69, Tryz.ntmps69
    obtain ⟨x0, x1, x2, x3, x4, x5⟩ := blk6 K0
    go_upto_region 1 with (fail)
    go_cut [3] (fun v wx => v = .string (X ++ ⟨#[32, 109]⟩) ∧ Blk wx w.heap.size 41 [.int .i64 id, .string name, .string club, .int .i64 born, .bool false, .int .i64 card] ∧ Below w.heap.size w wx)
    case first =>
      clear x0 x1 x2 x3 x4 x5
      refine wp_region_held_drew (S := fun w' => Blk w' w.heap.size 41 [.int .i64 id, .string name, .string club, .int .i64 born, .bool false, .int .i64 card] ∧ Below w.heap.size w w') (by kernel_rfl) ?_ (fun hHeld => ?_)
      · (try dsimp only)
        first | exact ⟨K0.drew, G0.drew⟩ | exact hHeld
      refine rgTake (i := 0) (d := 4) (v := ?_) rfl rfl (by kernel_rfl) (by kernel_rfl) (by kernel_rfl) (fun _ _ _ h => h) (by rfl) ?_ (by assumption) ?_
      rotate_left
      · ((intro w hSw); (try dsimp only at hSw); go_simp; (try with_reducible rfl))
      try simp only [Act.put, List.setIfInBounds_toArray, List.set_cons_zero, List.set_cons_succ]
      refine rgTake (i := 1) (d := 5) (v := ?_) rfl rfl (by kernel_rfl) (by kernel_rfl) (by kernel_rfl) (fun _ _ _ h => h) (by rfl) ?_ (by assumption) ?_
      rotate_left
      · ((intro w hSw); (try dsimp only at hSw); (obtain ⟨x0, x1, x2, x3, x4, x5⟩ := blk6 hSw.1); go_simp; (try with_reducible rfl))
      try simp only [Act.put, List.setIfInBounds_toArray, List.set_cons_zero, List.set_cons_succ]
      refine rgTake (i := 4) (d := 8) (v := ?_) rfl rfl (by kernel_rfl) (by kernel_rfl) (by kernel_rfl) (fun _ _ _ h => h) (by rfl) ?_ (by assumption) ?_
      rotate_left
      · ((intro w hSw); (try dsimp only at hSw); go_simp; (try with_reducible rfl))
      try simp only [Act.put, List.setIfInBounds_toArray, List.set_cons_zero, List.set_cons_succ]
      refine rgTake (i := 5) (d := 9) (v := ?_) rfl rfl (by kernel_rfl) (by kernel_rfl) (by kernel_rfl) (fun _ _ _ h => h) (by rfl) ?_ (by assumption) ?_
      rotate_left
      · ((intro w hSw); (try dsimp only at hSw); (obtain ⟨x0, x1, x2, x3, x4, x5⟩ := blk6 hSw.1); go_simp; (try with_reducible rfl))
      try simp only [Act.put, List.setIfInBounds_toArray, List.set_cons_zero, List.set_cons_succ]
      refine rgTake (i := 8) (d := 12) (v := ?_) rfl rfl (by kernel_rfl) (by kernel_rfl) (by kernel_rfl) (fun _ _ _ h => h) (by rfl) ?_ (by assumption) ?_
      rotate_left
      · ((intro w hSw); (try dsimp only at hSw); go_simp; (try with_reducible rfl))
      try simp only [Act.put, List.setIfInBounds_toArray, List.set_cons_zero, List.set_cons_succ]
      refine rgTake (i := 9) (d := 13) (v := ?_) rfl rfl (by kernel_rfl) (by kernel_rfl) (by kernel_rfl) (fun _ _ _ h => h) (by rfl) ?_ (by assumption) ?_
      rotate_left
      · ((intro w hSw); (try dsimp only at hSw); (obtain ⟨x0, x1, x2, x3, x4, x5⟩ := blk6 hSw.1); go_simp; (try with_reducible rfl))
      try simp only [Act.put, List.setIfInBounds_toArray, List.set_cons_zero, List.set_cons_succ]
      refine rgTake (i := 12) (d := 16) (v := ?_) rfl rfl (by kernel_rfl) (by kernel_rfl) (by kernel_rfl) (fun _ _ _ h => h) (by rfl) ?_ (by assumption) ?_
      rotate_left
      · ((intro w hSw); (try dsimp only at hSw); go_simp; (try with_reducible rfl))
      try simp only [Act.put, List.setIfInBounds_toArray, List.set_cons_zero, List.set_cons_succ]
      refine rgTake (i := 13) (d := 17) (v := ?_) rfl rfl (by kernel_rfl) (by kernel_rfl) (by kernel_rfl) (fun _ _ _ h => h) (by rfl) ?_ (by assumption) ?_
      rotate_left
      · ((intro w hSw); (try dsimp only at hSw); (obtain ⟨x0, x1, x2, x3, x4, x5⟩ := blk6 hSw.1); go_simp; (try with_reducible rfl))
      try simp only [Act.put, List.setIfInBounds_toArray, List.set_cons_zero, List.set_cons_succ]
      refine wpAnyH_ready (rs := [2]) (by kernel_rfl) (by simp) ?_
      refine AllReadyH.cons rfl (fun K hK => ?_) AllReadyH.nil
      go_simp
      refine (l1Num_any (by omega) (by omega)).mono ?_; rintro e w1 ⟨rfl, hb⟩; rw [HI1.out]
      go_wp2_with fail
      refine hK.out _ _ ?_ (fun hHeld => ?_)
      · (try dsimp only)
        exact ⟨hHeld.1.on hb, hHeld.2.trans (hb.mono hHeld.2.size)⟩
      clear hK K
      try simp only [Act.put, List.setIfInBounds_toArray, List.set_cons_zero, List.set_cons_succ]
      refine rgTake (i := 3) (d := 7) (v := ?_) rfl rfl (by kernel_rfl) (by kernel_rfl) (by kernel_rfl) (fun _ _ _ h => h) (by rfl) ?_ (by assumption) ?_
      rotate_left
      · ((intro w hSw); (try dsimp only at hSw); go_simp; (try with_reducible rfl))
      try simp only [Act.put, List.setIfInBounds_toArray, List.set_cons_zero, List.set_cons_succ]
      refine rgTake (i := 6) (d := 10) (v := ?_) rfl rfl (by kernel_rfl) (by kernel_rfl) (by kernel_rfl) (fun _ _ _ h => h) (by rfl) ?_ (by assumption) ?_
      rotate_left
      · ((intro w hSw); (try dsimp only at hSw); go_simp; (try with_reducible rfl))
      try simp only [Act.put, List.setIfInBounds_toArray, List.set_cons_zero, List.set_cons_succ]
      refine rgTake (i := 7) (d := 11) (v := ?_) rfl rfl (by kernel_rfl) (by kernel_rfl) (by kernel_rfl) (fun _ _ _ h => h) (by rfl) ?_ (by assumption) ?_
      rotate_left
      · ((intro w hSw); (try dsimp only at hSw); go_simp; (try with_reducible rfl))
      try simp only [Act.put, List.setIfInBounds_toArray, List.set_cons_zero, List.set_cons_succ]
      refine rgTake (i := 10) (d := 14) (v := ?_) rfl rfl (by kernel_rfl) (by kernel_rfl) (by kernel_rfl) (fun _ _ _ h => h) (by rfl) ?_ (by assumption) ?_
      rotate_left
      · ((intro w hSw); (try dsimp only at hSw); go_simp; (try with_reducible rfl))
      try simp only [Act.put, List.setIfInBounds_toArray, List.set_cons_zero, List.set_cons_succ]
      refine rgTake (i := 11) (d := 15) (v := ?_) rfl rfl (by kernel_rfl) (by kernel_rfl) (by kernel_rfl) (fun _ _ _ h => h) (by rfl) ?_ (by assumption) ?_
      rotate_left
      · ((intro w hSw); (try dsimp only at hSw); go_simp; (try with_reducible rfl))
      try simp only [Act.put, List.setIfInBounds_toArray, List.set_cons_zero, List.set_cons_succ]
      refine wpAnyH_ready (rs := [14]) (by kernel_rfl) (by simp) ?_
      refine AllReadyH.cons rfl (fun K hK => ?_) AllReadyH.nil
      go_simp
      refine (l1Num_any (by omega) (by omega)).mono ?_; rintro e w2 ⟨rfl, hb2⟩; rw [HI2.out]
      go_wp2_with fail
      refine hK.out _ _ ?_ (fun hHeld => ?_)
      · (try dsimp only)
        exact ⟨hHeld.1.on hb2, hHeld.2.trans (hb2.mono hHeld.2.size)⟩
      clear hK K
      try simp only [Act.put, List.setIfInBounds_toArray, List.set_cons_zero, List.set_cons_succ]
      refine rgTake (i := 15) (d := 19) (v := ?_) rfl rfl (by kernel_rfl) (by kernel_rfl) (by kernel_rfl) (fun _ _ _ h => h) (by rfl) ?_ (by assumption) ?_
      rotate_left
      · ((intro w hSw); (try dsimp only at hSw); go_simp; (try with_reducible rfl))
      try simp only [Act.put, List.setIfInBounds_toArray, List.set_cons_zero, List.set_cons_succ]
      refine rgTake (i := 16) (d := 20) (v := ?_) rfl rfl (by kernel_rfl) (by kernel_rfl) (by kernel_rfl) (fun _ _ _ h => h) (by rfl) ?_ (by assumption) ?_
      rotate_left
      · ((intro w hSw); (try dsimp only at hSw); go_simp; (try with_reducible rfl))
      try simp only [Act.put, List.setIfInBounds_toArray, List.set_cons_zero, List.set_cons_succ]
      refine rgTake (i := 17) (d := 3) (v := ?_) rfl rfl (by kernel_rfl) (by kernel_rfl) (by kernel_rfl) (fun _ _ _ h => h) (by rfl) ?_ (by assumption) ?_
      rotate_left
      · ((intro w hSw); (try dsimp only at hSw); go_simp; (try with_reducible rfl))
      try simp only [Act.put, List.setIfInBounds_toArray, List.set_cons_zero, List.set_cons_succ]
      refine wpAnyH_done (by kernel_rfl) ?_ _
      go_wp2_with fail
      go_meet
      exact ⟨by rw [HX.out], hHeld⟩
    case rest =>
    obtain ⟨rfl, K, G⟩ := hcut
    obtain ⟨x0, x1, x2, x3, x4, x5⟩ := blk6 K
    have HC : Hid ((X ++ (⟨#[32, 109]⟩ : ByteArray)) = X ++ (⟨#[32]⟩ : ByteArray) ++ ⟨#[109]⟩) := (rt_join 109 : (X ++ (⟨#[32, 109]⟩ : ByteArray)) = X ++ (⟨#[32]⟩ : ByteArray) ++ ⟨#[109]⟩)
    have s11 : ¬ 9223372036854775807 < X.size + 2 := by omega
    have s12 : ¬ 9223372036854775807 < X.size + 2 + 6 := by omega
    have s13 : ¬ 9223372036854775807 < X.size + 2 + 6 + i3.size := by omega
    by_cases hc : 0 < card
    · have HW : Hid (_ = _) := (HV false).out
      rw [if_pos hc, ← HX.out] at HW
      have hcn : ¬ card = 0 := by omega
      go_wp2_with fail
      refine (l1Num_any (by omega) (by omega)).mono ?_
      rintro e w3 ⟨rfl, hb3⟩
      rw [HI3.out]
      replace G := G.trans (hb3.mono G.size)
      replace K := K.on hb3
      clear hb3 x0 x1 x2 x3 x4 x5
      go_wp2_with fail
      go_ret
      exact ⟨by show Ending.returned (Value.string ((X ++ (⟨#[32, 109]⟩ : ByteArray)) ++ (⟨#[32, 99, 97, 114, 100, 32]⟩ : ByteArray) ++ i3)) = _; rw [HW.out, HC.out, ByteArray.append_assoc (b := (⟨#[32, 99, 97, 114, 100, 32]⟩ : ByteArray))]; rfl, G⟩
    · have HW : Hid (_ = _) := (HV false).out
      rw [if_neg hc, ← HX.out] at HW
      have hc0 : card = 0 := by omega
      subst hc0
      go_wp2_with fail
      go_ret
      exact ⟨by show Ending.returned (Value.string (X ++ (⟨#[32, 109]⟩ : ByteArray))) = _; rw [HW.out, HC.out]; rfl, G⟩
  · have K0 := Blk.new w 41 [.int .i64 id, .string name, .string club, .int .i64 born, .bool true, .int .i64 card]
    have G0 : Below w.heap.size w (w.alloc (.cells #[.int .i64 id, .string name, .string club, .int .i64 born, .bool true, .int .i64 card] 41)) := (by repeat (first | exact Below.refl _ _ | refine below_drewN ?_ _ | refine Below.drew ?_ | refine Below.alloc ?_ (by first | omega | (simp; done) | (simp; omega)) _ | refine Below.setCell ?_ (by first | omega | (simp; done) | (simp; omega)) _))
    have s8 : ¬ 9223372036854775807 < i1.size + 1 + name.size + 4 + club.size + 1 + i2.size + 2 := by omega
    obtain ⟨X, hX⟩ : ∃ X, X = i1 ++ (⟨#[32]⟩ : ByteArray) ++ name ++ (⟨#[32, 111, 102, 32]⟩ : ByteArray) ++ club ++ (⟨#[32]⟩ : ByteArray) ++ i2 := ⟨_, rfl⟩
    have zX : X.size = i1.size + 1 + name.size + 4 + club.size + 1 + i2.size := by rw [hX]; simp only [ByteArray.size_append]; rfl
    have HX := Lib.hid hX
    clear hX
    go_enter Tryz.func69, Tryz.ntmps69
    obtain ⟨x0, x1, x2, x3, x4, x5⟩ := blk6 K0
    go_upto_region 1 with (fail)
    go_cut [3] (fun v wx => v = .string (X ++ ⟨#[32, 109]⟩) ∧ Blk wx w.heap.size 41 [.int .i64 id, .string name, .string club, .int .i64 born, .bool true, .int .i64 card] ∧ Below w.heap.size w wx)
    case first =>
      clear x0 x1 x2 x3 x4 x5
      refine wp_region_held_drew (S := fun w' => Blk w' w.heap.size 41 [.int .i64 id, .string name, .string club, .int .i64 born, .bool true, .int .i64 card] ∧ Below w.heap.size w w') (by kernel_rfl) ?_ (fun hHeld => ?_)
      · (try dsimp only)
        first | exact ⟨K0.drew, G0.drew⟩ | exact hHeld
      refine rgTake (i := 0) (d := 4) (v := ?_) rfl rfl (by kernel_rfl) (by kernel_rfl) (by kernel_rfl) (fun _ _ _ h => h) (by rfl) ?_ (by assumption) ?_
      rotate_left
      · ((intro w hSw); (try dsimp only at hSw); go_simp; (try with_reducible rfl))
      try simp only [Act.put, List.setIfInBounds_toArray, List.set_cons_zero, List.set_cons_succ]
      refine rgTake (i := 1) (d := 5) (v := ?_) rfl rfl (by kernel_rfl) (by kernel_rfl) (by kernel_rfl) (fun _ _ _ h => h) (by rfl) ?_ (by assumption) ?_
      rotate_left
      · ((intro w hSw); (try dsimp only at hSw); (obtain ⟨x0, x1, x2, x3, x4, x5⟩ := blk6 hSw.1); go_simp; (try with_reducible rfl))
      try simp only [Act.put, List.setIfInBounds_toArray, List.set_cons_zero, List.set_cons_succ]
      refine rgTake (i := 4) (d := 8) (v := ?_) rfl rfl (by kernel_rfl) (by kernel_rfl) (by kernel_rfl) (fun _ _ _ h => h) (by rfl) ?_ (by assumption) ?_
      rotate_left
      · ((intro w hSw); (try dsimp only at hSw); go_simp; (try with_reducible rfl))
      try simp only [Act.put, List.setIfInBounds_toArray, List.set_cons_zero, List.set_cons_succ]
      refine rgTake (i := 5) (d := 9) (v := ?_) rfl rfl (by kernel_rfl) (by kernel_rfl) (by kernel_rfl) (fun _ _ _ h => h) (by rfl) ?_ (by assumption) ?_
      rotate_left
      · ((intro w hSw); (try dsimp only at hSw); (obtain ⟨x0, x1, x2, x3, x4, x5⟩ := blk6 hSw.1); go_simp; (try with_reducible rfl))
      try simp only [Act.put, List.setIfInBounds_toArray, List.set_cons_zero, List.set_cons_succ]
      refine rgTake (i := 8) (d := 12) (v := ?_) rfl rfl (by kernel_rfl) (by kernel_rfl) (by kernel_rfl) (fun _ _ _ h => h) (by rfl) ?_ (by assumption) ?_
      rotate_left
      · ((intro w hSw); (try dsimp only at hSw); go_simp; (try with_reducible rfl))
      try simp only [Act.put, List.setIfInBounds_toArray, List.set_cons_zero, List.set_cons_succ]
      refine rgTake (i := 9) (d := 13) (v := ?_) rfl rfl (by kernel_rfl) (by kernel_rfl) (by kernel_rfl) (fun _ _ _ h => h) (by rfl) ?_ (by assumption) ?_
      rotate_left
      · ((intro w hSw); (try dsimp only at hSw); (obtain ⟨x0, x1, x2, x3, x4, x5⟩ := blk6 hSw.1); go_simp; (try with_reducible rfl))
      try simp only [Act.put, List.setIfInBounds_toArray, List.set_cons_zero, List.set_cons_succ]
      refine rgTake (i := 12) (d := 16) (v := ?_) rfl rfl (by kernel_rfl) (by kernel_rfl) (by kernel_rfl) (fun _ _ _ h => h) (by rfl) ?_ (by assumption) ?_
      rotate_left
      · ((intro w hSw); (try dsimp only at hSw); go_simp; (try with_reducible rfl))
      try simp only [Act.put, List.setIfInBounds_toArray, List.set_cons_zero, List.set_cons_succ]
      refine rgTake (i := 13) (d := 17) (v := ?_) rfl rfl (by kernel_rfl) (by kernel_rfl) (by kernel_rfl) (fun _ _ _ h => h) (by rfl) ?_ (by assumption) ?_
      rotate_left
      · ((intro w hSw); (try dsimp only at hSw); (obtain ⟨x0, x1, x2, x3, x4, x5⟩ := blk6 hSw.1); go_simp; (try with_reducible rfl))
      try simp only [Act.put, List.setIfInBounds_toArray, List.set_cons_zero, List.set_cons_succ]
      refine wpAnyH_ready (rs := [2]) (by kernel_rfl) (by simp) ?_
      refine AllReadyH.cons rfl (fun K hK => ?_) AllReadyH.nil
      go_simp
      refine (l1Num_any (by omega) (by omega)).mono ?_; rintro e w1 ⟨rfl, hb⟩; rw [HI1.out]
      go_wp2_with fail
      refine hK.out _ _ ?_ (fun hHeld => ?_)
      · (try dsimp only)
        exact ⟨hHeld.1.on hb, hHeld.2.trans (hb.mono hHeld.2.size)⟩
      clear hK K
      try simp only [Act.put, List.setIfInBounds_toArray, List.set_cons_zero, List.set_cons_succ]
      refine rgTake (i := 3) (d := 7) (v := ?_) rfl rfl (by kernel_rfl) (by kernel_rfl) (by kernel_rfl) (fun _ _ _ h => h) (by rfl) ?_ (by assumption) ?_
      rotate_left
      · ((intro w hSw); (try dsimp only at hSw); go_simp; (try with_reducible rfl))
      try simp only [Act.put, List.setIfInBounds_toArray, List.set_cons_zero, List.set_cons_succ]
      refine rgTake (i := 6) (d := 10) (v := ?_) rfl rfl (by kernel_rfl) (by kernel_rfl) (by kernel_rfl) (fun _ _ _ h => h) (by rfl) ?_ (by assumption) ?_
      rotate_left
      · ((intro w hSw); (try dsimp only at hSw); go_simp; (try with_reducible rfl))
      try simp only [Act.put, List.setIfInBounds_toArray, List.set_cons_zero, List.set_cons_succ]
      refine rgTake (i := 7) (d := 11) (v := ?_) rfl rfl (by kernel_rfl) (by kernel_rfl) (by kernel_rfl) (fun _ _ _ h => h) (by rfl) ?_ (by assumption) ?_
      rotate_left
      · ((intro w hSw); (try dsimp only at hSw); go_simp; (try with_reducible rfl))
      try simp only [Act.put, List.setIfInBounds_toArray, List.set_cons_zero, List.set_cons_succ]
      refine rgTake (i := 10) (d := 14) (v := ?_) rfl rfl (by kernel_rfl) (by kernel_rfl) (by kernel_rfl) (fun _ _ _ h => h) (by rfl) ?_ (by assumption) ?_
      rotate_left
      · ((intro w hSw); (try dsimp only at hSw); go_simp; (try with_reducible rfl))
      try simp only [Act.put, List.setIfInBounds_toArray, List.set_cons_zero, List.set_cons_succ]
      refine rgTake (i := 11) (d := 15) (v := ?_) rfl rfl (by kernel_rfl) (by kernel_rfl) (by kernel_rfl) (fun _ _ _ h => h) (by rfl) ?_ (by assumption) ?_
      rotate_left
      · ((intro w hSw); (try dsimp only at hSw); go_simp; (try with_reducible rfl))
      try simp only [Act.put, List.setIfInBounds_toArray, List.set_cons_zero, List.set_cons_succ]
      refine wpAnyH_ready (rs := [14]) (by kernel_rfl) (by simp) ?_
      refine AllReadyH.cons rfl (fun K hK => ?_) AllReadyH.nil
      go_simp
      refine (l1Num_any (by omega) (by omega)).mono ?_; rintro e w2 ⟨rfl, hb2⟩; rw [HI2.out]
      go_wp2_with fail
      refine hK.out _ _ ?_ (fun hHeld => ?_)
      · (try dsimp only)
        exact ⟨hHeld.1.on hb2, hHeld.2.trans (hb2.mono hHeld.2.size)⟩
      clear hK K
      try simp only [Act.put, List.setIfInBounds_toArray, List.set_cons_zero, List.set_cons_succ]
      refine rgTake (i := 15) (d := 19) (v := ?_) rfl rfl (by kernel_rfl) (by kernel_rfl) (by kernel_rfl) (fun _ _ _ h => h) (by rfl) ?_ (by assumption) ?_
      rotate_left
      · ((intro w hSw); (try dsimp only at hSw); go_simp; (try with_reducible rfl))
      try simp only [Act.put, List.setIfInBounds_toArray, List.set_cons_zero, List.set_cons_succ]
      refine rgTake (i := 16) (d := 20) (v := ?_) rfl rfl (by kernel_rfl) (by kernel_rfl) (by kernel_rfl) (fun _ _ _ h => h) (by rfl) ?_ (by assumption) ?_
      rotate_left
      · ((intro w hSw); (try dsimp only at hSw); go_simp; (try with_reducible rfl))
      try simp only [Act.put, List.setIfInBounds_toArray, List.set_cons_zero, List.set_cons_succ]
      refine rgTake (i := 17) (d := 3) (v := ?_) rfl rfl (by kernel_rfl) (by kernel_rfl) (by kernel_rfl) (fun _ _ _ h => h) (by rfl) ?_ (by assumption) ?_
      rotate_left
      · ((intro w hSw); (try dsimp only at hSw); go_simp; (try with_reducible rfl))
      try simp only [Act.put, List.setIfInBounds_toArray, List.set_cons_zero, List.set_cons_succ]
      refine wpAnyH_done (by kernel_rfl) ?_ _
      go_wp2_with fail
      go_meet
      exact ⟨by rw [HX.out], hHeld⟩
    case rest =>
    obtain ⟨rfl, K, G⟩ := hcut
    obtain ⟨x0, x1, x2, x3, x4, x5⟩ := blk6 K
    have HC : Hid (((X ++ (⟨#[32, 109]⟩ : ByteArray)).extract 0 (i1.size + 1 + name.size + 4 + club.size + 1 + i2.size + 1) ++ (⟨#[119]⟩ : ByteArray)) = X ++ (⟨#[32]⟩ : ByteArray) ++ ⟨#[119]⟩) := (by rw [← zX]; exact rt_cut 109 119 : ((X ++ (⟨#[32, 109]⟩ : ByteArray)).extract 0 (i1.size + 1 + name.size + 4 + club.size + 1 + i2.size + 1) ++ (⟨#[119]⟩ : ByteArray)) = X ++ (⟨#[32]⟩ : ByteArray) ++ ⟨#[119]⟩)
    have s11 : ¬ 9223372036854775807 < X.size + 2 := by omega
    have s12 : ¬ 9223372036854775807 < X.size + 2 + 6 := by omega
    have s13 : ¬ 9223372036854775807 < X.size + 2 + 6 + i3.size := by omega
    by_cases hc : 0 < card
    · have HW : Hid (_ = _) := (HV true).out
      rw [if_pos hc, ← HX.out] at HW
      have hcn : ¬ card = 0 := by omega
      go_wp2_with fail
      refine (l1Num_any (by omega) (by omega)).mono ?_
      rintro e w3 ⟨rfl, hb3⟩
      rw [HI3.out]
      replace G := G.trans (hb3.mono G.size)
      replace K := K.on hb3
      clear hb3 x0 x1 x2 x3 x4 x5
      go_wp2_with fail
      go_ret
      exact ⟨by show Ending.returned (Value.string (((X ++ (⟨#[32, 109]⟩ : ByteArray)).extract 0 (i1.size + 1 + name.size + 4 + club.size + 1 + i2.size + 1) ++ (⟨#[119]⟩ : ByteArray)) ++ (⟨#[32, 99, 97, 114, 100, 32]⟩ : ByteArray) ++ i3)) = _; rw [HW.out, HC.out, ByteArray.append_assoc (b := (⟨#[32, 99, 97, 114, 100, 32]⟩ : ByteArray))]; rfl, G⟩
    · have HW : Hid (_ = _) := (HV true).out
      rw [if_neg hc, ← HX.out] at HW
      have hc0 : card = 0 := by omega
      subst hc0
      go_wp2_with fail
      go_ret
      exact ⟨by show Ending.returned (Value.string ((X ++ (⟨#[32, 109]⟩ : ByteArray)).extract 0 (i1.size + 1 + name.size + 4 + club.size + 1 + i2.size + 1) ++ (⟨#[119]⟩ : ByteArray))) = _; rw [HW.out, HC.out]; rfl, G⟩
set_option maxRecDepth 100000 in
set_option maxHeartbeats 2000000 in
theorem RunnerText_impl (r : Rn) (ok : Rn.Ok r) {w : World} (T : Tab w) :
    Calls Tryz.prog 20 #[.agg #[.int .i64 r.id, .string r.name, .string r.club, .int .i64 r.born, .bool r.woman, .int .i64 r.card]] w fun e w' => e = .returned (.tuple #[.string (rtV r), .bool (rnOk r)]) ∧ Below w.heap.size w w' := by
  obtain ⟨_, h1, h2, _, _⟩ := ok
  have HIS : ∀ W : World, _ := fun W => IsRunner_impl r W h1 h2
  unfold rtV
  clear h1 h2
  have K0 := Blk.new w 41 [.int .i64 r.id, .string r.name, .string r.club, .int .i64 r.born, .bool r.woman, .int .i64 r.card]
  have G0 : Below w.heap.size w (w.alloc (.cells #[.int .i64 r.id, .string r.name, .string r.club, .int .i64 r.born, .bool r.woman, .int .i64 r.card] 41)) := (by repeat (first | exact Below.refl _ _ | refine below_drewN ?_ _ | refine Below.drew ?_ | refine Below.alloc ?_ (by first | omega | (simp; done) | (simp; omega)) _ | refine Below.setCell ?_ (by first | omega | (simp; done) | (simp; omega)) _))
  obtain ⟨x0, x1, x2, x3, x4, x5⟩ := blk6 K0
  cases ok : rnOk r
  · rw [ok] at HIS
    clear ok
    go_enter Tryz.func20, Tryz.ntmps20
    go_wp2_with fail
    refine (HIS _).mono ?_
    rintro e w1 ⟨rfl, hb⟩
    have G := G0.trans (hb.mono G0.size)
    clear hb
    go_wp2_with fail
    go_ret2
    exact ⟨rfl, G⟩
  · rw [ok] at HIS
    go_enter Tryz.func20, Tryz.ntmps20
    go_wp2_with fail
    refine (HIS _).mono ?_
    rintro e w1 ⟨rfl, hb⟩
    have G := G0.trans (hb.mono G0.size)
    have K := K0.on hb
    clear hb x0 x1 x2 x3 x4 x5
    obtain ⟨x0, x1, x2, x3, x4, x5⟩ := blk6 K
    go_wp2_with fail
    refine (runnerText_any ok (T.on G)).mono ?_
    rintro e w2 ⟨rfl, hb⟩
    replace G := G.trans (hb.mono G.size)
    go_wp2_with fail
    go_ret2
    exact ⟨rfl, G⟩
set_option maxRecDepth 100000 in
set_option maxHeartbeats 2000000 in
theorem RunnerText_spec (r : Rn) (ok : Rn.Ok r) {w : World} :
    Calls Tryz.prog 21 #[.agg #[.int .i64 r.id, .string r.name, .string r.club, .int .i64 r.born, .bool r.woman, .int .i64 r.card]] w fun e w' => e = .returned (.tuple #[.string (rtV r), .bool (rnOk r)]) ∧ Below w.heap.size w w' := by
  obtain ⟨_, h1, h2, _, _⟩ := ok
  have HIS : ∀ W : World, _ := fun W => IsRunner_l5 r W h1 h2
  unfold rtV
  clear h1 h2
  have K0 := Blk.new w 41 [.int .i64 r.id, .string r.name, .string r.club, .int .i64 r.born, .bool r.woman, .int .i64 r.card]
  have G0 : Below w.heap.size w (w.alloc (.cells #[.int .i64 r.id, .string r.name, .string r.club, .int .i64 r.born, .bool r.woman, .int .i64 r.card] 41)) := (by repeat (first | exact Below.refl _ _ | refine below_drewN ?_ _ | refine Below.drew ?_ | refine Below.alloc ?_ (by first | omega | (simp; done) | (simp; omega)) _ | refine Below.setCell ?_ (by first | omega | (simp; done) | (simp; omega)) _))
  obtain ⟨x0, x1, x2, x3, x4, x5⟩ := blk6 K0
  cases ok : rnOk r
  · rw [ok] at HIS
    clear ok
    go_enter Tryz.func21, Tryz.ntmps21
    go_wp2_with fail
    refine (HIS _).mono ?_
    rintro e w1 ⟨rfl, hb⟩
    have G := G0.trans (hb.mono G0.size)
    clear hb
    go_wp2_with fail
    go_ret2
    exact ⟨rfl, G⟩
  · rw [ok] at HIS
    go_enter Tryz.func21, Tryz.ntmps21
    go_wp2_with fail
    refine (HIS _).mono ?_
    rintro e w1 ⟨rfl, hb⟩
    have G := G0.trans (hb.mono G0.size)
    have K := K0.on hb
    clear hb x0 x1 x2 x3 x4 x5
    obtain ⟨x0, x1, x2, x3, x4, x5⟩ := blk6 K
    go_wp2_with fail
    refine (l5Text_any ok).mono ?_
    rintro e w2 ⟨rfl, hb⟩
    replace G := G.trans (hb.mono G.size)
    go_wp2_with fail
    go_ret2
    exact ⟨rfl, G⟩
end Go.Proofs.YtmmpcchjalgokaaGreatDoor
