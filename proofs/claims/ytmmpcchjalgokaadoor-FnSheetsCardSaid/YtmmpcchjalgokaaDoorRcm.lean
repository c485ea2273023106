/- Contracts: rBig, rTexts, rInts. -/
import Derived.Test.YtmmpcchjalgokaaDoorCh
import Derived.Test.YtmmpcchjalgokaaDoorStrs
import Derived.Deep.RegionWith
namespace Go.Proofs.YtmmpcchjalgokaaDoor
set_option linter.unusedVariables false
set_option linter.unusedSimpArgs false
open Go.RowKit
theorem rBig_any {A : Option Addr} {n c : Nat} {w : World} (hn : n ≤ maxLen) : Calls Tryd.prog 12 #[.slice A n c] w fun e w' => e = .returned (.bool (decide ((65536 : Int) < (n : Int)))) ∧ Below w.heap.size w w' := by
  by_cases h : (65536 : Int) < (n : Int)
  · have hd : decide ((65536 : Int) < (n : Int)) = true := by simpa using h
    rw [hd]
    go_enter Tryd.func12, Tryd.ntmps12
    go_wp2_with fail
    go_ret
    exact ⟨by first | rfl | (rw [← hd]; rfl) | (simp; omega), Below.refl _ _⟩
  · have hd : decide ((65536 : Int) < (n : Int)) = false := by simpa using h
    rw [hd]
    go_enter Tryd.func12, Tryd.ntmps12
    go_wp2_with fail
    go_ret
    exact ⟨by first | rfl | (rw [← hd]; rfl) | (simp; omega), Below.refl _ _⟩
set_option maxHeartbeats 400000 in
theorem rTexts_same {A B : Option Addr} {n c d b1 b2 : Nat} {xs : List ByteArray} {w : World} (hA : Rd w b1 1 A n (strs xs)) (hB : Rd w b2 1 B n (strs xs)) (hn : n ≤ maxLen) :
    Calls Tryd.prog 23 #[.slice A n c, .slice B n d] w fun e w' => e = .returned (.bool true) ∧ ∃ k, w' = w.drewN k := by
  unfold maxLen at hn
  have HX := Lib.hid (show xs.length = n by simpa [strs] using hA.1)
  have hne : ((n : Int) != (n : Int)) = false := by simp
  go_enter Tryd.func23, Tryd.ntmps23
  go_wp2
  go_loopw [5] (fun i wr => ∃ k : Nat, k ≤ n ∧ i = .int .i64 k ∧ ∃ q, wr = w.drewN q) (fun i _ => n - (intOf i).toNat)
  case atStart => exact ⟨0, Nat.zero_le _, rfl, 0, rfl⟩
  case round =>
    obtain ⟨k, hk, rfl, q, rfl⟩ := hrel
    by_cases hlt : k < n
    · obtain ⟨b, off, rfl, _, hca⟩ := hA.2 (by omega)
      obtain ⟨b', off', rfl, _, hcb⟩ := hB.2 (by omega)
      have kx : k < xs.length := by rw [HX.out]; exact hlt
      have ha := hca k (.string xs[k]) (by simp [strs, kx])
      have hb := hcb k (.string xs[k]) (by simp [strs, kx])
      clear hca hcb
      go_wp2
      go_quiet (fail)
      go_wp2
      go_roundw
      case rel => exact ⟨k + 1, by omega, by go_num, q + nq, by first | rfl | exact World.drewN_drewN _ _ _⟩
      case measure => simp [intOf]; omega
    · go_wp2
      go_ret
      exact ⟨rfl, _, rfl⟩
theorem rTexts_b {A B : Option Addr} {n c d b1 b2 : Nat} {xs : List ByteArray} {w : World} (hA : Rd w b1 1 A n (strs xs)) (hB : Rd w b2 1 B n (strs xs)) (hn : n ≤ maxLen) :
    Calls Tryd.prog 23 #[.slice A n c, .slice B n d] w fun e w' => e = .returned (.bool true) ∧ Below w.heap.size w w' :=
  (rTexts_same hA hB hn).mono fun e w' ⟨he, k, hk⟩ => ⟨he, by rw [hk]; exact below_drewN (Below.refl _ _) k⟩
set_option maxHeartbeats 400000 in
theorem rInts_same {A B : Option Addr} {n c d b1 b2 : Nat} {xs : List Int} {w : World} (hA : Rd w b1 1 A n (ints xs)) (hB : Rd w b2 1 B n (ints xs)) (hn : n ≤ maxLen) :
    Calls Tryd.prog 18 #[.slice A n c, .slice B n d] w fun e w' => e = .returned (.bool true) ∧ ∃ k, w' = w.drewN k := by
  unfold maxLen at hn
  have HX := Lib.hid (show xs.length = n by simpa [ints] using hA.1)
  have hne : ((n : Int) != (n : Int)) = false := by simp
  go_enter Tryd.func18, Tryd.ntmps18
  go_wp2
  go_loopw [5] (fun i wr => ∃ k : Nat, k ≤ n ∧ i = .int .i64 k ∧ ∃ q, wr = w.drewN q) (fun i _ => n - (intOf i).toNat)
  case atStart => exact ⟨0, Nat.zero_le _, rfl, 0, rfl⟩
  case round =>
    obtain ⟨k, hk, rfl, q, rfl⟩ := hrel
    by_cases hlt : k < n
    · obtain ⟨b, off, rfl, _, hca⟩ := hA.2 (by omega)
      obtain ⟨b', off', rfl, _, hcb⟩ := hB.2 (by omega)
      have kx : k < xs.length := by rw [HX.out]; exact hlt
      have ha := hca k (.int .i64 xs[k]) (by simp [ints, kx])
      have hb := hcb k (.int .i64 xs[k]) (by simp [ints, kx])
      clear hca hcb
      go_wp2
      go_quiet (fail)
      go_wp2
      go_roundw
      case rel => exact ⟨k + 1, by omega, by go_num, q + nq, by first | rfl | exact World.drewN_drewN _ _ _⟩
      case measure => simp [intOf]; omega
    · go_wp2
      go_ret
      exact ⟨rfl, _, rfl⟩
theorem rInts_b {A B : Option Addr} {n c d b1 b2 : Nat} {xs : List Int} {w : World} (hA : Rd w b1 1 A n (ints xs)) (hB : Rd w b2 1 B n (ints xs)) (hn : n ≤ maxLen) :
    Calls Tryd.prog 18 #[.slice A n c, .slice B n d] w fun e w' => e = .returned (.bool true) ∧ Below w.heap.size w w' :=
  (rInts_same hA hB hn).mono fun e w' ⟨he, k, hk⟩ => ⟨he, by rw [hk]; exact below_drewN (Below.refl _ _) k⟩
end Go.Proofs.YtmmpcchjalgokaaDoor
