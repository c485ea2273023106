/- Contracts: vBig, vInts, vMap, vAt. -/
import Derived.Test.YtmmpcchjalgokaaDoorCh
import Derived.Test.YtmmpcchjalgokaaDoorStrs
import Derived.Deep.RegionWith
namespace Go.Proofs.YtmmpcchjalgokaaDoor
set_option linter.unusedVariables false
set_option linter.unusedSimpArgs false
open Go.RowKit
theorem vBig_any {A : Option Addr} {n c : Nat} {w : World} (hn : n ≤ maxLen) : Calls Tryd.prog 32 #[.slice A n c] w fun e w' => e = .returned (.bool (decide ((65536 : Int) < (n : Int)))) ∧ Below w.heap.size w w' := by
  by_cases h : (65536 : Int) < (n : Int)
  · have hd : decide ((65536 : Int) < (n : Int)) = true := by simpa using h
    rw [hd]
    go_enter Tryd.func32, Tryd.ntmps32
    go_wp2_with fail
    go_ret
    exact ⟨by first | rfl | (rw [← hd]; rfl) | (simp; omega), Below.refl _ _⟩
  · have hd : decide ((65536 : Int) < (n : Int)) = false := by simpa using h
    rw [hd]
    go_enter Tryd.func32, Tryd.ntmps32
    go_wp2_with fail
    go_ret
    exact ⟨by first | rfl | (rw [← hd]; rfl) | (simp; omega), Below.refl _ _⟩
set_option maxHeartbeats 400000 in
theorem vInts_same {A B : Option Addr} {n c d b1 b2 : Nat} {xs : List Int} {w : World} (hA : Rd w b1 1 A n (ints xs)) (hB : Rd w b2 1 B n (ints xs)) (hn : n ≤ maxLen) :
    Calls Tryd.prog 103 #[.slice A n c, .slice B n d] w fun e w' => e = .returned (.bool true) ∧ ∃ k, w' = w.drewN k := by
  unfold maxLen at hn
  have HX := Lib.hid (show xs.length = n by simpa [ints] using hA.1)
  have hne : ((n : Int) != (n : Int)) = false := by simp
  go_enter Tryd.func103, Tryd.ntmps103
  go_wp2
  go_loopw [5] (fun i wr => ∃ k : Nat, k ≤ n ∧ i = .int .i64 k ∧ ∃ q, wr = w.drewN q) (fun i _ => n - (intOf i).toNat)
  case atStart => exact ⟨0, Nat.zero_le _, rfl, 0, rfl⟩
  case round =>
    obtain ⟨k, hk, rfl, q, rfl⟩ := hrel
    by_cases hlt : k < n
    · obtain ⟨b, off, rfl, _, hca⟩ := hA.2 (by omega)
      obtain ⟨b', off', rfl, _, hcb⟩ := hB.2 (by omega)
      have kx : k < xs.length := by rw [HX.out]; exact hlt
      have ha := hca k (.int .i64 xs[k]) (by simp [ints, kx])
      have hb := hcb k (.int .i64 xs[k]) (by simp [ints, kx])
      clear hca hcb
      go_wp2
      go_quiet (fail)
      go_wp2
      go_roundw
      case rel => exact ⟨k + 1, by omega, by go_num, q + nq, by first | rfl | exact World.drewN_drewN _ _ _⟩
      case measure => simp [intOf]; omega
    · go_wp2
      go_ret
      exact ⟨rfl, _, rfl⟩
theorem vInts_b {A B : Option Addr} {n c d b1 b2 : Nat} {xs : List Int} {w : World} (hA : Rd w b1 1 A n (ints xs)) (hB : Rd w b2 1 B n (ints xs)) (hn : n ≤ maxLen) :
    Calls Tryd.prog 103 #[.slice A n c, .slice B n d] w fun e w' => e = .returned (.bool true) ∧ Below w.heap.size w w' :=
  (vInts_same hA hB hn).mono fun e w' ⟨he, k, hk⟩ => ⟨he, by rw [hk]; exact below_drewN (Below.refl _ _) k⟩
theorem vAt_any {A : Option Addr} {n c : Nat} {l : List Int} {i : Int} {w : World} (hR : Rd w w.heap.size 1 A n (l.flatMap fun b => [Value.int .u8 b])) (hln : l.length = n) (hl : ∀ x ∈ l, 0 ≤ x ∧ x ≤ 255) (hn : n ≤ 65536) (h0 : 0 ≤ i) (h1 : i ≤ 100) :
    Calls Tryd.prog 43 #[.slice A n c, .int .i64 i] w fun e w' => ∃ r, e = .returned (.int .i64 r) ∧ 0 ≤ r ∧ r ≤ 255 ∧ Below w.heap.size w w' := by
  obtain ⟨j, rfl⟩ := Int.eq_ofNat_of_zero_le h0
  have hmap : (l.flatMap fun b => [Value.int .u8 b]) = l.map (Value.int .u8) := by
    clear hR hln hl
    induction l with
    | nil => rfl
    | cons a l ih => simpa using ih
  rw [hmap] at hR
  clear hmap
  by_cases hlt : j < n
  · obtain ⟨bl, off, rfl, _, hc⟩ := hR.2 (by omega)
    have kx : j < l.length := by omega
    have cz := hc j (.int .u8 l[j]) (by simp [kx])
    have hb := hl _ (List.getElem_mem kx)
    generalize l[j] = x at *
    have hlti : (j : Int) < (n : Int) := by omega
    have hx : IntKind.i64.wrap x = x := IntWalk.i64_in _ (by omega)
    clear hc hl hR
    go_enter Tryd.func43, Tryd.ntmps43
    go_wp2_with fail
    go_ret
    exact ⟨_, rfl, by omega, by omega, Below.refl _ _⟩
  · have hlti : ¬ (j : Int) < (n : Int) := by omega
    have hd : decide ((j : Int) < (n : Int)) = false := by simpa using hlti
    have hw1 : IntKind.i64.wrap ((j : Int) * 7) = (j : Int) * 7 := IntWalk.i64_in _ (by omega)
    have hw2 : IntKind.i64.wrap ((j : Int) * 7 + (n : Int)) = (j : Int) * 7 + (n : Int) := IntWalk.i64_in _ (by omega)
    have hr : ((j : Int) * 7 + (n : Int)).tmod 256 = ((j : Int) * 7 + (n : Int)) % 256 := Int.tmod_eq_emod_of_nonneg (by omega)
    have hw3 : IntKind.i64.wrap (((j : Int) * 7 + (n : Int)) % 256) = ((j : Int) * 7 + (n : Int)) % 256 := IntWalk.i64_in _ (by omega)
    clear hl hR
    go_enter Tryd.func43, Tryd.ntmps43
    go_wp2_with fail
    go_ret
    exact ⟨((j : Int) * 7 + (n : Int)) % 256, by first | rfl | (congr 2; omega) | (simp [hw1, hw2, hr, hw3]), by omega, by omega, Below.refl _ _⟩
end Go.Proofs.YtmmpcchjalgokaaDoor
