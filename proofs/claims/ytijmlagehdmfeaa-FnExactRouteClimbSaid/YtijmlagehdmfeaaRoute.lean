/- Contracts: a route on a Map. -/
import Derived.Test.YtijmlagehdmfeaaStepTime
import Derived.Deep.RegionHeld3
namespace Go.Proofs.Ytijmlagehdmfeaa
set_option linter.unusedVariables false
set_option linter.unusedSimpArgs false
open Go.RowKit
set_option maxHeartbeats 1000000 in
theorem Index_int {A : Option Addr} {n c : Nat} {l : List Int} {x : Int} {w : World} (h : Rd w w.heap.size 1 A n (ints l)) (hn : n ≤ maxLen) :
    Calls Try.prog 103 #[.slice A n c, .int .i64 x] w fun e w' => e = .returned (.int .i64 (idxB (fun y => decide (x = y)) l 0)) ∧ Below w.heap.size w w' := by
  unfold maxLen at hn
  have HX := Lib.hid h.len
  go_enter Try.func103, Try.ntmps103
  go_wp2
  go_loopw [8] (fun i wr => ∃ j : Nat, j ≤ n ∧ i = .int .i64 j ∧ Hid (∀ (i : Nat) (hi : i < l.length), i < j → decide (x = l[i]) = false) ∧ ∃ q, wr = w.drewN q) (fun i _ => n - (intOf i).toNat)
  case atStart => exact ⟨0, Nat.zero_le _, rfl, (fun i _ h => absurd h (by omega)), 0, rfl⟩
  case round =>
    obtain ⟨j, hj, rfl, HN, q, rfl⟩ := hrel
    by_cases hlt : j < n
    · obtain ⟨b, off, rfl, _, hca⟩ := h.int hlt
      have kx : j < l.length := by rw [HX.out]; exact hlt
      have ha := hca j kx
      clear hca
      by_cases he : x = l[j]
      · have hbe : (x == l[j]) = true := by simp [he]
        have HE : Hid (decide (x = l[j]) = true) := by show _ = _; simpa using he
        clear he
        go_wp2
        try go_quiet (fail)
        try go_wp2
        go_ret
        exact ⟨ret_int (by rw [idxB_hit l 0 j kx HE.out HN.out]; omega), by first | exact below_drewN (Below.refl _ _) _ | exact (by repeat (first | exact Below.refl _ _ | refine below_drewN ?_ _ | refine Below.drew ?_ | refine Below.alloc ?_ (by first | omega | (simp; done) | (simp; omega)) _ | refine Below.setCell ?_ (by first | omega | (simp; done) | (simp; omega)) _))⟩
      · have hbe : (x == l[j]) = false := by simp [he]
        have HE : Hid (decide (x = l[j]) = false) := by show _ = _; simpa using he
        clear he
        go_wp2
        try go_quiet (fail)
        try go_wp2
        go_roundw
        case rel => exact ⟨j + 1, by omega, by go_num, (show ∀ (i : Nat) (hi : i < l.length), i < j + 1 → decide (x = l[i]) = false from fun i hi hij => by
          by_cases e : i = j
          · subst e; exact HE.out
          · exact HN.out i hi (by omega)), _, by first | rfl | exact World.drewN_drewN _ _ _⟩
        case measure => simp [intOf]; omega
    · go_wp2
      go_ret
      exact ⟨ret_int (by rw [idxB_miss l 0 fun j hj => HN.out j hj (by rw [HX.out] at hj; omega)]), by first | exact below_drewN (Below.refl _ _) _ | exact (by repeat (first | exact Below.refl _ _ | refine below_drewN ?_ _ | refine Below.drew ?_ | refine Below.alloc ?_ (by first | omega | (simp; done) | (simp; omega)) _ | refine Below.setCell ?_ (by first | omega | (simp; done) | (simp; omega)) _))⟩
theorem Contains_int {A : Option Addr} {n c : Nat} {l : List Int} {x : Int} {w : World} (h : Rd w w.heap.size 1 A n (ints l)) (hn : n ≤ maxLen) :
    Calls Try.prog 96 #[.slice A n c, .int .i64 x] w fun e w' => e = .returned (.bool (decide (x ∈ l))) ∧ Below w.heap.size w w' := by
  go_enter Try.func96, Try.ntmps96
  go_wp2_with fail
  refine (Index_int h hn).mono ?_
  rintro e w1 ⟨rfl, hb⟩
  go_wp2_with fail
  go_ret
  refine ⟨ret_bool ?_, hb⟩
  rw [idxB_any]
  rw [Bool.eq_iff_iff]
  simp
/-- The first k cells of a list are a route. -/
def rtP (m : Mp) (l : List Int) : Nat → Bool
  | 0 => true
  | k + 1 => rtP m l k && (opM m (l.getD k 0) && !decide (l.getD k 0 ∈ l.take k) && (decide (k = 0) || decide (gapV m.wd (l.getD (k - 1) 0) (l.getD k 0) = 1)))
def rtB (m : Mp) (l : List Int) : Bool := rtP m l l.length && decide (0 < l.length)
theorem rtP_false {m : Mp} {l : List Int} {k : Nat} : ∀ {n}, k ≤ n → rtP m l k = false → rtP m l n = false := by
  intro n
  induction n with
  | zero => intro h1 h2; have e : k = 0 := by omega
            rw [e] at h2; exact h2
  | succ n ih =>
    intro h1 h2
    by_cases e : k = n + 1
    · subst e; exact h2
    · rw [rtP, ih (by omega) h2]; rfl
theorem rtP_open {m : Mp} {l : List Int} : ∀ {n}, rtP m l n = true → ∀ k, k < n → opM m (l.getD k 0) = true := by
  intro n
  induction n with
  | zero => intro _ k hk; omega
  | succ n ih =>
    intro h k hk
    rw [rtP] at h
    simp only [Bool.and_eq_true] at h
    by_cases e : k = n
    · subst e; exact h.2.1.1
    · exact ih h.1 k (by omega)
end Go.Proofs.Ytijmlagehdmfeaa
