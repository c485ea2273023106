/- Contracts: StepTime of the program and of the reference. -/
import Derived.Test.YtdjdjceemfaigaaCellsNextTo
namespace Go.Proofs.Ytdjdjceemfaigaa
set_option linter.unusedVariables false
set_option linter.unusedSimpArgs false
open Go.RowKit
def stOk (m : Mp) (a b : Int) : Bool := okM m && opM m a && opM m b && decide (gapV m.wd a b = 1)
def stV (m : Mp) (a b : Int) : Int := if stOk m a b then stepV m a b else 0
set_option maxHeartbeats 1000000 in
theorem l1Has_any {A : Option Addr} {n c : Nat} {l : List Int} {x : Int} {w : World} (h : Rd w w.heap.size 1 A n (ints l)) (hn : n ≤ maxLen) :
    Calls Try.prog 24 #[.slice A n c, .int .i64 x] w fun e w' => e = .returned (.bool (decide (x ∈ l))) ∧ Below w.heap.size w w' := by
  unfold maxLen at hn
  have HX := Lib.hid h.len
  go_enter Try.func24, Try.ntmps24
  go_wp2
  go_loopw [5] (fun i wr => ∃ j : Nat, j ≤ n ∧ i = .int .i64 j ∧ x ∉ l.take j ∧ ∃ q, wr = w.drewN q) (fun i _ => n - (intOf i).toNat)
  case atStart => exact ⟨0, Nat.zero_le _, rfl, by simp, 0, rfl⟩
  case round =>
    obtain ⟨j, hj, rfl, hno, q, rfl⟩ := hrel
    have HN := Lib.hid hno
    clear hno
    by_cases hlt : j < n
    · obtain ⟨b, off, rfl, _, hca⟩ := h.int hlt
      have kx : j < l.length := by rw [HX.out]; exact hlt
      have ha := hca j kx
      clear hca
      by_cases he : l[j] = x
      · have hbe : (l[j] == x) = true := by simp [he]
        have HE := Lib.hid he
        clear he
        go_wp2
        try go_quiet (fail)
        try go_wp2
        go_ret
        exact ⟨ret_bool (by symm; rw [decide_eq_true_iff, ← HE.out]; exact List.getElem_mem kx), by first | exact below_drewN (Below.refl _ _) _ | exact (by repeat (first | exact Below.refl _ _ | refine below_drewN ?_ _ | refine Below.drew ?_ | refine Below.alloc ?_ (by first | omega | (simp; done) | (simp; omega)) _ | refine Below.setCell ?_ (by first | omega | (simp; done) | (simp; omega)) _))⟩
      · have hbe : (l[j] == x) = false := by simp [he]
        have HE := Lib.hid he
        clear he
        go_wp2
        try go_quiet (fail)
        try go_wp2
        go_roundw
        case rel => exact ⟨j + 1, by omega, by go_num, by rw [List.take_succ_eq_append_getElem kx, List.mem_append]; intro h'; rcases h' with h' | h'; exact HN.out h'; (simp at h'; exact HE.out h'.symm), _, by first | rfl | exact World.drewN_drewN _ _ _⟩
        case measure => simp [intOf]; omega
    · go_wp2
      go_ret
      exact ⟨ret_bool (by symm; rw [decide_eq_false_iff_not]; have := HN.out; rwa [List.take_of_length_le (by rw [HX.out]; omega)] at this), by first | exact below_drewN (Below.refl _ _) _ | exact (by repeat (first | exact Below.refl _ _ | refine below_drewN ?_ _ | refine Below.drew ?_ | refine Below.alloc ?_ (by first | omega | (simp; done) | (simp; omega)) _ | refine Below.setCell ?_ (by first | omega | (simp; done) | (simp; omega)) _))⟩
theorem gap_mem {m : Mp} {a b : Int} (ha : 0 ≤ a) (hb : opM m b = true) : decide (b ∈ nextI m a) = decide (gapV m.wd a b = 1) := by
  obtain ⟨⟨b0, b1⟩, b2⟩ := opM_iff.1 hb
  obtain ⟨a, rfl⟩ := Int.eq_ofNat_of_zero_le ha
  obtain ⟨b, rfl⟩ := Int.eq_ofNat_of_zero_le b0
  rw [decide_eq_decide]
  unfold nextI cast
  rw [Int.toNat_natCast, List.mem_map]
  constructor
  · rintro ⟨k, hk, e⟩
    have e' : k = b := by omega
    subst e'
    exact (mem_nextN.1 hk).2.2
  · intro h
    exact ⟨b, mem_nextN.2 ⟨by omega, b2, h⟩, rfl⟩
end Go.Proofs.Ytdjdjceemfaigaa
