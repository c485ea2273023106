/- Whether a byte stands in a text. -/
import Derived.Test.YtmmpcchjalgokaaDoorSplit
import Derived.Lib.IndexLaws
namespace Go.Proofs.YtmmpcchjalgokaaDoor
set_option linter.unusedVariables false
set_option linter.unusedSimpArgs false
open Go.RowKit
def hasB (s : ByteArray) (b : UInt8) : Bool := decide (0 ≤ Lib.indexByte s.data.toList b)
theorem hasB_yes {s : ByteArray} {b : UInt8} {k : Nat} (h : s.data.toList[k]? = some b) : hasB s b = true := by
  unfold hasB
  rw [decide_eq_true_eq]
  have := Lib.indexByte_ge s.data.toList b
  rcases Int.lt_or_le (Lib.indexByte s.data.toList b) 0 with h1 | h1
  · exact absurd h (Lib.indexByte_none (by omega) k)
  · exact h1
theorem hasB_no {s : ByteArray} {b : UInt8} (h : ∀ k : Nat, k < s.size → s.data.toList[k]? ≠ some b) : hasB s b = false := by
  unfold hasB
  rw [decide_eq_false_iff_not]
  intro h1
  obtain ⟨o, ho⟩ := Int.eq_ofNat_of_zero_le h1
  have h2 := (Lib.indexByte_some ho).1
  have h3 : o < s.size := by
    have := (List.getElem?_eq_some_iff.1 h2).1
    rwa [Array.length_toList] at this
  exact h o h3 h2
set_option maxHeartbeats 1000000 in
theorem l1Stands_any {s : ByteArray} {b : UInt8} {w : World} (hs : s.size ≤ 1048576) :
    Calls Tryd.prog 98 #[.string s, .int .u8 b.toNat] w fun e w' => e = .returned (.bool (hasB s b)) ∧ Below w.heap.size w w' := by
  go_enter Tryd.func98, Tryd.ntmps98
  go_wp2
  go_loopw [5] (fun i wr => ∃ k : Nat, k ≤ s.size ∧ i = .int .i64 k ∧ Hid (∀ j : Nat, j < k → s.data.toList[j]? ≠ some b) ∧ Below w.heap.size w wr) (fun i _ => s.size - (intOf i).toNat)
  case atStart => exact ⟨0, Nat.zero_le _, rfl, (show ∀ j : Nat, j < 0 → _ from fun j h => absurd h (by omega)), (by repeat (first | exact Below.refl _ _ | refine below_drewN ?_ _ | refine Below.drew ?_ | refine Below.alloc ?_ (by first | omega | (simp; done) | (simp; omega)) _ | refine Below.setCell ?_ (by first | omega | (simp; done) | (simp; omega)) _))⟩
  case round =>
    obtain ⟨k, hk, rfl, HN, G⟩ := hrel
    by_cases hlt : k < s.size
    · have HB := Lib.hid (byte_at s k hlt)
      by_cases he : s[k] = b
      · have hbe : ((s[k].toNat : Int) == (b.toNat : Int)) = true := by rw [he]; simp
        have HY : Hid (hasB s b = true) := (hasB_yes (k := k) (by rw [HB.out, he]) : _ = _)
        go_wp2_with fail
        go_ret
        exact ⟨by rw [HY.out]; rfl, G⟩
      · have hbe : ((s[k].toNat : Int) == (b.toNat : Int)) = false := by
          rw [beq_eq_false_iff_ne]; intro h; exact he (UInt8.toNat_inj.1 (by omega))
        have HM : Hid (∀ j : Nat, j < k + 1 → s.data.toList[j]? ≠ some b) := (show ∀ j : Nat, j < k + 1 → _ from fun j hj => by
          rcases Nat.lt_succ_iff_lt_or_eq.1 hj with h | rfl
          · exact HN.out j h
          · rw [HB.out]; intro e; exact he (by injection e))
        clear HN HB he
        go_wp2_with fail
        go_roundw
        case rel => exact ⟨k + 1, by omega, by go_num, HM, G⟩
        case measure => simp [intOf]; omega
    · have hks : k = s.size := by omega
      have HY : Hid (hasB s b = false) := (hasB_no (fun j hj => HN.out j (by omega)) : _ = _)
      go_wp2_with fail
      go_ret
      exact ⟨by rw [HY.out]; rfl, G⟩
end Go.Proofs.YtmmpcchjalgokaaDoor
