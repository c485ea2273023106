/- Contracts of the small string functions: checksums. -/
import Derived.Test.YtmmpcchjalgokaaDoorBase
namespace Go.Proofs.YtmmpcchjalgokaaDoor
set_option linter.unusedVariables false
set_option linter.unusedSimpArgs false
open Go.RowKit

def ckStep (h : Int) (c : UInt8) : Int := (41 * h + c.toNat + 1) % 999979
def ck (l : List UInt8) : Int := l.foldl ckStep 7
theorem ck_bd (l : List UInt8) : 0 ≤ ck l ∧ ck l < 999979 := by
  unfold ck
  have H : ∀ (l : List UInt8) (h : Int), 0 ≤ h ∧ h < 999979 → 0 ≤ l.foldl ckStep h ∧ l.foldl ckStep h < 999979 := by
    intro l
    induction l with
    | nil => intro h hh; exact hh
    | cons c r ih => intro h hh; refine ih _ ?_; unfold ckStep; omega
  exact H l 7 (by omega)
theorem take_snoc (s : ByteArray) (k : Nat) (h : k < s.size) : s.data.toList.take (k + 1) = s.data.toList.take k ++ [s[k]] := by
  rw [List.take_succ_eq_append_getElem (by simpa using h)]; rfl
theorem ck_snoc (l : List UInt8) (c : UInt8) : ck (l ++ [c]) = ckStep (ck l) c := by
  unfold ck; rw [List.foldl_append]; rfl

set_option maxHeartbeats 400000 in
theorem checksum_any (s : ByteArray) (w : World) (hs : s.size ≤ maxLen) :
    Calls Tryd.prog 97 #[.string s] w fun e w' => e = .returned (.int .i64 (ck s.data.toList)) ∧ w = w' := by
  unfold maxLen at hs
  go_enter Tryd.func97, Tryd.ntmps97
  go_wp2
  go_loop [3, 4] (fun n i => ∃ k : Nat, k ≤ s.size ∧ i = .int .i64 k ∧ n = .int .i64 (ck (s.data.toList.take k))) (fun _ i => s.size - (intOf i).toNat)
  case atStart => exact ⟨0, Nat.zero_le _, rfl, rfl⟩
  case round =>
    obtain ⟨k, hk, rfl, rfl⟩ := hrel
    have hd := ck_bd (s.data.toList.take k)
    by_cases hlt : k < s.size
    · have HS : Hid (ck (s.data.toList.take (k + 1)) = ckStep (ck (s.data.toList.take k)) s[k]) := by rw [take_snoc s k hlt]; exact ck_snoc _ _
      have hb : (s[k].toNat : Int) < 256 := by have := s[k].toNat_lt; omega
      go_wp2
      go_round
      case rel => exact ⟨k + 1, by omega, by go_num, by rw [HS.out]; rfl⟩
      case measure => simp [intOf]; omega
    · go_wp2
      go_ret
      exact ⟨ret_int (by rw [List.take_of_length_le (by simp; omega)]), rfl⟩

set_option maxHeartbeats 400000 in
theorem l1Sum_any (s : ByteArray) (w : World) (hs : s.size ≤ maxLen) :
    Calls Tryd.prog 128 #[.string s] w fun e w' => e = .returned (.int .i64 (ck s.data.toList)) ∧ w = w' := by
  unfold maxLen at hs
  go_enter Tryd.func128, Tryd.ntmps128
  go_wp2
  go_loop [3, 4] (fun n i => ∃ k : Nat, k ≤ s.size ∧ i = .int .i64 k ∧ n = .int .i64 (ck (s.data.toList.take k))) (fun _ i => s.size - (intOf i).toNat)
  case atStart => exact ⟨0, Nat.zero_le _, rfl, rfl⟩
  case round =>
    obtain ⟨k, hk, rfl, rfl⟩ := hrel
    have hd := ck_bd (s.data.toList.take k)
    by_cases hlt : k < s.size
    · have HS : Hid (ck (s.data.toList.take (k + 1)) = ckStep (ck (s.data.toList.take k)) s[k]) := by rw [take_snoc s k hlt]; exact ck_snoc _ _
      have hb : (s[k].toNat : Int) < 256 := by have := s[k].toNat_lt; omega
      go_wp2
      go_round
      case rel => exact ⟨k + 1, by omega, by go_num, by rw [HS.out]; rfl⟩
      case measure => simp [intOf]; omega
    · go_wp2
      go_ret
      exact ⟨ret_int (by rw [List.take_of_length_le (by simp; omega)]), rfl⟩

/-- What Checksum returns: 0 and false where the string is too long. -/
def cksum (s : ByteArray) : Int := if 4000 < s.size then 0 else ck s.data.toList
def cksumOk (s : ByteArray) : Bool := decide (s.size ≤ 4000)
end Go.Proofs.YtmmpcchjalgokaaDoor
