/- Contracts: words, and valid runners. -/
import Derived.Test.YtmmpcchjalgokaaGreatDoorRange
import Derived.Test.YtmmpcchjalgokaaGreatDoorData
namespace Go.Proofs.YtmmpcchjalgokaaGreatDoor
set_option linter.unusedVariables false
set_option linter.unusedSimpArgs false
open Go.RowKit
def lowB (c : UInt8) : Bool := decide (97 ≤ c.toNat) && decide (c.toNat ≤ 122)
def wordB (s : ByteArray) : Bool := s.data.toList.all lowB && insideB s.size 1 10
def rnOk (r : Rn) : Bool := insideB r.id 1 999 && wordB r.name && wordB r.club && insideB r.born 1920 2020 && insideB r.card 0 9999
theorem low_snoc (s : ByteArray) (k : Nat) (h : k < s.size) : (s.data.toList.take (k + 1)).all lowB = ((s.data.toList.take k).all lowB && lowB s[k]) := by
  rw [List.take_succ_eq_append_getElem (by simpa using h), List.all_append]; simp; rfl
theorem word_not (s : ByteArray) (k : Nat) (h : k < s.size) (hc : lowB s[k] = false) : wordB s = false := by
  rw [wordB, Bool.and_eq_false_iff]
  left
  rw [List.all_eq_false]
  exact ⟨s[k], List.getElem_mem (l := s.data.toList) (by simpa using h), by simp [hc]⟩
set_option maxHeartbeats 400000 in
theorem isWord_any (s : ByteArray) (w : World) (hs : s.size ≤ maxLen) :
    Calls Tryz.prog 70 #[.string s] w fun e w' => e = .returned (.bool (wordB s)) ∧ w = w' := by
  unfold maxLen at hs
  go_enter Tryz.func70, Tryz.ntmps70
  go_wp2
  go_loop [3] (fun i => ∃ k : Nat, k ≤ s.size ∧ i = .int .i64 k ∧ (s.data.toList.take k).all lowB = true) (fun i => s.size - (intOf i).toNat)
  case atStart => exact ⟨0, Nat.zero_le _, rfl, rfl⟩
  case round =>
    obtain ⟨k, hk, rfl, ht⟩ := hrel
    have HT := Lib.hid ht
    clear ht
    by_cases hlt : k < s.size
    · have HS := Lib.hid (low_snoc s k hlt)
      have hb : (s[k].toNat : Int) < 256 := by have := s[k].toNat_lt; omega
      by_cases h1 : (s[k].toNat : Int) < 97
      · go_wp2
        go_ret
        exact ⟨ret_bool (by symm; exact word_not s k hlt (by simp [lowB]; omega)), rfl⟩
      · by_cases h2 : (122 : Int) < (s[k].toNat : Int)
        · go_wp2
          go_ret
          exact ⟨ret_bool (by symm; exact word_not s k hlt (by simp [lowB]; omega)), rfl⟩
        · have hl : lowB s[k] = true := by simp [lowB]; omega
          have HL := Lib.hid hl
          clear hl
          go_wp2
          go_round
          case rel => exact ⟨k + 1, by omega, by go_num, by rw [HS.out, HT.out, HL.out]; rfl⟩
          case measure => simp [intOf]; omega
    · go_wp2_with (go_at_call 62; refine (inside_any _ _ _ _).mono ?_; rintro e w' ⟨rfl, rfl⟩)
      go_ret
      exact ⟨ret_bool (by
        have := HT.out
        rw [List.take_of_length_le (by simp; omega)] at this
        rw [wordB, this]; rfl), rfl⟩
set_option maxHeartbeats 400000 in
theorem l2Word_any (s : ByteArray) (w : World) (hs : s.size ≤ maxLen) :
    Calls Tryz.prog 90 #[.string s] w fun e w' => e = .returned (.bool (wordB s)) ∧ w = w' := by
  unfold maxLen at hs
  go_enter Tryz.func90, Tryz.ntmps90
  go_wp2
  go_loop [3] (fun i => ∃ k : Nat, k ≤ s.size ∧ i = .int .i64 k ∧ (s.data.toList.take k).all lowB = true) (fun i => s.size - (intOf i).toNat)
  case atStart => exact ⟨0, Nat.zero_le _, rfl, rfl⟩
  case round =>
    obtain ⟨k, hk, rfl, ht⟩ := hrel
    have HT := Lib.hid ht
    clear ht
    by_cases hlt : k < s.size
    · have HS := Lib.hid (low_snoc s k hlt)
      have hb : (s[k].toNat : Int) < 256 := by have := s[k].toNat_lt; omega
      by_cases h1 : (s[k].toNat : Int) < 97
      · go_wp2
        go_ret
        exact ⟨ret_bool (by symm; exact word_not s k hlt (by simp [lowB]; omega)), rfl⟩
      · by_cases h2 : (122 : Int) < (s[k].toNat : Int)
        · go_wp2
          go_ret
          exact ⟨ret_bool (by symm; exact word_not s k hlt (by simp [lowB]; omega)), rfl⟩
        · have hl : lowB s[k] = true := by simp [lowB]; omega
          have HL := Lib.hid hl
          clear hl
          go_wp2
          go_round
          case rel => exact ⟨k + 1, by omega, by go_num, by rw [HS.out, HT.out, HL.out]; rfl⟩
          case measure => simp [intOf]; omega
    · go_wp2_with (go_at_call 64; refine (l1In_any _ _ _ _).mono ?_; rintro e w' ⟨rfl, rfl⟩)
      go_ret
      exact ⟨ret_bool (by
        have := HT.out
        rw [List.take_of_length_le (by simp; omega)] at this
        rw [wordB, this]; rfl), rfl⟩
set_option maxHeartbeats 1000000 in
theorem IsRunner_impl (r : Rn) (w : World) (h1 : r.name.size ≤ maxLen) (h2 : r.club.size ≤ maxLen) :
    Calls Tryz.prog 22 #[.agg #[.int .i64 r.id, .string r.name, .string r.club, .int .i64 r.born, .bool r.woman, .int .i64 r.card]] w fun e w' => e = .returned (.bool (rnOk r)) ∧ Below w.heap.size w w' := by
  cases q0 : insideB r.id 1 999
  · have e0 : rnOk r = false := by simp [rnOk, q0]
    rw [e0]; clear e0
    go_enter Tryz.func22, Tryz.ntmps22
    go_wp2_with (first | (go_at_call 62; refine (inside_any _ _ _ _).mono ?_; rintro e w' ⟨rfl, rfl⟩) | (go_at_call 70; refine (isWord_any _ _ (by assumption)).mono ?_; rintro e w' ⟨rfl, rfl⟩))
    go_ret
    exact ⟨rfl, (by repeat (first | exact Below.refl _ _ | refine below_drewN ?_ _ | refine Below.drew ?_ | refine Below.alloc ?_ (by first | omega | (simp; done) | (simp; omega)) _ | refine Below.setCell ?_ (by first | omega | (simp; done) | (simp; omega)) _))⟩
  cases q1 : wordB r.name
  · have e0 : rnOk r = false := by simp [rnOk, q1]
    rw [e0]; clear e0
    go_enter Tryz.func22, Tryz.ntmps22
    go_wp2_with (first | (go_at_call 62; refine (inside_any _ _ _ _).mono ?_; rintro e w' ⟨rfl, rfl⟩) | (go_at_call 70; refine (isWord_any _ _ (by assumption)).mono ?_; rintro e w' ⟨rfl, rfl⟩))
    go_ret
    exact ⟨rfl, (by repeat (first | exact Below.refl _ _ | refine below_drewN ?_ _ | refine Below.drew ?_ | refine Below.alloc ?_ (by first | omega | (simp; done) | (simp; omega)) _ | refine Below.setCell ?_ (by first | omega | (simp; done) | (simp; omega)) _))⟩
  cases q2 : wordB r.club
  · have e0 : rnOk r = false := by simp [rnOk, q2]
    rw [e0]; clear e0
    go_enter Tryz.func22, Tryz.ntmps22
    go_wp2_with (first | (go_at_call 62; refine (inside_any _ _ _ _).mono ?_; rintro e w' ⟨rfl, rfl⟩) | (go_at_call 70; refine (isWord_any _ _ (by assumption)).mono ?_; rintro e w' ⟨rfl, rfl⟩))
    go_ret
    exact ⟨rfl, (by repeat (first | exact Below.refl _ _ | refine below_drewN ?_ _ | refine Below.drew ?_ | refine Below.alloc ?_ (by first | omega | (simp; done) | (simp; omega)) _ | refine Below.setCell ?_ (by first | omega | (simp; done) | (simp; omega)) _))⟩
  cases q3 : insideB r.born 1920 2020
  · have e0 : rnOk r = false := by simp [rnOk, q3]
    rw [e0]; clear e0
    go_enter Tryz.func22, Tryz.ntmps22
    go_wp2_with (first | (go_at_call 62; refine (inside_any _ _ _ _).mono ?_; rintro e w' ⟨rfl, rfl⟩) | (go_at_call 70; refine (isWord_any _ _ (by assumption)).mono ?_; rintro e w' ⟨rfl, rfl⟩))
    go_ret
    exact ⟨rfl, (by repeat (first | exact Below.refl _ _ | refine below_drewN ?_ _ | refine Below.drew ?_ | refine Below.alloc ?_ (by first | omega | (simp; done) | (simp; omega)) _ | refine Below.setCell ?_ (by first | omega | (simp; done) | (simp; omega)) _))⟩
  cases q4 : insideB r.card 0 9999
  · have e0 : rnOk r = false := by simp [rnOk, q4]
    rw [e0]; clear e0
    go_enter Tryz.func22, Tryz.ntmps22
    go_wp2_with (first | (go_at_call 62; refine (inside_any _ _ _ _).mono ?_; rintro e w' ⟨rfl, rfl⟩) | (go_at_call 70; refine (isWord_any _ _ (by assumption)).mono ?_; rintro e w' ⟨rfl, rfl⟩))
    go_ret
    exact ⟨rfl, (by repeat (first | exact Below.refl _ _ | refine below_drewN ?_ _ | refine Below.drew ?_ | refine Below.alloc ?_ (by first | omega | (simp; done) | (simp; omega)) _ | refine Below.setCell ?_ (by first | omega | (simp; done) | (simp; omega)) _))⟩
  have e0 : rnOk r = true := by simp [rnOk, q0, q1, q2, q3, q4]
  rw [e0]; clear e0
  go_enter Tryz.func22, Tryz.ntmps22
  go_wp2_with (first | (go_at_call 62; refine (inside_any _ _ _ _).mono ?_; rintro e w' ⟨rfl, rfl⟩) | (go_at_call 70; refine (isWord_any _ _ (by assumption)).mono ?_; rintro e w' ⟨rfl, rfl⟩))
  go_ret
  exact ⟨rfl, (by repeat (first | exact Below.refl _ _ | refine below_drewN ?_ _ | refine Below.drew ?_ | refine Below.alloc ?_ (by first | omega | (simp; done) | (simp; omega)) _ | refine Below.setCell ?_ (by first | omega | (simp; done) | (simp; omega)) _))⟩
set_option maxHeartbeats 1000000 in
theorem IsRunner_l5 (r : Rn) (w : World) (h1 : r.name.size ≤ maxLen) (h2 : r.club.size ≤ maxLen) :
    Calls Tryz.prog 68 #[.agg #[.int .i64 r.id, .string r.name, .string r.club, .int .i64 r.born, .bool r.woman, .int .i64 r.card]] w fun e w' => e = .returned (.bool (rnOk r)) ∧ Below w.heap.size w w' := by
  cases q0 : insideB r.id 1 999
  · have e0 : rnOk r = false := by simp [rnOk, q0]
    rw [e0]; clear e0
    go_enter Tryz.func68, Tryz.ntmps68
    go_wp2_with (first | (go_at_call 64; refine (l1In_any _ _ _ _).mono ?_; rintro e w' ⟨rfl, rfl⟩) | (go_at_call 90; refine (l2Word_any _ _ (by assumption)).mono ?_; rintro e w' ⟨rfl, rfl⟩))
    go_ret
    exact ⟨rfl, (by repeat (first | exact Below.refl _ _ | refine below_drewN ?_ _ | refine Below.drew ?_ | refine Below.alloc ?_ (by first | omega | (simp; done) | (simp; omega)) _ | refine Below.setCell ?_ (by first | omega | (simp; done) | (simp; omega)) _))⟩
  cases q1 : wordB r.name
  · have e0 : rnOk r = false := by simp [rnOk, q1]
    rw [e0]; clear e0
    go_enter Tryz.func68, Tryz.ntmps68
    go_wp2_with (first | (go_at_call 64; refine (l1In_any _ _ _ _).mono ?_; rintro e w' ⟨rfl, rfl⟩) | (go_at_call 90; refine (l2Word_any _ _ (by assumption)).mono ?_; rintro e w' ⟨rfl, rfl⟩))
    go_ret
    exact ⟨rfl, (by repeat (first | exact Below.refl _ _ | refine below_drewN ?_ _ | refine Below.drew ?_ | refine Below.alloc ?_ (by first | omega | (simp; done) | (simp; omega)) _ | refine Below.setCell ?_ (by first | omega | (simp; done) | (simp; omega)) _))⟩
  cases q2 : wordB r.club
  · have e0 : rnOk r = false := by simp [rnOk, q2]
    rw [e0]; clear e0
    go_enter Tryz.func68, Tryz.ntmps68
    go_wp2_with (first | (go_at_call 64; refine (l1In_any _ _ _ _).mono ?_; rintro e w' ⟨rfl, rfl⟩) | (go_at_call 90; refine (l2Word_any _ _ (by assumption)).mono ?_; rintro e w' ⟨rfl, rfl⟩))
    go_ret
    exact ⟨rfl, (by repeat (first | exact Below.refl _ _ | refine below_drewN ?_ _ | refine Below.drew ?_ | refine Below.alloc ?_ (by first | omega | (simp; done) | (simp; omega)) _ | refine Below.setCell ?_ (by first | omega | (simp; done) | (simp; omega)) _))⟩
  cases q3 : insideB r.born 1920 2020
  · have e0 : rnOk r = false := by simp [rnOk, q3]
    rw [e0]; clear e0
    go_enter Tryz.func68, Tryz.ntmps68
    go_wp2_with (first | (go_at_call 64; refine (l1In_any _ _ _ _).mono ?_; rintro e w' ⟨rfl, rfl⟩) | (go_at_call 90; refine (l2Word_any _ _ (by assumption)).mono ?_; rintro e w' ⟨rfl, rfl⟩))
    go_ret
    exact ⟨rfl, (by repeat (first | exact Below.refl _ _ | refine below_drewN ?_ _ | refine Below.drew ?_ | refine Below.alloc ?_ (by first | omega | (simp; done) | (simp; omega)) _ | refine Below.setCell ?_ (by first | omega | (simp; done) | (simp; omega)) _))⟩
  cases q4 : insideB r.card 0 9999
  · have e0 : rnOk r = false := by simp [rnOk, q4]
    rw [e0]; clear e0
    go_enter Tryz.func68, Tryz.ntmps68
    go_wp2_with (first | (go_at_call 64; refine (l1In_any _ _ _ _).mono ?_; rintro e w' ⟨rfl, rfl⟩) | (go_at_call 90; refine (l2Word_any _ _ (by assumption)).mono ?_; rintro e w' ⟨rfl, rfl⟩))
    go_ret
    exact ⟨rfl, (by repeat (first | exact Below.refl _ _ | refine below_drewN ?_ _ | refine Below.drew ?_ | refine Below.alloc ?_ (by first | omega | (simp; done) | (simp; omega)) _ | refine Below.setCell ?_ (by first | omega | (simp; done) | (simp; omega)) _))⟩
  have e0 : rnOk r = true := by simp [rnOk, q0, q1, q2, q3, q4]
  rw [e0]; clear e0
  go_enter Tryz.func68, Tryz.ntmps68
  go_wp2_with (first | (go_at_call 64; refine (l1In_any _ _ _ _).mono ?_; rintro e w' ⟨rfl, rfl⟩) | (go_at_call 90; refine (l2Word_any _ _ (by assumption)).mono ?_; rintro e w' ⟨rfl, rfl⟩))
  go_ret
  exact ⟨rfl, (by repeat (first | exact Below.refl _ _ | refine below_drewN ?_ _ | refine Below.drew ?_ | refine Below.alloc ?_ (by first | omega | (simp; done) | (simp; omega)) _ | refine Below.setCell ?_ (by first | omega | (simp; done) | (simp; omega)) _))⟩
end Go.Proofs.YtmmpcchjalgokaaGreatDoor
