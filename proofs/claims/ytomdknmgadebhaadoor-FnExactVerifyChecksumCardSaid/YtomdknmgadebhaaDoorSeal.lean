/- Contracts: AppendChecksum and VerifyChecksum, the program's and the reference's. -/
import Derived.Test.YtomdknmgadebhaaDoorFmt
import Derived.Test.YtomdknmgadebhaaDoorA
import Derived.Test.YtomdknmgadebhaaDoorSplit
import Derived.Lib.IndexLaws
namespace Go.Proofs.YtomdknmgadebhaaDoor
set_option linter.unusedVariables false
set_option linter.unusedSimpArgs false
open Go.RowKit
def hasB (s : ByteArray) (b : UInt8) : Bool := decide (0 ≤ Lib.indexByte s.data.toList b)
theorem hasB_yes {s : ByteArray} {b : UInt8} {k : Nat} (h : s.data.toList[k]? = some b) : hasB s b = true := by
  unfold hasB
  rw [decide_eq_true_eq]
  have := Lib.indexByte_ge s.data.toList b
  rcases Int.lt_or_le (Lib.indexByte s.data.toList b) 0 with h1 | h1
  · exact absurd h (Lib.indexByte_none (by omega) k)
  · exact h1
theorem hasB_no {s : ByteArray} {b : UInt8} (h : ∀ k : Nat, k < s.size → s.data.toList[k]? ≠ some b) : hasB s b = false := by
  unfold hasB
  rw [decide_eq_false_iff_not]
  intro h1
  obtain ⟨o, ho⟩ := Int.eq_ofNat_of_zero_le h1
  have h2 := (Lib.indexByte_some ho).1
  have h3 : o < s.size := by
    have := (List.getElem?_eq_some_iff.1 h2).1
    rwa [Array.length_toList] at this
  exact h o h3 h2
set_option maxHeartbeats 1000000 in
theorem l1Stands_any {s : ByteArray} {b : UInt8} {w : World} (hs : s.size ≤ 1048576) :
    Calls Tryd.prog 27 #[.string s, .int .u8 b.toNat] w fun e w' => e = .returned (.bool (hasB s b)) ∧ Below w.heap.size w w' := by
  go_enter Tryd.func27, Tryd.ntmps27
  go_wp2
  go_loopw [5] (fun i wr => ∃ k : Nat, k ≤ s.size ∧ i = .int .i64 k ∧ Hid (∀ j : Nat, j < k → s.data.toList[j]? ≠ some b) ∧ Below w.heap.size w wr) (fun i _ => s.size - (intOf i).toNat)
  case atStart => exact ⟨0, Nat.zero_le _, rfl, (show ∀ j : Nat, j < 0 → _ from fun j h => absurd h (by omega)), (by repeat (first | exact Below.refl _ _ | refine below_drewN ?_ _ | refine Below.drew ?_ | refine Below.alloc ?_ (by first | omega | (simp; done) | (simp; omega)) _ | refine Below.setCell ?_ (by first | omega | (simp; done) | (simp; omega)) _))⟩
  case round =>
    obtain ⟨k, hk, rfl, HN, G⟩ := hrel
    by_cases hlt : k < s.size
    · have HB := Lib.hid (byte_at s k hlt)
      by_cases he : s[k] = b
      · have hbe : ((s[k].toNat : Int) == (b.toNat : Int)) = true := by rw [he]; simp
        have HY : Hid (hasB s b = true) := (hasB_yes (k := k) (by rw [HB.out, he]) : _ = _)
        go_wp2_with fail
        go_ret
        exact ⟨by rw [HY.out]; rfl, G⟩
      · have hbe : ((s[k].toNat : Int) == (b.toNat : Int)) = false := by
          rw [beq_eq_false_iff_ne]; intro h; exact he (UInt8.toNat_inj.1 (by omega))
        have HM : Hid (∀ j : Nat, j < k + 1 → s.data.toList[j]? ≠ some b) := (show ∀ j : Nat, j < k + 1 → _ from fun j hj => by
          rcases Nat.lt_succ_iff_lt_or_eq.1 hj with h | rfl
          · exact HN.out j h
          · rw [HB.out]; intro e; exact he (by injection e))
        clear HN HB he
        go_wp2_with fail
        go_roundw
        case rel => exact ⟨k + 1, by omega, by go_num, HM, G⟩
        case measure => simp [intOf]; omega
    · have hks : k = s.size := by omega
      have HY : Hid (hasB s b = false) := (hasB_no (fun j hj => HN.out j (by omega)) : _ = _)
      go_wp2_with fail
      go_ret
      exact ⟨by rw [HY.out]; rfl, G⟩
def sealB (s : ByteArray) : ByteArray := s ++ (⟨#[35]⟩ : ByteArray) ++ itoaB (ck s.data.toList)
theorem sealB_size (s : ByteArray) : (sealB s).size ≤ s.size + 22 := by
  have h1 := ck_bd s.data.toList
  have h2 := itoaB_size (n := ck s.data.toList) (by omega) (by omega)
  unfold sealB
  rw [ByteArray.size_append, ByteArray.size_append]
  show s.size + 1 + _ ≤ _
  omega
theorem ckI_size (s : ByteArray) : (itoaB (ck s.data.toList)).size ≤ 21 := by
  have h1 := ck_bd s.data.toList
  exact itoaB_size (n := ck s.data.toList) (by omega) (by omega)
theorem hash_size : (⟨#[35]⟩ : ByteArray).size = 1 := rfl
theorem l1Seal_any {s : ByteArray} {w : World} (hs : s.size ≤ 1048576) :
    Calls Tryd.prog 28 #[.string s] w fun e w' => e = .returned (.string (sealB s)) ∧ Below w.heap.size w w' := by
  have hb := ck_bd s.data.toList
  have hi := ckI_size s
  have hz := hash_size
  have HV : Hid (sealB s = s ++ (⟨#[35]⟩ : ByteArray) ++ itoaB (ck s.data.toList)) := (rfl : sealB s = _)
  generalize hck : ck s.data.toList = x at *
  have HC := Lib.hid hck
  clear hck
  have hs1 : ¬ 9223372036854775807 < s.size + 1 := by omega
  have hs2 : ¬ 9223372036854775807 < s.size + 1 + (itoaB x).size := by omega
  go_enter Tryd.func28, Tryd.ntmps28
  go_wp2_with fail
  refine (l1Sum_any s w (by simp only [maxLen]; omega)).mono ?_
  rintro e w1 ⟨rfl, rfl⟩
  rw [HC.out]
  go_wp2_with fail
  refine (l1Num_any (by omega) (by omega)).mono ?_
  rintro e w1 ⟨rfl, hb1⟩
  go_wp2_with fail
  go_ret
  exact ⟨by rw [HV.out]; rfl, hb1⟩
/-- Which texts AppendChecksum takes. -/
def acOk (s : ByteArray) : Bool := decide (s.size ≤ 4000) && (!hasB s 35 && decide ((sealB s).size ≤ 4000))
def acV (s : ByteArray) : ByteArray := if acOk s = true then sealB s else ⟨#[]⟩
theorem AppendChecksum_spec {s : ByteArray} {w : World} (hs : s.size ≤ 1048576) :
    Calls Tryd.prog 12 #[.string s] w fun e w' => e = .returned (.tuple #[.string (acV s), .bool (acOk s)]) ∧ Below w.heap.size w w' := by
  have HZ := Lib.hid (sealB_size s)
  by_cases h1 : 4000 < s.size
  · have e1 : acOk s = false := by unfold acOk; rw [decide_eq_false (by omega)]; rfl
    have e2 : acV s = ⟨#[]⟩ := by unfold acV; rw [e1]; rfl
    rw [e1, e2]; clear e1 e2
    go_enter Tryd.func12, Tryd.ntmps12
    go_wp2_with fail
    go_ret2
    exact ⟨rfl, Below.refl _ _⟩
  · cases h2 : hasB s 35
    · by_cases h3 : 4000 < (sealB s).size
      · have e1 : acOk s = false := by unfold acOk; rw [decide_eq_false (p := (sealB s).size ≤ 4000) (by omega)]; simp
        have e2 : acV s = ⟨#[]⟩ := by unfold acV; rw [e1]; rfl
        have HH := Lib.hid h2
        rw [e1, e2]; clear e1 e2 h2
        go_enter Tryd.func12, Tryd.ntmps12
        go_wp2_with fail
        refine (l1Stands_any (b := 35) hs).mono ?_
        rintro e w1 ⟨rfl, hb1⟩
        rw [HH.out]
        go_wp2_with fail
        refine (l1Seal_any hs).mono ?_
        rintro e w2 ⟨rfl, hb2⟩
        have G := hb1.trans (hb2.mono hb1.size)
        have hz := HZ.out
        clear hb1 hb2
        go_wp2_with fail
        go_ret2
        exact ⟨rfl, G⟩
      · have e1 : acOk s = true := by unfold acOk; rw [h2, decide_eq_true (p := (sealB s).size ≤ 4000) (by omega), decide_eq_true (by omega)]; rfl
        have e2 : acV s = sealB s := by unfold acV; rw [if_pos e1]
        have HH := Lib.hid h2
        rw [e1, e2]; clear e1 e2 h2
        go_enter Tryd.func12, Tryd.ntmps12
        go_wp2_with fail
        refine (l1Stands_any (b := 35) hs).mono ?_
        rintro e w1 ⟨rfl, hb1⟩
        rw [HH.out]
        go_wp2_with fail
        refine (l1Seal_any hs).mono ?_
        rintro e w2 ⟨rfl, hb2⟩
        have G := hb1.trans (hb2.mono hb1.size)
        have hz := HZ.out
        clear hb1 hb2
        go_wp2_with fail
        refine (l1Seal_any hs).mono ?_
        rintro e w2 ⟨rfl, hb2⟩
        replace G := G.trans (hb2.mono G.size)
        clear hb2
        go_wp2_with fail
        go_ret2
        exact ⟨rfl, G⟩
    · have e1 : acOk s = false := by unfold acOk; rw [h2]; simp
      have e2 : acV s = ⟨#[]⟩ := by unfold acV; rw [e1]; rfl
      have HH := Lib.hid h2
      rw [e1, e2]; clear e1 e2 h2
      go_enter Tryd.func12, Tryd.ntmps12
      go_wp2_with fail
      refine (l1Stands_any (b := 35) hs).mono ?_
      rintro e w1 ⟨rfl, hb1⟩
      rw [HH.out]
      go_wp2_with fail
      go_ret2
      exact ⟨rfl, hb1⟩
theorem AppendChecksum_impl {s : ByteArray} {w : World} (hs : s.size ≤ 1048576) (T : Tab w) :
    Calls Tryd.prog 13 #[.string s] w fun e w' => e = .returned (.tuple #[.string (acV s), .bool (acOk s)]) ∧ Below w.heap.size w w' := by
  have HZ := Lib.hid (sealB_size s)
  have hb := ck_bd s.data.toList
  have hi := ckI_size s
  have hz := hash_size
  have HV : Hid (sealB s = s ++ (⟨#[35]⟩ : ByteArray) ++ itoaB (ck s.data.toList)) := (rfl : sealB s = _)
  by_cases h1 : 4000 < s.size
  · have e1 : acOk s = false := by unfold acOk; rw [decide_eq_false (by omega)]; rfl
    have e2 : acV s = ⟨#[]⟩ := by unfold acV; rw [e1]; rfl
    rw [e1, e2]; clear e1 e2
    go_enter Tryd.func13, Tryd.ntmps13
    go_wp2_with fail
    go_ret2
    exact ⟨rfl, Below.refl _ _⟩
  · generalize hck : ck s.data.toList = x at *
    have HC := Lib.hid hck
    clear hck
    have hs1 : ¬ 9223372036854775807 < s.size + 1 := by omega
    have hs2 : ¬ 9223372036854775807 < s.size + 1 + (itoaB x).size := by omega
    have HCO := Tryd.strings_Contains_one s 35 w
    cases h2 : hasB s 35
    · have HH : decide (0 ≤ Lib.indexByte s.data.toList 35) = false := h2
      rw [HH] at HCO
      have HSZ : Hid ((sealB s).size = s.size + 1 + (itoaB x).size) := (by rw [HV.out, ByteArray.size_append, ByteArray.size_append]; rfl : (sealB s).size = _)
      by_cases h3 : 4000 < s.size + 1 + (itoaB x).size
      · have e1 : acOk s = false := by unfold acOk; rw [decide_eq_false (p := (sealB s).size ≤ 4000) (by rw [HSZ.out]; omega)]; simp
        have e2 : acV s = ⟨#[]⟩ := by unfold acV; rw [e1]; rfl
        rw [e1, e2]; clear e1 e2 h2 HH
        go_enter Tryd.func13, Tryd.ntmps13
        go_wp2_with fail
        refine HCO.mono ?_
        rintro e w1 ⟨rfl, rfl⟩
        clear HCO
        go_wp2_with fail
        refine (checksum_any s _ (by simp only [maxLen]; omega)).mono ?_
        rintro e w1 ⟨rfl, rfl⟩
        rw [HC.out]
        go_wp2_with fail
        refine (Itoa_any (by omega) (by omega) T).mono ?_
        rintro e w1 ⟨rfl, hb1⟩
        go_wp2_with fail
        go_ret2
        exact ⟨rfl, hb1⟩
      · have e1 : acOk s = true := by unfold acOk; rw [h2, decide_eq_true (p := (sealB s).size ≤ 4000) (by rw [HSZ.out]; omega), decide_eq_true (by omega)]; rfl
        have e2 : acV s = s ++ (⟨#[35]⟩ : ByteArray) ++ itoaB x := by unfold acV; rw [if_pos e1, HV.out]
        rw [e1, e2]; clear e1 e2 h2 HH
        go_enter Tryd.func13, Tryd.ntmps13
        go_wp2_with fail
        refine HCO.mono ?_
        rintro e w1 ⟨rfl, rfl⟩
        clear HCO
        go_wp2_with fail
        refine (checksum_any s _ (by simp only [maxLen]; omega)).mono ?_
        rintro e w1 ⟨rfl, rfl⟩
        rw [HC.out]
        go_wp2_with fail
        refine (Itoa_any (by omega) (by omega) T).mono ?_
        rintro e w1 ⟨rfl, hb1⟩
        go_wp2_with fail
        go_ret2
        exact ⟨rfl, hb1⟩
    · have HH : decide (0 ≤ Lib.indexByte s.data.toList 35) = true := h2
      rw [HH] at HCO
      have e1 : acOk s = false := by unfold acOk; rw [h2]; simp
      have e2 : acV s = ⟨#[]⟩ := by unfold acV; rw [e1]; rfl
      rw [e1, e2]; clear e1 e2 h2 HH
      go_enter Tryd.func13, Tryd.ntmps13
      go_wp2_with fail
      refine HCO.mono ?_
      rintro e w1 ⟨rfl, rfl⟩
      clear HCO
      go_wp2_with fail
      go_ret2
      exact ⟨rfl, Below.refl _ _⟩
theorem law_AppendChecksum (w : World) {s : ByteArray} (hs : s.size ≤ maxLen) (T : Tab w) :
    Calls Tryd.prog 5 #[.string s] w fun e w' => e = .returned (.bool true) ∧ Below w.heap.size w w' := by
  unfold maxLen at hs
  by_cases hbig : 1048576 < s.size
  · go_enter Tryd.func5, Tryd.ntmps5
    go_wp2_with fail
    go_ret
    exact ⟨rfl, Below.refl _ _⟩
  · have h1 : ((acV s).toList != (acV s).toList) = false := by simp
    have h2 : (acOk s != acOk s) = false := by simp
    generalize hv : acV s = v at *
    go_enter Tryd.func5, Tryd.ntmps5
    go_wp2_with fail
    refine (AppendChecksum_spec (by omega)).mono ?_
    rintro e w1 ⟨rfl, hb⟩
    rw [hv]
    go_wp2_with fail
    refine (AppendChecksum_impl (by omega) (T.on hb)).mono ?_
    rintro e w2 ⟨rfl, hb2⟩
    rw [hv]
    go_wp2_with fail
    go_ret
    exact ⟨rfl, hb.trans (hb2.mono hb.size)⟩
end Go.Proofs.YtomdknmgadebhaaDoor
