/- Contracts: AppendChecksum and VerifyChecksum, the program's and the reference's. -/
import Derived.Test.YtmmpcchjalgokaaDoorFmt
import Derived.Test.YtmmpcchjalgokaaDoorA
import Derived.Test.YtmmpcchjalgokaaDoorHas
namespace Go.Proofs.YtmmpcchjalgokaaDoor
set_option linter.unusedVariables false
set_option linter.unusedSimpArgs false
open Go.RowKit
def sealB (s : ByteArray) : ByteArray := s ++ (⟨#[35]⟩ : ByteArray) ++ itoaB (ck s.data.toList)
theorem sealB_size (s : ByteArray) : (sealB s).size ≤ s.size + 22 := by
  have h1 := ck_bd s.data.toList
  have h2 := itoaB_size (n := ck s.data.toList) (by omega) (by omega)
  unfold sealB
  rw [ByteArray.size_append, ByteArray.size_append]
  show s.size + 1 + _ ≤ _
  omega
theorem ckI_size (s : ByteArray) : (itoaB (ck s.data.toList)).size ≤ 21 := by
  have h1 := ck_bd s.data.toList
  exact itoaB_size (n := ck s.data.toList) (by omega) (by omega)
theorem hash_size : (⟨#[35]⟩ : ByteArray).size = 1 := rfl
theorem l1Seal_any {s : ByteArray} {w : World} (hs : s.size ≤ 1048576) :
    Calls Tryd.prog 99 #[.string s] w fun e w' => e = .returned (.string (sealB s)) ∧ Below w.heap.size w w' := by
  have hb := ck_bd s.data.toList
  have hi := ckI_size s
  have hz := hash_size
  have HV : Hid (sealB s = s ++ (⟨#[35]⟩ : ByteArray) ++ itoaB (ck s.data.toList)) := (rfl : sealB s = _)
  generalize hck : ck s.data.toList = x at *
  have HC := Lib.hid hck
  clear hck
  have hs1 : ¬ 9223372036854775807 < s.size + 1 := by omega
  have hs2 : ¬ 9223372036854775807 < s.size + 1 + (itoaB x).size := by omega
  go_enter Tryd.func99, Tryd.ntmps99
  go_wp2_with fail
  refine (l1Sum_any s w (by simp only [maxLen]; omega)).mono ?_
  rintro e w1 ⟨rfl, rfl⟩
  rw [HC.out]
  go_wp2_with fail
  refine (l1Num_any (by omega) (by omega)).mono ?_
  rintro e w1 ⟨rfl, hb1⟩
  go_wp2_with fail
  go_ret
  exact ⟨by rw [HV.out]; rfl, hb1⟩
/-- Which texts AppendChecksum takes. -/
def acOk (s : ByteArray) : Bool := decide (s.size ≤ 4000) && (!hasB s 35 && decide ((sealB s).size ≤ 4000))
def acV (s : ByteArray) : ByteArray := if acOk s = true then sealB s else ⟨#[]⟩
theorem AppendChecksum_spec {s : ByteArray} {w : World} (hs : s.size ≤ 1048576) :
    Calls Tryd.prog 41 #[.string s] w fun e w' => e = .returned (.tuple #[.string (acV s), .bool (acOk s)]) ∧ Below w.heap.size w w' := by
  have HZ := Lib.hid (sealB_size s)
  by_cases h1 : 4000 < s.size
  · have e1 : acOk s = false := by unfold acOk; rw [decide_eq_false (by omega)]; rfl
    have e2 : acV s = ⟨#[]⟩ := by unfold acV; rw [e1]; rfl
    rw [e1, e2]; clear e1 e2
    go_enter Tryd.func41, Tryd.ntmps41
    go_wp2_with fail
    go_ret2
    exact ⟨rfl, Below.refl _ _⟩
  · cases h2 : hasB s 35
    · by_cases h3 : 4000 < (sealB s).size
      · have e1 : acOk s = false := by unfold acOk; rw [decide_eq_false (p := (sealB s).size ≤ 4000) (by omega)]; simp
        have e2 : acV s = ⟨#[]⟩ := by unfold acV; rw [e1]; rfl
        have HH := Lib.hid h2
        rw [e1, e2]; clear e1 e2 h2
        go_enter Tryd.func41, Tryd.ntmps41
        go_wp2_with fail
        refine (l1Stands_any (b := 35) hs).mono ?_
        rintro e w1 ⟨rfl, hb1⟩
        rw [HH.out]
        go_wp2_with fail
        refine (l1Seal_any hs).mono ?_
        rintro e w2 ⟨rfl, hb2⟩
        have G := hb1.trans (hb2.mono hb1.size)
        have hz := HZ.out
        clear hb1 hb2
        go_wp2_with fail
        go_ret2
        exact ⟨rfl, G⟩
      · have e1 : acOk s = true := by unfold acOk; rw [h2, decide_eq_true (p := (sealB s).size ≤ 4000) (by omega), decide_eq_true (by omega)]; rfl
        have e2 : acV s = sealB s := by unfold acV; rw [if_pos e1]
        have HH := Lib.hid h2
        rw [e1, e2]; clear e1 e2 h2
        go_enter Tryd.func41, Tryd.ntmps41
        go_wp2_with fail
        refine (l1Stands_any (b := 35) hs).mono ?_
        rintro e w1 ⟨rfl, hb1⟩
        rw [HH.out]
        go_wp2_with fail
        refine (l1Seal_any hs).mono ?_
        rintro e w2 ⟨rfl, hb2⟩
        have G := hb1.trans (hb2.mono hb1.size)
        have hz := HZ.out
        clear hb1 hb2
        go_wp2_with fail
        refine (l1Seal_any hs).mono ?_
        rintro e w2 ⟨rfl, hb2⟩
        replace G := G.trans (hb2.mono G.size)
        clear hb2
        go_wp2_with fail
        go_ret2
        exact ⟨rfl, G⟩
    · have e1 : acOk s = false := by unfold acOk; rw [h2]; simp
      have e2 : acV s = ⟨#[]⟩ := by unfold acV; rw [e1]; rfl
      have HH := Lib.hid h2
      rw [e1, e2]; clear e1 e2 h2
      go_enter Tryd.func41, Tryd.ntmps41
      go_wp2_with fail
      refine (l1Stands_any (b := 35) hs).mono ?_
      rintro e w1 ⟨rfl, hb1⟩
      rw [HH.out]
      go_wp2_with fail
      go_ret2
      exact ⟨rfl, hb1⟩
theorem AppendChecksum_impl {s : ByteArray} {w : World} (hs : s.size ≤ 1048576) (T : Tab w) :
    Calls Tryd.prog 40 #[.string s] w fun e w' => e = .returned (.tuple #[.string (acV s), .bool (acOk s)]) ∧ Below w.heap.size w w' := by
  have HZ := Lib.hid (sealB_size s)
  have hb := ck_bd s.data.toList
  have hi := ckI_size s
  have hz := hash_size
  have HV : Hid (sealB s = s ++ (⟨#[35]⟩ : ByteArray) ++ itoaB (ck s.data.toList)) := (rfl : sealB s = _)
  by_cases h1 : 4000 < s.size
  · have e1 : acOk s = false := by unfold acOk; rw [decide_eq_false (by omega)]; rfl
    have e2 : acV s = ⟨#[]⟩ := by unfold acV; rw [e1]; rfl
    rw [e1, e2]; clear e1 e2
    go_enter Tryd.func40, Tryd.ntmps40
    go_wp2_with fail
    go_ret2
    exact ⟨rfl, Below.refl _ _⟩
  · generalize hck : ck s.data.toList = x at *
    have HC := Lib.hid hck
    clear hck
    have hs1 : ¬ 9223372036854775807 < s.size + 1 := by omega
    have hs2 : ¬ 9223372036854775807 < s.size + 1 + (itoaB x).size := by omega
    have HCO := Tryd.strings_Contains_one s 35 w
    cases h2 : hasB s 35
    · have HH : decide (0 ≤ Lib.indexByte s.data.toList 35) = false := h2
      rw [HH] at HCO
      have HSZ : Hid ((sealB s).size = s.size + 1 + (itoaB x).size) := (by rw [HV.out, ByteArray.size_append, ByteArray.size_append]; rfl : (sealB s).size = _)
      by_cases h3 : 4000 < s.size + 1 + (itoaB x).size
      · have e1 : acOk s = false := by unfold acOk; rw [decide_eq_false (p := (sealB s).size ≤ 4000) (by rw [HSZ.out]; omega)]; simp
        have e2 : acV s = ⟨#[]⟩ := by unfold acV; rw [e1]; rfl
        rw [e1, e2]; clear e1 e2 h2 HH
        go_enter Tryd.func40, Tryd.ntmps40
        go_wp2_with fail
        refine HCO.mono ?_
        rintro e w1 ⟨rfl, rfl⟩
        clear HCO
        go_wp2_with fail
        refine (checksum_any s _ (by simp only [maxLen]; omega)).mono ?_
        rintro e w1 ⟨rfl, rfl⟩
        rw [HC.out]
        go_wp2_with fail
        refine (Itoa_any (by omega) (by omega) T).mono ?_
        rintro e w1 ⟨rfl, hb1⟩
        go_wp2_with fail
        go_ret2
        exact ⟨rfl, hb1⟩
      · have e1 : acOk s = true := by unfold acOk; rw [h2, decide_eq_true (p := (sealB s).size ≤ 4000) (by rw [HSZ.out]; omega), decide_eq_true (by omega)]; rfl
        have e2 : acV s = s ++ (⟨#[35]⟩ : ByteArray) ++ itoaB x := by unfold acV; rw [if_pos e1, HV.out]
        rw [e1, e2]; clear e1 e2 h2 HH
        go_enter Tryd.func40, Tryd.ntmps40
        go_wp2_with fail
        refine HCO.mono ?_
        rintro e w1 ⟨rfl, rfl⟩
        clear HCO
        go_wp2_with fail
        refine (checksum_any s _ (by simp only [maxLen]; omega)).mono ?_
        rintro e w1 ⟨rfl, rfl⟩
        rw [HC.out]
        go_wp2_with fail
        refine (Itoa_any (by omega) (by omega) T).mono ?_
        rintro e w1 ⟨rfl, hb1⟩
        go_wp2_with fail
        go_ret2
        exact ⟨rfl, hb1⟩
    · have HH : decide (0 ≤ Lib.indexByte s.data.toList 35) = true := h2
      rw [HH] at HCO
      have e1 : acOk s = false := by unfold acOk; rw [h2]; simp
      have e2 : acV s = ⟨#[]⟩ := by unfold acV; rw [e1]; rfl
      rw [e1, e2]; clear e1 e2 h2 HH
      go_enter Tryd.func40, Tryd.ntmps40
      go_wp2_with fail
      refine HCO.mono ?_
      rintro e w1 ⟨rfl, rfl⟩
      clear HCO
      go_wp2_with fail
      go_ret2
      exact ⟨rfl, Below.refl _ _⟩
end Go.Proofs.YtmmpcchjalgokaaDoor
