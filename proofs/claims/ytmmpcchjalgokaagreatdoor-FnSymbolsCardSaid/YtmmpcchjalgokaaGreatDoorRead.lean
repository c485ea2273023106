/- Plain laws: the number that a text is. -/
import Derived.Test.YtmmpcchjalgokaaGreatDoorFmt
import Derived.Test.YtmmpcchjalgokaaGreatDoorSplit
import Derived.Lib.Atoi
import Derived.Lib.AtoiTie
namespace Go.Proofs.YtmmpcchjalgokaaGreatDoor
set_option linter.unusedVariables false
set_option linter.unusedSimpArgs false
open Go.RowKit
open Go.Lib (decFrom decDigits digitVal decNat)
theorem decFrom_append (l m : List UInt8) : ∀ acc : Nat, decFrom acc (l ++ m) = (decFrom acc l).bind fun n => decFrom n m := by
  induction l with
  | nil => intro acc; rfl
  | cons b l ih =>
    intro acc
    show (match digitVal b with | some d => decFrom (acc * 10 + d) (l ++ m) | none => none) = _
    cases h : digitVal b with
    | none => simp [decFrom, h]
    | some d => simp only [decFrom, h]; exact ih _
theorem digitVal_dig {d : Nat} (h : d < 10) : digitVal (UInt8.ofNat (48 + d)) = some d := by
  have e : (UInt8.ofNat (48 + d)).toNat = 48 + d := by simp; omega
  unfold digitVal
  rw [e, if_pos (by omega)]
  simp
theorem decFrom_digits (u : Nat) : decFrom 0 (decDigits u) = some u := by
  induction u using Nat.strongRecOn with
  | _ u ih =>
    by_cases h : u < 10
    · rw [decDigits, dif_pos h]
      simp only [decFrom, digitVal_dig h]
      simp
    · rw [decDigits, dif_neg h, decFrom_append, ih (u / 10) (by omega)]
      show decFrom (u / 10) [_] = _
      simp only [decFrom, digitVal_dig (show u % 10 < 10 by omega)]
      congr 1
      omega
theorem digits_len : ∀ (k u : Nat), u < 10 ^ (k + 1) → (decDigits u).length ≤ k + 1
  | 0, u, h => by rw [decDigits, dif_pos (by simpa using h)]; simp
  | k + 1, u, h => by
    by_cases h1 : u < 10
    · rw [decDigits, dif_pos h1]; simp
    · rw [decDigits, dif_neg h1, List.length_append]
      have := digits_len k (u / 10) (by rw [Nat.pow_succ] at h; omega)
      simp; omega
theorem digits_byte (u : Nat) : ∀ b ∈ decDigits u, 48 ≤ b.toNat ∧ b.toNat ≤ 57 := by
  induction u using Nat.strongRecOn with
  | _ u ih =>
    intro b hb
    by_cases h : u < 10
    · rw [decDigits, dif_pos h] at hb
      have : b = UInt8.ofNat (48 + u) := by simpa using hb
      subst this
      have e : (UInt8.ofNat (48 + u)).toNat = 48 + u := by simp; omega
      omega
    · rw [decDigits, dif_neg h, List.mem_append] at hb
      rcases hb with hb | hb
      · exact ih (u / 10) (by omega) b hb
      · have : b = UInt8.ofNat (48 + u % 10) := by simpa using hb
        subst this
        have e : (UInt8.ofNat (48 + u % 10)).toNat = 48 + u % 10 := by simp; omega
        omega
theorem digits_ne (u : Nat) : ∃ b r, decDigits u = b :: r := by
  cases h : decDigits u with
  | nil =>
    exfalso
    by_cases h1 : u < 10
    · rw [decDigits, dif_pos h1] at h; cases h
    · rw [decDigits, dif_neg h1] at h; simp at h
  | cons b r => exact ⟨b, r, rfl⟩
theorem decFrom_lt : ∀ (l : List UInt8) (acc n : Nat), decFrom acc l = some n → n < (acc + 1) * 10 ^ l.length
  | [], acc, n, h => by
    have : acc = n := by simpa [decFrom] using h
    subst this; simp
  | b :: l, acc, n, h => by
    cases hb : digitVal b with
    | none => simp [decFrom, hb] at h
    | some d =>
      simp only [decFrom, hb] at h
      have h1 := decFrom_lt l _ _ h
      have hd : d ≤ 9 := by
        unfold digitVal at hb
        split at hb
        · injection hb; omega
        · cases hb
      have h2 : (acc * 10 + d + 1) * 10 ^ l.length ≤ (acc + 1) * 10 * 10 ^ l.length := Nat.mul_le_mul_right _ (by omega)
      rw [List.length_cons, Nat.pow_succ, Nat.mul_comm (10 ^ l.length) 10, ← Nat.mul_assoc]
      omega
theorem decFrom_bad : ∀ (l : List UInt8) (acc k : Nat) (b : UInt8), l[k]? = some b → digitVal b = none → decFrom acc l = none
  | [], acc, k, b, h, _ => by simp at h
  | c :: l, acc, 0, b, h, hb => by
    have : c = b := by simpa using h
    subst this
    simp [decFrom, hb]
  | c :: l, acc, k + 1, b, h, hb => by
    cases hc : digitVal c with
    | none => simp [decFrom, hc]
    | some d =>
      simp only [decFrom, hc]
      exact decFrom_bad l _ k b (by simpa using h) hb
def rdNeg (s : ByteArray) : Bool := decide (1 < s.size) && decide (s.data.toList[0]? = some 45)
def rdT (s : ByteArray) : ByteArray := if rdNeg s = true then s.extract 1 s.size else s
def rdM (s : ByteArray) : Option Nat := if 1 ≤ (rdT s).size ∧ (rdT s).size ≤ 6 then decFrom 0 (rdT s).data.toList else none
def rdZ (s : ByteArray) (m : Nat) : Int := if rdNeg s = true then -(m : Int) else m
def rdOk (s : ByteArray) : Bool := match rdM s with
  | none => false
  | some m => decide (itoaB (rdZ s m) = s)
def rdV (s : ByteArray) : Int := match rdM s with
  | none => 0
  | some m => if itoaB (rdZ s m) = s then rdZ s m else 0
theorem rd_none {s : ByteArray} (h : rdM s = none) : rdOk s = false ∧ rdV s = 0 := by
  unfold rdOk rdV; rw [h]; exact ⟨rfl, rfl⟩
theorem rd_some {s : ByteArray} {m : Nat} (h : rdM s = some m) (h2 : itoaB (rdZ s m) = s) : rdOk s = true ∧ rdV s = rdZ s m := by
  unfold rdOk rdV; rw [h]; simp only [h2]; simp
theorem rd_not {s : ByteArray} {m : Nat} (h : rdM s = some m) (h2 : itoaB (rdZ s m) ≠ s) : rdOk s = false ∧ rdV s = 0 := by
  unfold rdOk rdV; rw [h]; simp [h2]
theorem rdM_lt {s : ByteArray} {m : Nat} (h : rdM s = some m) : m ≤ 999999 := by
  unfold rdM at h
  split at h
  · next hs =>
    have h1 := decFrom_lt _ _ _ h
    have h2 : (rdT s).data.toList.length ≤ 6 := by rw [Array.length_toList]; exact hs.2
    have h3 : 10 ^ (rdT s).data.toList.length ≤ 10 ^ 6 := Nat.pow_le_pow_right (by decide) h2
    omega
  · cases h
theorem rd_true {s : ByteArray} (h : rdOk s = true) : itoaB (rdV s) = s ∧ -999999 ≤ rdV s ∧ rdV s ≤ 999999 := by
  cases hm : rdM s with
  | none => rw [(rd_none hm).1] at h; cases h
  | some m =>
    have hl := rdM_lt hm
    by_cases h2 : itoaB (rdZ s m) = s
    · rw [(rd_some hm h2).2]
      refine ⟨h2, ?_⟩
      unfold rdZ
      split <;> omega
    · rw [(rd_not hm h2).1] at h; cases h
theorem itoa_list (z : Int) : (itoaB z).data.toList = Lib.itoa z := by simp [itoaB]
theorem atoi_itoa (z : Int) : Lib.atoi (Lib.itoa z) = some z := by
  by_cases hz : 0 ≤ z
  · obtain ⟨u, rfl⟩ := Int.eq_ofNat_of_zero_le hz
    rw [Lib.itoa_nonneg]
    obtain ⟨b, r, e⟩ := digits_ne u
    have hb := digits_byte u b (by rw [e]; exact List.mem_cons_self ..)
    have hd := decFrom_digits u
    rw [e] at hd ⊢
    have n1 : (b == 45) = false := by
      rw [beq_eq_false_iff_ne]; intro h; subst h; simp at hb
    have n2 : (b == 43) = false := by
      rw [beq_eq_false_iff_ne]; intro h; subst h; simp at hb
    simp only [Lib.atoi, n1, n2, decNat, hd]
    simp
  · obtain ⟨u, hu⟩ := Int.eq_ofNat_of_zero_le (show 0 ≤ -z by omega)
    obtain rfl : z = -(u : Int) := by omega
    rw [Lib.itoa_neg u (by omega)]
    obtain ⟨b, r, e⟩ := digits_ne u
    have hd := decFrom_digits u
    rw [e] at hd ⊢
    simp only [Lib.atoi, decNat, hd]
    simp
theorem rd_itoa {z : Int} (h0 : -999999 ≤ z) (h1 : z ≤ 999999) : rdOk (itoaB z) = true ∧ rdV (itoaB z) = z := by
  by_cases hz : 0 ≤ z
  · obtain ⟨u, rfl⟩ := Int.eq_ofNat_of_zero_le hz
    have hl := itoa_list (u : Int)
    rw [Lib.itoa_nonneg] at hl
    obtain ⟨b, r, e⟩ := digits_ne u
    have hb := digits_byte u b (by rw [e]; exact List.mem_cons_self ..)
    have hn : rdNeg (itoaB (u : Int)) = false := by
      unfold rdNeg
      rw [hl, e]
      have : decide ((b :: r)[0]? = some (45 : UInt8)) = false := by
        rw [decide_eq_false_iff_not]
        intro h
        have : b = 45 := by simpa using h
        subst this; simp at hb
      rw [this]; simp
    have hT : rdT (itoaB (u : Int)) = itoaB (u : Int) := by unfold rdT; rw [hn]; rfl
    have hZ : ∀ m, rdZ (itoaB (u : Int)) m = m := fun m => by unfold rdZ; rw [hn]; rfl
    have hlen := digits_len 5 u (by omega)
    have hsz : (itoaB (u : Int)).size = (decDigits u).length := by rw [← hl, Array.length_toList]; rfl
    have hM : rdM (itoaB (u : Int)) = some u := by
      unfold rdM
      rw [hT, hsz, if_pos ⟨by rw [e]; simp, hlen⟩, hl, decFrom_digits]
    have := rd_some hM (by rw [hZ])
    rw [hZ] at this
    exact this
  · obtain ⟨u, hu⟩ := Int.eq_ofNat_of_zero_le (show 0 ≤ -z by omega)
    obtain rfl : z = -(u : Int) := by omega
    have hl := itoa_list (-(u : Int))
    rw [Lib.itoa_neg u (by omega)] at hl
    obtain ⟨b, r, e⟩ := digits_ne u
    have hlen := digits_len 5 u (by omega)
    have hsz : (itoaB (-(u : Int))).size = (decDigits u).length + 1 := by rw [← List.length_cons (a := 45), ← hl, Array.length_toList]; rfl
    have hn : rdNeg (itoaB (-(u : Int))) = true := by
      unfold rdNeg
      rw [hl, hsz, e]
      simp
    have hT : (rdT (itoaB (-(u : Int)))).data.toList = decDigits u := by
      unfold rdT
      rw [if_pos hn]
      have : ((itoaB (-(u : Int))).extract 1 (itoaB (-(u : Int))).size).data.toList = (itoaB (-(u : Int))).data.toList.drop 1 := by
        simp
        rw [hl, hsz]
        simp
      rw [this, hl]
      rfl
    have hTs : (rdT (itoaB (-(u : Int)))).size = (decDigits u).length := by rw [← hT, Array.length_toList]; rfl
    have hZ : ∀ m : Nat, rdZ (itoaB (-(u : Int))) m = -(m : Int) := fun m => by unfold rdZ; rw [if_pos hn]
    have hM : rdM (itoaB (-(u : Int))) = some u := by
      unfold rdM
      rw [hTs, if_pos ⟨by rw [e]; simp, hlen⟩, hT, decFrom_digits]
    have := rd_some hM (by rw [hZ])
    rw [hZ] at this
    exact this
theorem rd_iff {s : ByteArray} {v : Int} (h : Lib.atoi s.data.toList = some v) : rdOk s = (insideB v (-999999) 999999 && decide (itoaB v = s)) := by
  cases hr : rdOk s
  · symm
    rw [Bool.and_eq_false_iff]
    by_cases hi : insideB v (-999999) 999999 = true
    · right
      rw [decide_eq_false_iff_not]
      intro e
      have hb := insideB_iff.1 hi
      have := (rd_itoa hb.1 hb.2).1
      rw [e, hr] at this
      cases this
    · left; simpa using hi
  · obtain ⟨e, b0, b1⟩ := rd_true hr
    have h2 := atoi_itoa (rdV s)
    rw [← itoa_list, e, h] at h2
    have : v = rdV s := by injection h2
    subst this
    rw [insideB_iff.2 ⟨b0, b1⟩, e]
    simp
theorem rd_val {s : ByteArray} {v : Int} (h : Lib.atoi s.data.toList = some v) (hr : rdOk s = true) : rdV s = v := by
  obtain ⟨e, b0, b1⟩ := rd_true hr
  have h2 := atoi_itoa (rdV s)
  rw [← itoa_list, e, h] at h2
  injection h2 with h3
  exact h3.symm
theorem rd_noatoi {s : ByteArray} (h : Lib.atoi s.data.toList = none) : rdOk s = false := by
  cases hr : rdOk s
  · rfl
  · obtain ⟨e, b0, b1⟩ := rd_true hr
    have h2 := atoi_itoa (rdV s)
    rw [← itoa_list, e, h] at h2
    cases h2
theorem rd_val0 {s : ByteArray} (h : rdOk s = false) : rdV s = 0 := by
  cases hm : rdM s with
  | none => exact (rd_none hm).2
  | some m =>
    by_cases h2 : itoaB (rdZ s m) = s
    · rw [(rd_some hm h2).1] at h; cases h
    · exact (rd_not hm h2).2
theorem rd_long {s : ByteArray} (h : 7 < s.size) : rdOk s = false := by
  refine (rd_none ?_).1
  unfold rdM
  rw [if_neg]
  intro hs
  have : s.size - 1 ≤ (rdT s).size := by
    unfold rdT
    split
    · simp
    · omega
  omega
end Go.Proofs.YtmmpcchjalgokaaGreatDoor
