/- Plain laws: the runner that a text is. -/
import Derived.Test.YtmmpcchjalgokaaGreatDoorCutB
import Derived.Test.YtmmpcchjalgokaaGreatDoorRtx
import Derived.Test.YtmmpcchjalgokaaGreatDoorRead
namespace Go.Proofs.YtmmpcchjalgokaaGreatDoor
set_option linter.unusedVariables false
set_option linter.unusedSimpArgs false
open Go.RowKit
theorem cutAt_sz (s : ByteArray) (b : UInt8) : ∀ k, ∀ x ∈ (cutAt s b k).1, x.size ≤ s.size
  | 0, x, h => by cases h
  | k + 1, x, h => by
    rw [cutAt] at h
    split at h
    · rcases List.mem_append.1 h with h | h
      · exact cutAt_sz s b k x h
      · rw [List.mem_singleton.1 h]; simp; omega
    · exact cutAt_sz s b k x h
theorem cuts_sz (s : ByteArray) (b : UInt8) : ∀ x ∈ cuts s b, x.size ≤ s.size := by
  intro x h
  rcases List.mem_append.1 h with h | h
  · exact cutAt_sz s b _ x h
  · rw [List.mem_singleton.1 h]; simp
theorem NoB.low {s : ByteArray} (h : wordB s = true) : NoB s 32 := by
  unfold wordB at h
  rw [Bool.and_eq_true] at h
  refine NoB.mem fun x hx hb => ?_
  have := List.all_eq_true.1 h.1 x hx
  subst hb
  exact absurd this (by decide)
theorem NoB.num (z : Int) : NoB (itoaB z) 32 := by
  refine NoB.mem fun x hx hb => ?_
  rw [itoa_list] at hx
  subst hb
  rcases Int.lt_or_le z 0 with h | h
  · obtain ⟨u, rfl⟩ : ∃ u : Nat, z = -(u : Int) := ⟨(-z).toNat, by omega⟩
    rw [Lib.itoa_neg u (by omega)] at hx
    rcases List.mem_cons.1 hx with h1 | h1
    · exact absurd h1 (by decide)
    · have := (digits_byte u _ h1).1
      exact absurd this (by decide)
  · obtain ⟨u, rfl⟩ := Int.eq_ofNat_of_zero_le h
    rw [Lib.itoa_nonneg] at hx
    have := (digits_byte u _ hx).1
    exact absurd this (by decide)
theorem itoaB_len {u : Nat} (k : Nat) (h : u < 10 ^ (k + 1)) : (itoaB (u : Int)).size ≤ k + 1 := by
  have := digits_len k u h
  have e : (itoaB (u : Int)).size = (itoaB (u : Int)).data.toList.length := by simp
  rw [e, itoa_list, Lib.itoa_nonneg]
  exact this
theorem rn_ext {r q : Rn} (h1 : r.id = q.id) (h2 : r.name = q.name) (h3 : r.club = q.club) (h4 : r.born = q.born) (h5 : r.woman = q.woman) (h6 : r.card = q.card) : r = q := by
  cases r; cases q
  simp only [Rn.mk.injEq]
  exact ⟨h1, h2, h3, h4, h5, h6⟩
def wmB (b : Bool) : ByteArray := if b = true then ⟨#[119]⟩ else ⟨#[109]⟩
theorem wmB_eq (b : Bool) : decide (wmB b = (⟨#[119]⟩ : ByteArray)) = b := by cases b <;> decide
def rw6 (r : Rn) : List ByteArray := [itoaB r.id, r.name, ⟨#[111, 102]⟩, r.club, itoaB r.born, wmB r.woman]
def rwds (r : Rn) : List ByteArray := if 0 < r.card then rw6 r ++ [⟨#[99, 97, 114, 100]⟩, itoaB r.card] else rw6 r
theorem cuts_rt {r : Rn} (h : rnOk r = true) : cuts (rtB r) 32 = rwds r := by
  have hn : wordB r.name = true ∧ wordB r.club = true := by
    unfold rnOk at h
    simp only [Bool.and_eq_true] at h
    exact ⟨h.1.1.1.2, h.1.1.2⟩
  have hof : NoB (⟨#[111, 102]⟩ : ByteArray) 32 := NoB.mem (by decide)
  have hcard : NoB (⟨#[99, 97, 114, 100]⟩ : ByteArray) 32 := NoB.mem (by decide)
  have hwm : NoB (wmB r.woman) 32 := by unfold wmB; cases r.woman <;> exact NoB.mem (by decide)
  have e1 : (⟨#[32, 111, 102, 32]⟩ : ByteArray) = ⟨#[32]⟩ ++ (⟨#[111, 102]⟩ ++ ⟨#[32]⟩) := rfl
  have e2 : (⟨#[32, 99, 97, 114, 100, 32]⟩ : ByteArray) = ⟨#[32]⟩ ++ (⟨#[99, 97, 114, 100]⟩ ++ ⟨#[32]⟩) := rfl
  unfold rtB rwds rw6
  by_cases hc : 0 < r.card
  · rw [if_pos hc, if_pos hc]
    have e : rtS r ++ ((⟨#[32, 99, 97, 114, 100, 32]⟩ : ByteArray) ++ itoaB r.card) = itoaB r.id ++ ⟨#[32]⟩ ++ (r.name ++ ⟨#[32]⟩ ++ (⟨#[111, 102]⟩ ++ ⟨#[32]⟩ ++ (r.club ++ ⟨#[32]⟩ ++ (itoaB r.born ++ ⟨#[32]⟩ ++ (wmB r.woman ++ ⟨#[32]⟩ ++ (⟨#[99, 97, 114, 100]⟩ ++ ⟨#[32]⟩ ++ itoaB r.card)))))) := by
      unfold rtS rtH
      rw [e1, e2]
      show _ ++ wmB r.woman ++ _ = _
      simp only [ByteArray.append_assoc]
    rw [e, cuts_word (NoB.num _), cuts_word (NoB.low hn.1), cuts_word hof, cuts_word (NoB.low hn.2), cuts_word (NoB.num _), cuts_word hwm, cuts_word hcard, cuts_no (NoB.num _)]
    rfl
  · rw [if_neg hc, if_neg hc]
    have e : rtS r = itoaB r.id ++ ⟨#[32]⟩ ++ (r.name ++ ⟨#[32]⟩ ++ (⟨#[111, 102]⟩ ++ ⟨#[32]⟩ ++ (r.club ++ ⟨#[32]⟩ ++ (itoaB r.born ++ ⟨#[32]⟩ ++ wmB r.woman)))) := by
      unfold rtS rtH
      rw [e1]
      show _ ++ wmB r.woman = _
      simp only [ByteArray.append_assoc]
    rw [e, cuts_word (NoB.num _), cuts_word (NoB.low hn.1), cuts_word hof, cuts_word (NoB.low hn.2), cuts_word (NoB.num _), cuts_no hwm]
theorem rt_size {r : Rn} (h : rnOk r = true) : (rtB r).size ≤ 60 := by
  obtain ⟨⟨a1, a2⟩, ⟨b1, _⟩, ⟨c1, _⟩, ⟨d1, d2⟩, e1, e2⟩ := rnOk_bd h
  obtain ⟨u, hu⟩ : ∃ u : Nat, r.id = u := ⟨r.id.toNat, by omega⟩
  obtain ⟨v, hv⟩ : ∃ v : Nat, r.born = v := ⟨r.born.toNat, by omega⟩
  obtain ⟨z, hz⟩ : ∃ z : Nat, r.card = z := ⟨r.card.toNat, by omega⟩
  have s1 : (itoaB r.id).size ≤ 3 := by rw [hu]; exact itoaB_len 2 (by omega)
  have s2 : (itoaB r.born).size ≤ 4 := by rw [hv]; exact itoaB_len 3 (by omega)
  have s3 : (itoaB r.card).size ≤ 4 := by rw [hz]; exact itoaB_len 3 (by omega)
  have s4 : (if r.woman = true then (⟨#[119]⟩ : ByteArray) else ⟨#[109]⟩).size = 1 := by split <;> rfl
  have s5 : (⟨#[32]⟩ : ByteArray).size = 1 := rfl
  have s6 : (⟨#[32, 111, 102, 32]⟩ : ByteArray).size = 4 := rfl
  have s7 : (⟨#[32, 99, 97, 114, 100, 32]⟩ : ByteArray).size = 6 := rfl
  have hS : (rtS r).size ≤ 35 := by
    unfold rtS rtH
    simp only [ByteArray.size_append, s4, s5, s6]
    omega
  unfold rtB
  split
  · simp only [ByteArray.size_append, s7]
    omega
  · omega
open Classical in
/-- The runner that a text is, if any. -/
noncomputable def prF (s : ByteArray) : Option Rn := if h : ∃ r, rnOk r = true ∧ rtB r = s then some h.choose else none
/-- The words of a runner's text, laid out as the program takes them. -/
def ws8 (l : List ByteArray) : List ByteArray := if l.length = 6 then l ++ [⟨#[99, 97, 114, 100]⟩, ⟨#[48]⟩] else l
def wd (l : List ByteArray) (k : Nat) : ByteArray := l.getD k ⟨#[]⟩
def candI (l : List ByteArray) : Rn := ⟨rdV (wd l 0), wd l 1, wd l 3, rdV (wd l 4), decide (wd l 5 = ⟨#[119]⟩), rdV (wd l 7)⟩
def nmOk (l : List ByteArray) (ps : List Nat) : Bool := ps.all fun p => decide (p < l.length) && rdOk (wd l p)
theorem rw6_len (r : Rn) : (rw6 r).length = 6 := rfl
theorem pr_key {r : Rn} (h : rnOk r = true) : nmOk (ws8 (cuts (rtB r) 32)) [0, 4, 7] = true ∧ candI (ws8 (cuts (rtB r) 32)) = r := by
  obtain ⟨⟨a1, a2⟩, _, _, ⟨d1, d2⟩, e1, e2⟩ := rnOk_bd h
  have i1 := rd_itoa (z := r.id) (by omega) (by omega)
  have i2 := rd_itoa (z := r.born) (by omega) (by omega)
  have i3 := rd_itoa (z := r.card) (by omega) (by omega)
  have i0 := rd_itoa (z := 0) (by omega) (by omega)
  have e0 : itoaB 0 = ⟨#[48]⟩ := itoaB_small (u := 0) (by omega)
  rw [e0] at i0
  rw [cuts_rt h]
  unfold rwds
  by_cases hc : 0 < r.card
  · rw [if_pos hc]
    have e : ws8 (rw6 r ++ [⟨#[99, 97, 114, 100]⟩, itoaB r.card]) = [itoaB r.id, r.name, ⟨#[111, 102]⟩, r.club, itoaB r.born, wmB r.woman, ⟨#[99, 97, 114, 100]⟩, itoaB r.card] := by
      unfold ws8
      rw [if_neg (by simp [rw6])]
      rfl
    rw [e]
    constructor
    · unfold nmOk wd
      simp [i1.1, i2.1, i3.1]
    · unfold candI wd
      apply rn_ext
      · exact i1.2
      · rfl
      · rfl
      · exact i2.2
      · exact wmB_eq _
      · exact i3.2
  · rw [if_neg hc]
    have e : ws8 (rw6 r) = [itoaB r.id, r.name, ⟨#[111, 102]⟩, r.club, itoaB r.born, wmB r.woman, ⟨#[99, 97, 114, 100]⟩, ⟨#[48]⟩] := by
      unfold ws8
      rw [if_pos (rw6_len r)]
      rfl
    rw [e]
    constructor
    · unfold nmOk wd
      simp [i1.1, i2.1, i0.1]
    · unfold candI wd
      apply rn_ext
      · exact i1.2
      · rfl
      · rfl
      · exact i2.2
      · exact wmB_eq _
      · exact i0.2.trans (by omega)
theorem pr_yes {s : ByteArray} {r : Rn} (h1 : rnOk r = true) (h2 : rtB r = s) : prF s = some r := by
  unfold prF
  have hx : ∃ q, rnOk q = true ∧ rtB q = s := ⟨r, h1, h2⟩
  rw [dif_pos hx]
  congr 1
  obtain ⟨g1, g2⟩ := hx.choose_spec
  rw [← (pr_key g1).2, g2, ← h2, (pr_key h1).2]
theorem pr_no {s : ByteArray} (h : ∀ r, rnOk r = true → rtB r = s → False) : prF s = none := by
  unfold prF
  rw [dif_neg]
  rintro ⟨r, h1, h2⟩
  exact h r h1 h2
/-- The reference's candidate. -/
def candS (l : List ByteArray) : Rn := ⟨rdV (wd l 0), wd l 1, wd l 3, rdV (wd l 4), decide (wd l 5 = ⟨#[119]⟩), if l.length = 8 then rdV (wd l 7) else 0⟩
theorem ps_key {r : Rn} (h : rnOk r = true) : (rtB r).size ≤ 60 ∧ ((cuts (rtB r) 32).length = 6 ∨ (cuts (rtB r) 32).length = 8) ∧ candS (cuts (rtB r) 32) = r := by
  obtain ⟨⟨a1, a2⟩, _, _, ⟨d1, d2⟩, e1, e2⟩ := rnOk_bd h
  have i1 := rd_itoa (z := r.id) (by omega) (by omega)
  have i2 := rd_itoa (z := r.born) (by omega) (by omega)
  have i3 := rd_itoa (z := r.card) (by omega) (by omega)
  refine ⟨rt_size h, ?_⟩
  rw [cuts_rt h]
  unfold rwds
  by_cases hc : 0 < r.card
  · rw [if_pos hc]
    refine ⟨.inr rfl, ?_⟩
    unfold candS wd
    apply rn_ext
    · exact i1.2
    · rfl
    · rfl
    · exact i2.2
    · exact wmB_eq _
    · show (if (8 : Nat) = 8 then rdV (itoaB r.card) else 0) = _
      rw [if_pos rfl]; exact i3.2
  · rw [if_neg hc]
    refine ⟨.inl rfl, ?_⟩
    unfold candS wd
    apply rn_ext
    · exact i1.2
    · rfl
    · rfl
    · exact i2.2
    · exact wmB_eq _
    · show (if (6 : Nat) = 8 then rdV (wd (rw6 r) 7) else (0 : Int)) = _
      rw [if_neg (by decide)]; omega
/-- The result: the runner and whether there is one. -/
noncomputable def prOk (s : ByteArray) : Bool := (prF s).isSome
def rnZ0 : Rn := ⟨0, ⟨#[]⟩, ⟨#[]⟩, 0, false, 0⟩
noncomputable def prV (s : ByteArray) : Rn := (prF s).getD rnZ0
theorem pr_some {s : ByteArray} {r : Rn} (h1 : rnOk r = true) (h2 : rtB r = s) : prOk s = true ∧ prV s = r := by
  unfold prOk prV; rw [pr_yes h1 h2]; exact ⟨rfl, rfl⟩
theorem pr_none {s : ByteArray} (h : ∀ r, rnOk r = true → rtB r = s → False) : prOk s = false ∧ prV s = rnZ0 := by
  unfold prOk prV; rw [pr_no h]; exact ⟨rfl, rfl⟩
end Go.Proofs.YtmmpcchjalgokaaGreatDoor
