/- Plain laws for FnSymbols: four quarters are no turn; two features are told alike if all but their codes is alike. -/
import Derived.Test.YtmmpcchjalgokaaGreatDoorPfp
import Derived.Test.YtmmpcchjalgokaaGreatDoorTrn
namespace Go.Proofs.YtmmpcchjalgokaaGreatDoor
set_option linter.unusedVariables false
set_option linter.unusedSimpArgs false
open Go.RowKit
theorem w4_idx : ∀ i, i < 4 → Lib.idxOfS w4B (w4B.getD i ByteArray.empty) = (i : Int) := by
  intro i hi
  have h4 : w4B.length = 4 := rfl
  unfold Lib.idxOfS
  rw [Lib.idxFromS_hit (w4B.getD i ByteArray.empty) w4B i 0 (by omega) rfl ?_]
  · omega
  · intro j hj e
    rcases (show i = 0 ∨ i = 1 ∨ i = 2 ∨ i = 3 by omega) with rfl | rfl | rfl | rfl <;> rcases (show j = 0 ∨ j = 1 ∨ j = 2 by omega) with rfl | rfl | rfl <;> first | omega | (revert e; decide)
/-- A word is no wind, or one of four. -/
theorem w4_or (s : ByteArray) : Lib.idxOfS w4B s < 0 ∨ ∃ i, i < 4 ∧ s = w4B.getD i ByteArray.empty := by
  rcases Int.lt_or_le (Lib.idxOfS w4B s) 0 with h | h
  · exact .inl h
  · have hm := (Lib.idxOfS_nonneg_iff w4B s).1 h
    obtain ⟨k, hk, e⟩ := List.mem_iff_getElem.1 hm
    exact .inr ⟨k, hk, by rw [List.getD_eq_getElem?_getD, List.getElem?_eq_getElem hk, e]; rfl⟩
theorem turn_no {s : ByteArray} {q : Int} (h : Lib.idxOfS w4B s < 0) : turnS s q = s := by unfold turnS; rw [if_pos h]
theorem turn_at {i : Nat} {q : Int} (hi : i < 4) : turnS (w4B.getD i ByteArray.empty) q = w4B.getD (((i : Int) + q) % 4).toNat ByteArray.empty := by
  unfold turnS
  rw [w4_idx i hi, if_neg (by omega)]
theorem turn_back (s : ByteArray) {q p : Int} (h : (q + p) % 4 = 0) : turnS (turnS s q) p = s := by
  rcases w4_or s with h1 | ⟨i, hi, rfl⟩
  · rw [turn_no h1, turn_no h1]
  · rw [turn_at hi, turn_at (by omega)]
    congr 1
    omega
theorem wind_facts : ∀ i, i < 4 → inB whichL (w4B.getD i ByteArray.empty) = true ∧ nonB (w4B.getD i ByteArray.empty) = false := by
  intro i hi
  have hm : w4B.getD i ByteArray.empty = mk (w4.getD i []) ∧ w4.getD i [] ∈ whichL ∧ w4.getD i [] ≠ [] := by
    rcases (show i = 0 ∨ i = 1 ∨ i = 2 ∨ i = 3 by omega) with rfl | rfl | rfl | rfl <;> exact ⟨rfl, by decide, by decide⟩
  constructor
  · unfold inB
    rw [List.any_eq_true]
    exact ⟨_, hm.2.1, by rw [beq_mk, hm.1]; simp⟩
  · cases h : nonB (w4B.getD i ByteArray.empty)
    · rfl
    · have := nonB_iff.1 h
      rw [hm.1] at this
      exact absurd (mk_inj this) hm.2.2
theorem wind_side (f : Int) : ∀ i, i < 4 → inB (sidL f) (w4B.getD i ByteArray.empty) = true ∧ (w4B.getD i ByteArray.empty).toList ≠ [98, 101, 116, 119, 101, 101, 110] := by
  intro i hi
  have hm : w4B.getD i ByteArray.empty = mk (w4.getD i []) ∧ w4.getD i [] ∈ w4 ∧ w4.getD i [] ≠ [98, 101, 116, 119, 101, 101, 110] := by
    rcases (show i = 0 ∨ i = 1 ∨ i = 2 ∨ i = 3 by omega) with rfl | rfl | rfl | rfl <;> exact ⟨rfl, by decide, by decide⟩
  constructor
  · unfold inB
    rw [List.any_eq_true]
    refine ⟨w4.getD i [], ?_, by rw [beq_mk, hm.1]; simp⟩
    unfold sidL
    exact List.mem_append_left _ hm.2.1
  · rw [hm.1, toL]
    exact hm.2.2
theorem turn_ok {f : Ft} {q : Int} (h : okFt f = true) : okFt (tsF f q) = true := by
  have hq : ∀ i : Nat, i < 4 → (((i : Int) + q) % 4).toNat < 4 := fun i _ => by omega
  have hwh : (nonB (turnS f.which q) || inB whichL (turnS f.which q)) = (nonB f.which || inB whichL f.which) := by
    rcases w4_or f.which with h1 | ⟨i, hi, e⟩
    · rw [turn_no h1]
    · rw [e, turn_at hi, (wind_facts i hi).1, (wind_facts _ (hq i hi)).1]; simp
  have hnw : nonB (turnS f.which q) = nonB f.which := by
    rcases w4_or f.which with h1 | ⟨i, hi, e⟩
    · rw [turn_no h1]
    · rw [e, turn_at hi, (wind_facts i hi).2, (wind_facts _ (hq i hi)).2]
  unfold okFt okA okS at h ⊢
  simp only [tsF]
  rw [hwh, hnw]
  rcases w4_or f.side with h1 | ⟨i, hi, e⟩
  · rw [turn_no h1]; exact h
  · rw [e] at h ⊢
    rw [turn_at hi]
    have a := wind_side (famI f.what) i hi
    have b := wind_side (famI f.what) _ (hq i hi)
    have a2 : ((w4B.getD i ByteArray.empty).toList == [98, 101, 116, 119, 101, 101, 110]) = false := by simpa using a.2
    have b2 : ((w4B.getD (((i : Int) + q) % 4).toNat ByteArray.empty).toList == [98, 101, 116, 119, 101, 101, 110]) = false := by simpa using b.2
    rw [a.1, a2, (wind_facts i hi).2] at h
    rw [b.1, b2, (wind_facts _ (hq i hi)).2]
    exact h
theorem ts_back {f : Ft} {q p : Int} (h : tsOk f q = true) (hp : p = (4 - q) % 4) : okFt (tsR f q) = true ∧ tsOk (tsR f q) p = true ∧ tsR (tsR f q) p = f := by
  have e : tsR f q = tsF f q := by unfold tsR; rw [if_pos h]
  unfold tsOk at h
  rw [Bool.and_eq_true] at h
  have hq := insideB_iff.1 h.2
  have ok := turn_ok (q := q) h.1
  rw [e]
  have h9 : tsOk (tsF f q) p = true := by
    unfold tsOk
    rw [ok, insideB_iff.2 (by omega)]; rfl
  refine ⟨ok, h9, ?_⟩
  unfold tsR
  rw [if_pos h9]
  apply ft_ext <;> try rfl
  · exact turn_back f.which (by omega)
  · exact turn_back f.side (by omega)
theorem ftB_inj {f g : Ft} (hf : okFt f = true) (hg : okFt g = true) (h : ftB f = ftB g) : f = g := by
  have h1 := (pf_key hf h).candI
  have h2 := (pf_key hg rfl).candI
  exact h1.symm.trans h2
/-- Two valid features are told alike: all but their codes is alike. -/
theorem dd_same {a b : Ft} (h : ddOk a b = true) : ddV a b = (decide (a.which = b.which) && (decide (a.what = b.what) && (decide (a.look = b.look) && decide (a.side = b.side)))) := by
  have h0 := h
  unfold ddOk at h
  rw [Bool.and_eq_true] at h
  unfold ddV
  rw [h0, Bool.true_and, ← ftB_eq]
  by_cases e : (⟨b.code, a.which, a.what, a.look, a.side⟩ : Ft) = b
  · rw [decide_eq_true (show ftB ⟨b.code, a.which, a.what, a.look, a.side⟩ = ftB b by rw [e])]
    have e1 : a.which = b.which := by rw [← e]
    have e2 : a.what = b.what := by rw [← e]
    have e3 : a.look = b.look := by rw [← e]
    have e4 : a.side = b.side := by rw [← e]
    simp [e1, e2, e3, e4]
  · rw [decide_eq_false fun e2 => e (ftB_inj (ok_code h.1 h.2) h.2 e2)]
    symm
    cases hx : (decide (a.which = b.which) && (decide (a.what = b.what) && (decide (a.look = b.look) && decide (a.side = b.side))))
    · rfl
    · exfalso
      simp only [Bool.and_eq_true, decide_eq_true_eq] at hx
      exact e (ft_ext rfl hx.1 hx.2.1 hx.2.2.1 hx.2.2.2)
theorem ft_back {f : Ft} (h : okFt f = true) : pfOk (ftV f) = true ∧ pfV (ftV f) = f := by
  have e : ftV f = ftB f := by unfold ftV; rw [if_pos h]
  rw [e]; exact pf_some h rfl
end Go.Proofs.YtmmpcchjalgokaaGreatDoor
