/- Plain laws for FnRunners: an added runner is found by its card, and swapping cards twice is no change. -/
import Derived.Test.YtmmpcchjalgokaaGreatDoorAdd
namespace Go.Proofs.YtmmpcchjalgokaaGreatDoor
set_option linter.unusedVariables false
set_option linter.unusedSimpArgs false
open Go.RowKit
theorem okRns_of {l : List Rn} (h1 : l.length ≤ 10) (h2 : ∀ i, i < l.length → rnsAt l i = true) : okRns l = true := by
  have h3 : ∀ k, k ≤ l.length → rnsP l k = true := by
    intro k
    induction k with
    | zero => intro _; rfl
    | succ k ih => intro hk; rw [rnsP, ih (by omega), h2 k (by omega)]; rfl
  unfold okRns
  rw [h3 _ (Nat.le_refl _), decide_eq_true h1]; rfl
theorem rnsAt_iff {l : List Rn} {i : Nat} : rnsAt l i = true ↔ rnOk (rnA l i) = true ∧ (i = 0 ∨ (rnA l (i - 1)).id < (rnA l i).id) ∧ (0 < (rnA l i).card → hasC (l.take i) (rnA l i).card = false) := by
  unfold rnsAt
  by_cases h : 0 < (rnA l i).card <;> simp [h]
/-- A valid list, in plain words. -/
def Vld (l : List Rn) : Prop := l.length ≤ 10 ∧ (∀ i, i < l.length → rnOk (rnA l i) = true) ∧ (∀ i, 0 < i → i < l.length → (rnA l (i - 1)).id < (rnA l i).id) ∧ ∀ i j, j < i → i < l.length → 0 < (rnA l i).card → (rnA l j).card ≠ (rnA l i).card
theorem vld_iff {l : List Rn} : okRns l = true ↔ Vld l := by
  constructor
  · intro h
    obtain ⟨h1, h2⟩ := okRns_iff h
    have h3 := fun i hi => rnsAt_iff.1 (h2 i hi)
    refine ⟨h1, fun i hi => (h3 i hi).1, fun i h0 hi => ((h3 i hi).2.1).resolve_left (by omega), fun i j hj hi hc he => ?_⟩
    have := (h3 i hi).2.2 hc
    rw [hasC_true hj (by omega) he] at this
    cases this
  · rintro ⟨h1, h2, h3, h4⟩
    refine okRns_of h1 fun i hi => rnsAt_iff.2 ⟨h2 i hi, ?_, fun hc => hasC_false fun q hq => h4 i q hq hi hc⟩
    rcases Nat.eq_zero_or_pos i with h | h
    · exact .inl h
    · exact .inr (h3 i h hi)
theorem Vld.apart {l : List Rn} (V : Vld l) {i j : Nat} (hi : i < l.length) (hj : j < l.length) (hne : i ≠ j) (h0 : 0 < (rnA l i).card) : (rnA l j).card ≠ (rnA l i).card := by
  rcases Nat.lt_or_gt_of_ne hne with h | h
  · intro e
    exact V.2.2.2 j i h hj (by omega) e.symm
  · exact V.2.2.2 i j h hi h0
theorem rn_card {r : Rn} (h : rnOk r = true) : 0 ≤ r.card ∧ r.card ≤ 9999 := by
  unfold rnOk at h
  rw [Bool.and_eq_true] at h
  exact insideB_iff.1 h.2
theorem rn_withC {r : Rn} {c : Int} (h : rnOk r = true) (h0 : 0 ≤ c) (h1 : c ≤ 9999) : rnOk (withC r c) = true := by
  unfold rnOk at h ⊢
  rw [Bool.and_eq_true] at h ⊢
  exact ⟨h.1, insideB_iff.2 ⟨h0, h1⟩⟩
theorem rnA_mem {l : List Rn} {r : Rn} (h : r ∈ l) : ∃ i, i < l.length ∧ rnA l i = r := by
  obtain ⟨i, hi, e⟩ := List.mem_iff_getElem.1 h
  exact ⟨i, hi, by rw [rnA_get hi, e]⟩
theorem rwX_at {l : List Rn} (V : Vld l) {i : Nat} (hi : i < l.length) (h0 : 0 < (rnA l i).card) : rwX l (rnA l i).card = (i : Int) := by
  unfold rwX
  rw [idxB_hit l 0 i hi (by rw [rnA_get hi]; simp) fun j hj hji => ?_]
  · rw [Nat.zero_add]
  · have := V.apart hi hj (by omega) h0
    rw [rnA_get hj] at this
    simpa using this
theorem ad_mem (l : List Rn) (r : Rn) : r ∈ adL l r := by unfold adL insL; simp
theorem ad_found {l : List Rn} {r : Rn} (h : adOk l r = true) :
    okRns (adR l r) = true ∧ rwOk (adR l r) r.card = decide (0 < r.card) ∧ (0 < r.card → rwR (adR l r) r.card = r) := by
  have e : adR l r = adL l r := by unfold adR; rw [if_pos h]
  unfold adOk at h
  rw [Bool.and_eq_true] at h
  rw [e]
  have hok := h.2
  have V := vld_iff.1 hok
  obtain ⟨i, hi, hq⟩ := rnA_mem (ad_mem l r)
  clear e h
  have hbd := rn_card (V.2.1 i hi)
  rw [hq] at hbd
  have key : 0 < r.card → rwOk (adL l r) r.card = true ∧ rwR (adL l r) r.card = r := by
    intro h0
    have hx := rwX_at V hi (by rw [hq]; exact h0)
    rw [hq] at hx
    have h9 : rwOk (adL l r) r.card = true := by
      unfold rwOk
      rw [hok, hx, insideB_iff.2 ⟨by omega, hbd.2⟩, decide_eq_true (Int.natCast_nonneg _)]; rfl
    refine ⟨h9, ?_⟩
    unfold rwR
    rw [if_pos h9, hx]
    exact hq
  refine ⟨hok, ?_, fun h0 => (key h0).2⟩
  by_cases h0 : 0 < r.card
  · rw [(key h0).1, decide_eq_true h0]
  · unfold rwOk
    rw [insideB_not.2 (.inl (by omega)), decide_eq_false h0]; simp
/- swapping -/
def sgm (i k j : Nat) : Nat := if j = k then i else if j = i then k else j
theorem sgm_sgm (i k j : Nat) : sgm i k (sgm i k j) = j := by
  unfold sgm
  by_cases h1 : j = k
  · subst h1
    rw [if_pos rfl]
    by_cases h2 : i = j
    · rw [if_pos h2, h2]
    · rw [if_neg h2, if_pos rfl]
  · rw [if_neg h1]
    by_cases h2 : j = i
    · subst h2; rw [if_pos rfl, if_pos rfl]
    · rw [if_neg h2, if_neg h1, if_neg h2]
theorem sgm_lt {i k j n : Nat} (hi : i < n) (hk : k < n) (hj : j < n) : sgm i k j < n := by
  unfold sgm; split
  · exact hi
  · split <;> assumption
theorem withC_self (r : Rn) : withC r r.card = r := rfl
theorem rnA_sw {l : List Rn} {i k j : Nat} (hi : i < l.length) (hk : k < l.length) (hj : j < l.length) (hne : i ≠ k) : rnA (swL l i k) j = withC (rnA l j) (rnA l (sgm i k j)).card := by
  unfold swL sgm
  rw [rnA, List.getD_eq_getElem?_getD, List.getElem?_set, List.getElem?_set]
  by_cases h1 : j = k
  · subst h1
    rw [if_pos rfl, if_pos rfl, if_pos (by rw [List.length_set]; exact hj)]
    rfl
  · rw [if_neg (fun h => h1 h.symm), if_neg h1]
    by_cases h2 : j = i
    · subst h2
      rw [if_pos rfl, if_pos rfl, if_pos hj]
      rfl
    · rw [if_neg (fun h => h2 h.symm), if_neg h2, withC_self, rnA, List.getD_eq_getElem?_getD]
theorem rn_listext {l m : List Rn} (hl : l.length = m.length) (h : ∀ j, j < l.length → rnA l j = rnA m j) : l = m := by
  apply List.ext_getElem hl
  intro j h1 h2
  rw [← rnA_get h1, ← rnA_get h2]
  exact h j h1
theorem sw_sw {l : List Rn} {i k : Nat} (hi : i < l.length) (hk : k < l.length) (hne : i ≠ k) : swL (swL l i k) i k = l := by
  have hl := swL_len l i k
  apply rn_listext (by rw [swL_len, swL_len])
  intro j hj
  rw [swL_len, swL_len] at hj
  have hs := sgm_lt hi hk hj
  rw [rnA_sw (by omega) (by omega) (by omega) hne, rnA_sw hi hk hj hne, rnA_sw hi hk hs hne, sgm_sgm]
  rfl
theorem sw_ids {l : List Rn} {i k : Nat} (hi : i < l.length) (hk : k < l.length) (hne : i ≠ k) : (swL l i k).map (·.id) = l.map (·.id) := by
  apply List.ext_getElem (by simp [swL_len])
  intro j h1 h2
  simp only [List.length_map, swL_len] at h1
  simp only [List.getElem_map]
  rw [← rnA_get (by rw [swL_len]; exact h1), ← rnA_get h1, rnA_sw hi hk h1 hne]
  rfl
theorem idxB_ids (x : Int) : ∀ (l : List Rn) (b : Nat), idxB (fun c : Rn => c.id == x) l b = idxB (fun y : Int => y == x) (l.map (·.id)) b
  | [], _ => rfl
  | r :: l, b => by
    rw [List.map_cons, idxB, idxB, idxB_ids x l (b + 1)]
theorem ix_ids {l m : List Rn} (h : l.map (·.id) = m.map (·.id)) (x : Int) : ixR l x = ixR m x := by
  unfold ixR
  rw [idxB_ids, idxB_ids, h]
theorem sw_vld {l : List Rn} (V : Vld l) {i k : Nat} (hi : i < l.length) (hk : k < l.length) (hne : i ≠ k) : Vld (swL l i k) := by
  have hl := swL_len l i k
  refine ⟨by rw [hl]; exact V.1, fun j hj => ?_, fun j h0 hj => ?_, fun a b hb ha h0 => ?_⟩
  · rw [hl] at hj
    rw [rnA_sw hi hk hj hne]
    have := rn_card (V.2.1 _ (sgm_lt hi hk hj))
    exact rn_withC (V.2.1 j hj) this.1 this.2
  · rw [hl] at hj
    rw [rnA_sw hi hk hj hne, rnA_sw hi hk (by omega) hne]
    exact V.2.2.1 j h0 hj
  · rw [hl] at ha
    rw [rnA_sw hi hk ha hne] at h0 ⊢
    rw [rnA_sw hi hk (by omega) hne]
    refine V.apart (sgm_lt hi hk ha) (sgm_lt hi hk (by omega)) (fun e => ?_) h0
    have := congrArg (sgm i k) e
    rw [sgm_sgm, sgm_sgm] at this
    omega
theorem ix_lt {l : List Rn} {x : Int} (h : 0 ≤ ixR l x) : (ixR l x).toNat < l.length := by
  obtain ⟨k, hk, e, _⟩ := idxB_some l 0 h
  unfold ixR
  rw [e]
  omega
theorem sw_twice {l : List Rn} {a b : Int} (h : swOk l a b = true) : swOk (swR l a b) a b = true ∧ swR (swR l a b) a b = l := by
  have e : swR l a b = swL l (ixR l a).toNat (ixR l b).toNat := by unfold swR; rw [if_pos h]
  rw [e]
  unfold swOk at h
  simp only [Bool.and_eq_true, decide_eq_true_eq, Bool.not_eq_true', decide_eq_false_iff_not] at h
  obtain ⟨h1, h2, h3, h4⟩ := h
  have ha := ix_lt h2
  have hb := ix_lt h3
  have hne : (ixR l a).toNat ≠ (ixR l b).toNat := by omega
  have hi := sw_ids ha hb hne
  have e1 := ix_ids hi a
  have e2 := ix_ids hi b
  have h9 : swOk (swL l (ixR l a).toNat (ixR l b).toNat) a b = true := by
    unfold swOk
    rw [e1, e2, vld_iff.2 (sw_vld (vld_iff.1 h1) ha hb hne), decide_eq_true h2, decide_eq_true h3, decide_eq_false h4]; rfl
  refine ⟨h9, ?_⟩
  have : swR (swL l (ixR l a).toNat (ixR l b).toNat) a b = swL (swL l (ixR l a).toNat (ixR l b).toNat) (ixR (swL l (ixR l a).toNat (ixR l b).toNat) a).toNat (ixR (swL l (ixR l a).toNat (ixR l b).toNat) b).toNat := by
    conv => lhs; unfold swR; rw [if_pos h9]
  rw [this, e1, e2]
  exact sw_sw ha hb hne
end Go.Proofs.YtmmpcchjalgokaaGreatDoor
