/- Plain law: the least times of all cells to one, by rounds till nothing turns. -/
import Derived.Test.YtijmlagehdmfeaaNextMath
namespace Go.Proofs.Ytijmlagehdmfeaa
set_option linter.unusedVariables false
set_option linter.unusedSimpArgs false
def sumF (f : Int → Nat) (L : List Int) : Nat := (L.map f).sum
theorem sumF_set (f : Int → Nat) (t : Int) : ∀ (L : List Int) (i : Nat), i < L.length → sumF f (L.set i t) + f (L.getD i (-1)) = sumF f L + f t := by
  intro L
  induction L with
  | nil => intro i hi; simp at hi
  | cons x L ih =>
    intro i hi
    cases i with
    | zero => simp [sumF]; omega
    | succ i =>
      have := ih i (by simpa using hi)
      simp only [sumF, List.set_cons_succ, List.map_cons, List.sum_cons, List.getD_cons_succ] at this ⊢
      omega
def one (x : Int) : Nat := if x < 0 then 0 else 1
def wt (x : Int) : Nat := if x < 0 then 2000 else x.toNat
def cnt (L : List Int) : Nat := sumF one L
def W (L : List Int) : Nat := sumF wt L
theorem cnt_le : ∀ L : List Int, cnt L ≤ L.length := by
  intro L
  induction L with
  | nil => simp [cnt, sumF]
  | cons x L ih =>
    have : one x ≤ 1 := by unfold one; split <;> omega
    simp only [cnt, sumF, List.map_cons, List.sum_cons, List.length_cons] at ih ⊢
    omega
def at_ (L : List Int) (i : Nat) : Int := L.getD i (-1)
theorem at_set {L : List Int} {i : Nat} (t : Int) (hi : i < L.length) (j : Nat) : at_ (L.set i t) j = if j = i then t else at_ L j := by
  unfold at_
  by_cases h : j = i
  · subst h; simp [List.getD, hi]
  · rw [if_neg h]; simp [List.getD, List.getElem?_set_ne (Ne.symm h)]
theorem at_get {L : List Int} {i : Nat} (hi : i < L.length) : at_ L i = L[i] := by simp [at_, List.getD, hi]
/-- One trial: cell i by way of cell n. -/
def fires (m : Mp) (i : Nat) (L : List Int) (n : Nat) : Bool := decide (0 ≤ at_ L n) && (decide (at_ L i < 0) || decide (at_ L n + stepV m i n < at_ L i))
def relax (m : Mp) (i : Nat) (L : List Int) (n : Nat) : List Int := if fires m i L n = true then L.set i (at_ L n + stepV m i n) else L
def row (m : Mp) (L : List Int) (i : Nat) : List Int := if 0 < coA m i then (nextN m i).foldl (relax m i) L else L
def scan (m : Mp) (L : List Int) : List Int := (List.range m.co.length).foldl (row m) L
structure Inv (m : Mp) (b : Nat) (L : List Int) : Prop where
  len : L.length = m.co.length
  lo : ∀ i, i < L.length → -1 ≤ at_ L i
  hi : ∀ i, i < L.length → at_ L i ≤ 40 * (cnt L : Int)
  src : at_ L b = 0
  wit : ∀ i, i < L.length → 0 ≤ at_ L i → i = b ∨ ∃ n ∈ nextN m i, 0 ≤ at_ L n ∧ at_ L n + stepV m i n ≤ at_ L i
theorem step_pos {m : Mp} (V : Valid m) {i n : Nat} (hn : n ∈ nextN m i) : 1 ≤ stepV m i n := by
  have h := mem_nextN.1 hn
  unfold stepV
  omega
theorem relax_inv {m : Mp} {b i n : Nat} {L : List Int} (V : Valid m) (I : Inv m b L) (hi : i < m.co.length) (hn : n ∈ nextN m i) :
    Inv m b (relax m i L n) ∧ (relax m i L n = L ∨ W (relax m i L n) < W L) := by
  unfold relax
  by_cases hf : fires m i L n = true
  · rw [if_pos hf]
    unfold fires at hf
    simp only [Bool.and_eq_true, Bool.or_eq_true, decide_eq_true_eq] at hf
    obtain ⟨h0, h1⟩ := hf
    have hnl : n < L.length := by rw [I.len]; exact (mem_nextN.1 hn).1
    have hil : i < L.length := by rw [I.len]; exact hi
    have s1 := step_pos V hn
    have s2 := (V.step_bd i n).2
    have un := I.hi n hnl
    have ui := I.hi i hil
    have c1 := sumF_set one (at_ L n + stepV m i n) L i hil
    have c2 := sumF_set wt (at_ L n + stepV m i n) L i hil
    have c3 := cnt_le L
    have n36 := V.n36
    have il := I.len
    have hni : n ≠ i := by
      rintro rfl
      rcases h1 with h1 | h1 <;> omega
    have o1 : one (at_ L n + stepV m i n) = 1 := by unfold one; rw [if_neg (by omega)]
    have w1 : wt (at_ L n + stepV m i n) = (at_ L n + stepV m i n).toNat := by unfold wt; rw [if_neg (by omega)]
    rw [show L.getD i (-1) = at_ L i from rfl] at c1 c2
    have hcnt : (cnt L : Int) ≤ cnt (L.set i (at_ L n + stepV m i n)) ∧ (at_ L i < 0 → (cnt (L.set i (at_ L n + stepV m i n)) : Int) = cnt L + 1) := by
      unfold cnt
      rw [o1] at c1
      rw [show one (at_ L i) = if at_ L i < 0 then 0 else 1 from rfl] at c1
      constructor
      · split at c1 <;> omega
      · intro h; rw [if_pos h] at c1; omega
    refine ⟨⟨by simp [I.len], ?_, ?_, ?_, ?_⟩, Or.inr ?_⟩
    · intro j hj
      rw [at_set _ hil]
      split
      · omega
      · exact I.lo j (by simpa using hj)
    · intro j hj
      rw [at_set _ hil]
      split
      · rcases h1 with h1 | h1
        · have := hcnt.2 h1; omega
        · have := hcnt.1; omega
      · have := I.hi j (by simpa using hj); have := hcnt.1; omega
    · rw [at_set _ hil]
      split
      · rename_i e
        subst e
        have := I.src
        omega
      · exact I.src
    · intro j hj h
      rw [at_set _ hil] at h
      by_cases e : j = i
      · subst e
        refine Or.inr ⟨n, hn, ?_, ?_⟩
        · rw [at_set _ hil, if_neg hni]; exact h0
        · rw [at_set _ hil, if_neg hni, at_set _ hil, if_pos rfl]; exact Int.le_refl _
      · rw [if_neg e] at h
        rcases I.wit j (by simpa using hj) h with r | ⟨q, hq, q0, q1⟩
        · exact Or.inl r
        · refine Or.inr ⟨q, hq, ?_, ?_⟩
          · rw [at_set _ hil]; split <;> omega
          · rw [at_set _ hil, at_set _ hil, if_neg e]
            split
            · rename_i e2; subst e2; rcases h1 with h1 | h1 <;> omega
            · exact q1
    · unfold W
      rw [w1] at c2
      rw [show wt (at_ L i) = if at_ L i < 0 then 2000 else (at_ L i).toNat from rfl] at c2
      split at c2
      · omega
      · rcases h1 with h1 | h1 <;> omega
  · rw [if_neg hf]; exact ⟨I, Or.inl rfl⟩
theorem fold_fix {α : Type} (f : List Int → α → List Int) (P : List Int → Prop) : ∀ (l : List α) (L : List Int), P L → (∀ L a, a ∈ l → P L → P (f L a) ∧ (f L a = L ∨ W (f L a) < W L)) →
    P (l.foldl f L) ∧ (l.foldl f L = L ∨ W (l.foldl f L) < W L) ∧ (l.foldl f L = L → ∀ a ∈ l, f L a = L) := by
  intro l
  induction l with
  | nil => intro L hP _; exact ⟨hP, Or.inl rfl, fun _ a ha => by simp at ha⟩
  | cons x l ih =>
    intro L hP hs
    obtain ⟨p1, p2⟩ := hs L x (by simp) hP
    obtain ⟨q1, q2, q3⟩ := ih (f L x) p1 (fun L a ha => hs L a (by simp [ha]))
    rw [List.foldl_cons]
    refine ⟨q1, ?_, ?_⟩
    · rcases p2 with p2 | p2
      · rw [p2] at q2 ⊢; exact q2
      · rcases q2 with q2 | q2
        · rw [q2]; exact Or.inr p2
        · exact Or.inr (by omega)
    · intro he a ha
      rcases p2 with p2 | p2
      · rcases List.mem_cons.1 ha with rfl | ha
        · exact p2
        · have := q3 (by rw [he, p2]) a ha
          rw [p2] at this; exact this
      · exfalso
        rcases q2 with q2 | q2
        · rw [he] at q2; rw [← q2] at p2; omega
        · rw [he] at q2; omega
theorem row_inv {m : Mp} {b i : Nat} {L : List Int} (V : Valid m) (I : Inv m b L) (hi : i < m.co.length) : Inv m b (row m L i) ∧ (row m L i = L ∨ W (row m L i) < W L) ∧ (row m L i = L → 0 < coA m i → ∀ n ∈ nextN m i, relax m i L n = L) := by
  unfold row
  by_cases h : 0 < coA m i
  · rw [if_pos h]
    have := fold_fix (relax m i) (Inv m b) (nextN m i) L I (fun L n hn I => relax_inv V I hi hn)
    exact ⟨this.1, this.2.1, fun e _ => this.2.2 e⟩
  · rw [if_neg h]; exact ⟨I, Or.inl rfl, fun _ e => absurd e h⟩
theorem scan_inv {m : Mp} {b : Nat} {L : List Int} (V : Valid m) (I : Inv m b L) : Inv m b (scan m L) ∧ (scan m L = L ∨ W (scan m L) < W L) ∧ (scan m L = L → ∀ i, i < m.co.length → row m L i = L) := by
  have := fold_fix (row m) (Inv m b) (List.range m.co.length) L I (fun L i hi I => by have := row_inv V I (List.mem_range.1 hi); exact ⟨this.1, this.2.1⟩)
  exact ⟨this.1, this.2.1, fun e i hi => this.2.2 e i (List.mem_range.2 hi)⟩
def initL (m : Mp) (b : Nat) : List Int := (List.replicate m.co.length (-1)).set b 0
def itL (m : Mp) (b : Nat) : Nat → List Int
  | 0 => initL m b
  | r + 1 => scan m (itL m b r)
theorem at_init {m : Mp} {b : Nat} (hb : b < m.co.length) (j : Nat) : at_ (initL m b) j = if j = b then 0 else -1 := by
  unfold initL
  rw [at_set _ (by simpa using hb)]
  split
  · rfl
  · simp [at_, List.getD, List.getElem?_replicate]; split <;> rfl
theorem init_inv {m : Mp} {b : Nat} (hb : b < m.co.length) : Inv m b (initL m b) := by
  refine ⟨by simp [initL], fun i _ => ?_, fun i _ => ?_, ?_, fun i _ h => ?_⟩
  · rw [at_init hb]; split <;> omega
  · rw [at_init hb]; split <;> omega
  · rw [at_init hb, if_pos rfl]
  · rw [at_init hb] at h
    split at h
    · rename_i e; exact Or.inl e
    · omega
theorem it_inv {m : Mp} {b : Nat} (V : Valid m) (hb : b < m.co.length) : ∀ r, Inv m b (itL m b r) := by
  intro r
  induction r with
  | zero => exact init_inv hb
  | succ r ih => exact (scan_inv V ih).1
theorem it_stay {m : Mp} {b r : Nat} (h : scan m (itL m b r) = itL m b r) : ∀ k, itL m b (r + k) = itL m b r := by
  intro k
  induction k with
  | zero => rfl
  | succ k ih => rw [← Nat.add_assoc]; show scan m (itL m b (r + k)) = _; rw [ih, h]
/-- The least times to cell b (-1: none). -/
def fin (m : Mp) (b : Nat) : List Int := itL m b (W (initL m b) + 1)
theorem fin_of {m : Mp} {b r : Nat} (h : scan m (itL m b r) = itL m b r) (hr : r ≤ W (initL m b) + 1) : itL m b r = fin m b := by
  have := it_stay h (W (initL m b) + 1 - r)
  rw [show r + (W (initL m b) + 1 - r) = W (initL m b) + 1 by omega] at this
  exact this.symm
theorem fin_fix {m : Mp} {b : Nat} (V : Valid m) (hb : b < m.co.length) : scan m (fin m b) = fin m b := by
  have key : ∀ r, (∃ s, s ≤ r ∧ scan m (itL m b s) = itL m b s) ∨ r + W (itL m b r) ≤ W (initL m b) := by
    intro r
    induction r with
    | zero => exact Or.inr (by show 0 + W (initL m b) ≤ _; omega)
    | succ r ih =>
      rcases ih with ⟨s, hs, e⟩ | ih
      · exact Or.inl ⟨s, by omega, e⟩
      · rcases (scan_inv V (it_inv V hb r)).2.1 with e | e
        · exact Or.inl ⟨r, by omega, e⟩
        · refine Or.inr ?_
          show r + 1 + W (scan m (itL m b r)) ≤ _
          omega
  rcases key (W (initL m b) + 1) with ⟨s, hs, e⟩ | h
  · rw [← fin_of e (by omega)]; exact e
  · omega
theorem fin_inv {m : Mp} {b : Nat} (V : Valid m) (hb : b < m.co.length) : Inv m b (fin m b) := it_inv V hb _
def finV (m : Mp) (b a : Nat) : Int := at_ (fin m b) a
theorem fin_relax {m : Mp} {b i n : Nat} (V : Valid m) (hb : b < m.co.length) (hi : i < m.co.length) (ho : 0 < coA m i) (hn : n ∈ nextN m i) : fires m i (fin m b) n = false := by
  have I := fin_inv V hb
  have h1 := (scan_inv V I).2.2 (fin_fix V hb) i hi
  have h2 := (row_inv V I hi).2.2 h1 ho n hn
  cases hf : fires m i (fin m b) n
  · rfl
  · exfalso
    rcases (relax_inv V I hi hn).2 with e | e
    · unfold relax at h2
      rw [if_pos hf] at h2
      have hil : i < (fin m b).length := by rw [I.len]; exact hi
      have := congrArg (fun L => at_ L i) h2
      simp only [at_set _ hil, if_pos] at this
      unfold fires at hf
      simp only [Bool.and_eq_true, Bool.or_eq_true, decide_eq_true_eq] at hf
      have s1 := step_pos V hn
      rcases hf.2 with h | h <;> omega
    · rw [h2] at e; omega
theorem finV_lo {m : Mp} {b a : Nat} (V : Valid m) (hb : b < m.co.length) (ha : a < m.co.length) : -1 ≤ finV m b a := (fin_inv V hb).lo a (by rw [(fin_inv V hb).len]; exact ha)
theorem finV_hi {m : Mp} {b a : Nat} (V : Valid m) (hb : b < m.co.length) (ha : a < m.co.length) : finV m b a ≤ 1440 := by
  have h1 := (fin_inv V hb).hi a (by rw [(fin_inv V hb).len]; exact ha)
  have h2 := cnt_le (fin m b)
  have h3 := (fin_inv V hb).len
  have := V.n36
  unfold finV; omega
theorem finV_src {m : Mp} {b : Nat} (V : Valid m) (hb : b < m.co.length) : finV m b b = 0 := (fin_inv V hb).src
theorem finV_near {m : Mp} {b i n : Nat} (V : Valid m) (hb : b < m.co.length) (hi : i < m.co.length) (ho : 0 < coA m i) (hn : n ∈ nextN m i) (h : 0 ≤ finV m b n) : 0 ≤ finV m b i ∧ finV m b i ≤ finV m b n + stepV m i n := by
  have := fin_relax V hb hi ho hn
  unfold fires at this
  unfold finV at h ⊢
  simp only [Bool.and_eq_false_iff, Bool.or_eq_false_iff, decide_eq_false_iff_not] at this
  rcases this with h1 | ⟨h1, h2⟩
  · exact absurd h h1
  · omega
/-- A cell from which b is reached has a next one on the way. -/
theorem finV_way {m : Mp} {b i : Nat} (V : Valid m) (hb : b < m.co.length) (hi : i < m.co.length) (ho : 0 < coA m i) (h : 0 ≤ finV m b i) (hne : i ≠ b) : ∃ n ∈ nextN m i, 0 ≤ finV m b n ∧ finV m b n + stepV m i n = finV m b i := by
  rcases (fin_inv V hb).wit i (by rw [(fin_inv V hb).len]; exact hi) h with e | ⟨n, hn, h0, h1⟩
  · exact absurd e hne
  · refine ⟨n, hn, h0, ?_⟩
    have := (finV_near V hb hi ho hn h0).2
    unfold finV at this ⊢
    omega
theorem finV_trans {m : Mp} {b c : Nat} (V : Valid m) (hb : b < m.co.length) (hc : c < m.co.length) (hbc : 0 ≤ finV m b c) : ∀ (k a : Nat), a < m.co.length → 0 < coA m a → 0 ≤ finV m c a → (finV m c a).toNat ≤ k → 0 ≤ finV m b a := by
  intro k
  induction k with
  | zero =>
    intro a ha ho h hk
    by_cases e : a = c
    · subst e; exact hbc
    · obtain ⟨n, hn, h0, h1⟩ := finV_way V hc ha ho h e
      have := step_pos V hn
      omega
  | succ k ih =>
    intro a ha ho h hk
    by_cases e : a = c
    · subst e; exact hbc
    · obtain ⟨n, hn, h0, h1⟩ := finV_way V hc ha ho h e
      have s := step_pos V hn
      have hm := mem_nextN.1 hn
      exact (finV_near V hb ha ho hn (ih n hm.1 hm.2.1 h0 (by omega))).1
end Go.Proofs.Ytijmlagehdmfeaa
