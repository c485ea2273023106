/- Plain: the parts of a map: the cells that are reached from each other by steps. -/
import Derived.Test.YtdjdjceemfaigaaL2Next
namespace Go.Proofs.Ytdjdjceemfaigaa
set_option linter.unusedVariables false
set_option linter.unusedSimpArgs false
open Go.RowKit
theorem absI_sub (a b : Int) : absI (a - b) = absI (b - a) := by unfold absI; omega
theorem gapV_symm (wd a b : Int) : gapV wd a b = gapV wd b a := by
  unfold gapV
  rw [absI_sub (a % wd), absI_sub (a / wd)]
theorem nextN_symm {m : Mp} {a k : Nat} (ha : a < m.co.length) (oa : 0 < coA m a) (h : k ∈ nextN m a) : a ∈ nextN m k := by
  rw [mem_nextN] at h ⊢
  exact ⟨ha, oa, by rw [gapV_symm]; exact h.2.2⟩
/-- The cells that are reached by so many steps. -/
def lvl (m : Mp) (c : Nat) : Nat → List Nat
  | 0 => [c]
  | n + 1 => (lvl m c n).flatMap (nextN m)
def Reach (m : Mp) (c k : Nat) : Prop := ∃ n, k ∈ lvl m c n
theorem Reach.self (m : Mp) (c : Nat) : Reach m c c := ⟨0, List.mem_singleton.2 rfl⟩
theorem Reach.step {m : Mp} {c a k : Nat} (h : Reach m c a) (hk : k ∈ nextN m a) : Reach m c k := by
  obtain ⟨n, hn⟩ := h
  exact ⟨n + 1, List.mem_flatMap.2 ⟨a, hn, hk⟩⟩
theorem Reach.ind {m : Mp} {c : Nat} {P : Nat → Prop} (h0 : P c) (hs : ∀ a k, Reach m c a → P a → k ∈ nextN m a → P k) : ∀ k, Reach m c k → P k := by
  intro k ⟨n, hk⟩
  induction n generalizing k with
  | zero => rw [List.mem_singleton.1 hk]; exact h0
  | succ n ih =>
    obtain ⟨a, ha, h⟩ := List.mem_flatMap.1 hk
    exact hs a k ⟨n, ha⟩ (ih a ha) h
theorem Reach.trans {m : Mp} {a b c : Nat} (h : Reach m a b) (g : Reach m b c) : Reach m a c :=
  Reach.ind (P := fun k => Reach m a k) h (fun _ _ _ ih hk => ih.step hk) c g
def OpC (m : Mp) (c : Nat) : Prop := c < m.co.length ∧ 0 < coA m c
theorem Reach.good {m : Mp} {c k : Nat} (hc : OpC m c) (h : Reach m c k) : OpC m k :=
  Reach.ind (P := fun k => OpC m k) hc (fun _ _ _ _ hk => by rw [mem_nextN] at hk; exact ⟨hk.1, hk.2.1⟩) k h
theorem Reach.symm {m : Mp} {c k : Nat} (hc : OpC m c) (h : Reach m c k) : Reach m k c :=
  Reach.ind (P := fun k => Reach m k c) (Reach.self m c) (fun _ _ h1 ih hk => ((Reach.self m _).step (nextN_symm (h1.good hc).1 (h1.good hc).2 hk)).trans ih) k h
theorem asc_ext : ∀ {a b : List Int}, a.Pairwise (· < ·) → b.Pairwise (· < ·) → (∀ x, x ∈ a ↔ x ∈ b) → a = b
  | [], [], _, _, _ => rfl
  | [], y :: b, _, _, h => absurd ((h y).2 (List.mem_cons_self ..)) (List.not_mem_nil)
  | x :: a, [], _, _, h => absurd ((h x).1 (List.mem_cons_self ..)) (List.not_mem_nil)
  | x :: a, y :: b, ha, hb, h => by
    rw [List.pairwise_cons] at ha hb
    have hxy : x = y := by
      rcases List.mem_cons.1 ((h x).1 (List.mem_cons_self ..)) with e | e
      · exact e
      · rcases List.mem_cons.1 ((h y).2 (List.mem_cons_self ..)) with e' | e'
        · exact e'.symm
        · have h1 := hb.1 x e
          have h2 := ha.1 y e'
          omega
    subst hxy
    congr 1
    apply asc_ext ha.2 hb.2
    intro z
    constructor
    · intro hz
      rcases List.mem_cons.1 ((h z).1 (List.mem_cons_of_mem _ hz)) with e | e
      · have := ha.1 z hz; omega
      · exact e
    · intro hz
      rcases List.mem_cons.1 ((h z).2 (List.mem_cons_of_mem _ hz)) with e | e
      · have := hb.1 z hz; omega
      · exact e
theorem cast_asc {l : List Nat} (h : l.Pairwise (· < ·)) : (cast l).Pairwise (· < ·) := by
  unfold cast
  rw [List.pairwise_map]
  exact h.imp fun h => by omega
theorem mem_cast {l : List Nat} {x : Int} : x ∈ cast l ↔ ∃ k ∈ l, (k : Int) = x := by unfold cast; rw [List.mem_map]
theorem cast_mem {l : List Nat} {k : Nat} : (k : Int) ∈ cast l ↔ k ∈ l := by
  rw [mem_cast]
  constructor
  · rintro ⟨j, hj, e⟩
    have : j = k := by omega
    rw [← this]; exact hj
  · exact fun h => ⟨k, h, rfl⟩
theorem cast_inj {a b : List Nat} (h : cast a = cast b) : a = b := by
  unfold cast at h
  exact List.map_inj_right (fun x y h => by omega) |>.1 h
open Classical in
/-- A part: all that is reached from a cell, rising. -/
noncomputable def compL (m : Mp) (c : Nat) : List Nat := (List.range m.co.length).filter fun k => decide (Reach m c k)
open Classical in
theorem mem_compL {m : Mp} {c k : Nat} : k ∈ compL m c ↔ k < m.co.length ∧ Reach m c k := by
  unfold compL
  rw [List.mem_filter, List.mem_range, decide_eq_true_eq]
theorem compL_asc (m : Mp) (c : Nat) : (compL m c).Pairwise (· < ·) := List.Pairwise.filter _ List.pairwise_lt_range
theorem compL_self {m : Mp} {c : Nat} (hc : c < m.co.length) : c ∈ compL m c := mem_compL.2 ⟨hc, Reach.self m c⟩
theorem compL_len (m : Mp) (c : Nat) : (compL m c).length ≤ m.co.length := by
  have h := List.length_filter_le (fun k => @decide (Reach m c k) (Classical.propDecidable _)) (List.range m.co.length)
  rw [List.length_range] at h
  exact h
theorem asc_nat {a b : List Nat} (ha : a.Pairwise (· < ·)) (hb : b.Pairwise (· < ·)) (h : ∀ x, x ∈ a ↔ x ∈ b) : a = b := by
  refine cast_inj (asc_ext (cast_asc ha) (cast_asc hb) fun x => ?_)
  rw [mem_cast, mem_cast]
  exact ⟨fun ⟨k, hk, e⟩ => ⟨k, (h k).1 hk, e⟩, fun ⟨k, hk, e⟩ => ⟨k, (h k).2 hk, e⟩⟩
theorem comp_mem {m : Mp} {c : Nat} {l : List Nat} (hc : OpC m c) (hr : ∀ k ∈ l, Reach m c k) (h0 : c ∈ l) (hcl : ∀ a ∈ l, ∀ k ∈ nextN m a, k ∈ l) : ∀ x, x ∈ l ↔ x ∈ compL m c := by
  intro x
  rw [mem_compL]
  exact ⟨fun h => ⟨((hr x h).good hc).1, hr x h⟩, fun h => Reach.ind (P := fun k => k ∈ l) h0 (fun a k _ ih hk => hcl a ih k hk) x h.2⟩
theorem comp_of {m : Mp} {c : Nat} {l : List Nat} (hc : OpC m c) (ha : l.Pairwise (· < ·)) (hr : ∀ k ∈ l, Reach m c k) (h0 : c ∈ l) (hcl : ∀ a ∈ l, ∀ k ∈ nextN m a, k ∈ l) : l = compL m c :=
  asc_nat ha (compL_asc m c) (comp_mem hc hr h0 hcl)
/-- A rising list with one more put to its place. -/
theorem put_asc {l : List Nat} {n k : Nat} (ha : l.Pairwise (· < ·)) (hn : n ∉ l) (hk : k ≤ l.length) (h1 : ∀ (i : Nat) (hi : i < l.length), i < k → l[i] < n) (h2 : ∀ hi : k < l.length, n ≤ l[k]) :
    (l.take k ++ n :: l.drop k).Pairwise (· < ·) ∧ (∀ x, x ∈ l.take k ++ n :: l.drop k ↔ x = n ∨ x ∈ l) := by
  have hd : ∀ x ∈ l.drop k, n < x := by
    intro x hx
    obtain ⟨i, hi, rfl⟩ := List.mem_iff_getElem.1 hx
    rw [List.length_drop] at hi
    rw [List.getElem_drop]
    have hkl : k < l.length := by omega
    have h3 := h2 hkl
    have h4 : l[k] ≤ l[k + i] := by
      rcases Nat.eq_zero_or_pos i with e | e
      · subst e; exact Nat.le_refl _
      · exact Nat.le_of_lt (List.pairwise_iff_getElem.1 ha k (k + i) hkl (by omega) (by omega))
    have h5 : l[k + i] ≠ n := fun e => hn (e ▸ List.getElem_mem _)
    omega
  have ht : ∀ x ∈ l.take k, x < n := by
    intro x hx
    obtain ⟨i, hi, rfl⟩ := List.mem_iff_getElem.1 hx
    rw [List.length_take] at hi
    rw [List.getElem_take]
    exact h1 i (by omega) (by omega)
  constructor
  · rw [List.pairwise_append]
    refine ⟨ha.sublist (List.take_sublist k l), ?_, ?_⟩
    · rw [List.pairwise_cons]
      exact ⟨hd, ha.sublist (List.drop_sublist k l)⟩
    · intro a h3 b h4
      have := ht a h3
      rcases List.mem_cons.1 h4 with e | e
      · omega
      · have := hd b e; omega
  · intro x
    have e : x ∈ l ↔ x ∈ l.take k ∨ x ∈ l.drop k := by
      conv => lhs; rw [← List.take_append_drop k l]
      exact List.mem_append
    rw [List.mem_append, List.mem_cons, e]
    constructor
    · rintro (h | h | h)
      · exact .inr (.inl h)
      · exact .inl h
      · exact .inr (.inr h)
    · rintro (h | h | h)
      · exact .inr (.inl h)
      · exact .inl h
      · exact .inr (.inr h)
/-- The cells that an earlier part holds. -/
def Done (m : Mp) (c k : Nat) : Prop := ∃ a, a < c ∧ OpC m a ∧ Reach m a k
open Classical in
noncomputable def isHead (m : Mp) (c : Nat) : Bool := decide (OpC m c ∧ ¬ Done m c c)
theorem Done.next {m : Mp} {c k : Nat} : Done m (c + 1) k ↔ Done m c k ∨ (OpC m c ∧ Reach m c k) := by
  constructor
  · rintro ⟨a, h1, h2, h3⟩
    rcases Nat.lt_or_ge a c with h | h
    · exact .inl ⟨a, h, h2, h3⟩
    · have e : a = c := by omega
      subst e
      exact .inr ⟨h2, h3⟩
  · rintro (⟨a, h1, h2, h3⟩ | ⟨h2, h3⟩)
    · exact ⟨a, by omega, h2, h3⟩
    · exact ⟨c, by omega, h2, h3⟩
theorem Done.stay {m : Mp} {c k : Nat} (h : ¬ OpC m c ∨ Done m c c) : Done m (c + 1) k ↔ Done m c k := by
  rw [Done.next]
  constructor
  · rintro (h1 | ⟨h1, h2⟩)
    · exact h1
    · rcases h with h | ⟨a, g1, g2, g3⟩
      · exact absurd h1 h
      · exact ⟨a, g1, g2, g3.trans h2⟩
  · exact .inl
theorem Done.apart {m : Mp} {c k : Nat} (hc : OpC m c) (hd : ¬ Done m c c) (hr : Reach m c k) : ¬ Done m c k := by
  rintro ⟨a, h1, h2, h3⟩
  exact hd ⟨a, h1, h2, h3.trans (hr.symm hc)⟩
open Classical in
/-- A part begins with its cell exactly where no earlier one holds it. -/
theorem head_iff {m : Mp} {c : Nat} (hc : OpC m c) : ∃ h : 0 < (compL m c).length, ((compL m c)[0] = c ↔ isHead m c = true) := by
  have hm := compL_self hc.1
  have hl : 0 < (compL m c).length := List.length_pos_of_mem hm
  refine ⟨hl, ?_⟩
  have h0 := List.getElem_mem hl
  have hmin : ∀ x ∈ compL m c, (compL m c)[0] ≤ x := by
    intro x hx
    obtain ⟨i, hi, rfl⟩ := List.mem_iff_getElem.1 hx
    rcases Nat.eq_zero_or_pos i with e | e
    · subst e; exact Nat.le_refl _
    · exact Nat.le_of_lt (List.pairwise_iff_getElem.1 (compL_asc m c) 0 i hl hi e)
  generalize (compL m c)[0] = z at *
  have hz := mem_compL.1 h0
  unfold isHead
  rw [decide_eq_true_eq]
  constructor
  · rintro e
    subst e
    refine ⟨hc, ?_⟩
    rintro ⟨a, h1, h2, h3⟩
    have := hmin a (mem_compL.2 ⟨h2.1, h3.symm h2⟩)
    omega
  · rintro ⟨_, hd⟩
    have h1 := hmin c hm
    rcases Nat.lt_or_ge z c with h | h
    · exact absurd ⟨z, h, hz.2.good hc, hz.2.symm hc⟩ hd
    · omega
/-- The parts with a first cell below c. -/
noncomputable def partsT (m : Mp) (c : Nat) : List (List Int) := ((List.range c).filter (isHead m)).map fun a => cast (compL m a)
theorem partsT_next (m : Mp) (c : Nat) : partsT m (c + 1) = if isHead m c = true then partsT m c ++ [cast (compL m c)] else partsT m c := by
  unfold partsT
  rw [List.range_succ, List.filter_append, List.map_append]
  cases h : isHead m c <;> simp [h]
theorem partsT_len (m : Mp) (c : Nat) : (partsT m c).length ≤ c := by
  unfold partsT
  rw [List.length_map]
  have := List.length_filter_le (isHead m) (List.range c)
  rwa [List.length_range] at this
noncomputable def opL (m : Mp) : List (List Int) := if okM m = true then partsT m m.co.length else []
theorem partsT_row {m : Mp} {c : Nat} {r : List Int} (h : r ∈ partsT m c) : r.length ≤ m.co.length := by
  unfold partsT at h
  obtain ⟨a, _, rfl⟩ := List.mem_map.1 h
  rw [cast_len]
  exact compL_len m a
/-- What a sorted list of the part's cells is. -/
theorem comp_sort {m : Mp} {c : Nat} {l : List Nat} {r : List Int} (hm : ∀ x, x ∈ l ↔ x ∈ compL m c) (hn : l.Nodup) (hp : r.Perm (cast l)) (hs : r.Pairwise (· ≤ ·)) : r = cast (compL m c) := by
  have hnd : (cast l).Nodup := by
    unfold cast
    unfold List.Nodup at hn ⊢
    rw [List.pairwise_map]
    exact hn.imp fun h e => h (by omega)
  have hnr : r.Nodup := hp.nodup_iff.2 hnd
  refine asc_ext ?_ (cast_asc (compL_asc m c)) fun x => ?_
  · unfold List.Nodup at hnr
    exact (List.Pairwise.and hs hnr).imp fun ⟨h1, h2⟩ => by omega
  · rw [hp.mem_iff, mem_cast, mem_cast]
    exact ⟨fun ⟨k, hk, e⟩ => ⟨k, (hm k).1 hk, e⟩, fun ⟨k, hk, e⟩ => ⟨k, (hm k).2 hk, e⟩⟩
/-- A list without repeats of numbers below N has N at most. -/
theorem nodup_le : ∀ (N : Nat) {l : List Nat}, l.Nodup → (∀ x ∈ l, x < N) → l.length ≤ N
  | 0, l, _, h => by
    cases l with
    | nil => simp
    | cons a l => exact absurd (h a (List.mem_cons_self ..)) (by omega)
  | N + 1, l, hn, h => by
    have h1 := nodup_le N (hn.filter fun x => decide (x ≠ N)) (fun x hx => by
      rw [List.mem_filter, decide_eq_true_eq] at hx
      have := h x hx.1
      omega)
    have h2 : l.length ≤ (l.filter fun x => decide (x ≠ N)).length + 1 := by
      clear h h1
      induction l with
      | nil => simp
      | cons a l ih =>
        rw [List.nodup_cons] at hn
        by_cases e : a = N
        · have hf : (l.filter fun x => decide (x ≠ N)) = l := by
            rw [List.filter_eq_self]
            intro x hx
            rw [decide_eq_true_eq]
            intro e2
            exact hn.1 (by rw [e, ← e2]; exact hx)
          rw [List.filter_cons_of_neg (by simp [e]), hf]
          simp
        · rw [List.filter_cons_of_pos (by simpa using e)]
          have := ih hn.2
          simp only [List.length_cons]
          omega
    omega
end Go.Proofs.Ytdjdjceemfaigaa
