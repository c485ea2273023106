/- Plain laws: words in ascending order, each once: by insertion, and by sorting and dropping repeats. -/
import Derived.Test.YtmcldakdefeepaaStrs
import Derived.Lib.SlicesCompact
import Derived.Lib.OwnBridge
import Derived.Sort.Walk0
namespace Go.Proofs.Ytmcldakdefeepaa
set_option linter.unusedVariables false
set_option linter.unusedSimpArgs false
abbrev Bs := List UInt8
def insU : List Bs → Bs → List Bs
  | [], x => [x]
  | a :: l, x => if a < x then a :: insU l x else if a = x then a :: l else x :: a :: l
theorem lt_of_not {a b : Bs} (h1 : ¬ a < b) (h2 : a ≠ b) : b < a := by
  by_cases h : b < a
  · exact h
  · exact absurd (List.le_antisymm (List.not_lt.1 h) (List.not_lt.1 h1)) h2
theorem mem_insU : ∀ (l : List Bs) (x y : Bs), y ∈ insU l x ↔ y = x ∨ y ∈ l
  | [], x, y => by simp [insU]
  | a :: l, x, y => by
    unfold insU
    split
    · simp only [List.mem_cons, mem_insU l x y]
      constructor
      · rintro (h | h | h) <;> simp [h]
      · rintro (h | h | h) <;> simp [h]
    · split
      · next h1 h2 => subst h2; simp
      · simp only [List.mem_cons]
theorem sorted_insU : ∀ (l : List Bs) (x : Bs), l.Pairwise (· < ·) → (insU l x).Pairwise (· < ·)
  | [], x, _ => by simp [insU]
  | a :: l, x, h => by
    obtain ⟨ha, hl⟩ := List.pairwise_cons.1 h
    unfold insU
    split
    · next h1 =>
      refine List.pairwise_cons.2 ⟨fun y hy => ?_, sorted_insU l x hl⟩
      rcases (mem_insU l x y).1 hy with rfl | hy
      · exact h1
      · exact ha y hy
    · next h1 =>
      split
      · exact h
      · next h2 =>
        have hxa := lt_of_not h1 h2
        refine List.pairwise_cons.2 ⟨fun y hy => ?_, h⟩
        rcases List.mem_cons.1 hy with rfl | hy
        · exact hxa
        · exact List.lt_trans hxa (ha y hy)
theorem sorted_eq : ∀ (l l' : List Bs), l.Pairwise (· < ·) → l'.Pairwise (· < ·) → (∀ y, y ∈ l ↔ y ∈ l') → l = l'
  | [], [], _, _, _ => rfl
  | [], b :: l', _, _, hm => absurd ((hm b).2 (by simp)) (by simp)
  | a :: l, [], _, _, hm => absurd ((hm a).1 (by simp)) (by simp)
  | a :: l, b :: l', h, h', hm => by
    obtain ⟨ha, hl⟩ := List.pairwise_cons.1 h
    obtain ⟨hb, hl'⟩ := List.pairwise_cons.1 h'
    have hab : a = b := by
      rcases List.mem_cons.1 ((hm a).1 (by simp)) with e | h1
      · exact e
      · rcases List.mem_cons.1 ((hm b).2 (by simp)) with e | h2
        · exact e.symm
        · exact absurd (List.lt_trans (ha b h2) (hb a h1)) (List.lt_irrefl a)
    subst hab
    congr 1
    refine sorted_eq l l' hl hl' fun y => ⟨fun hy => ?_, fun hy => ?_⟩
    · rcases List.mem_cons.1 ((hm y).1 (by simp [hy])) with e | h1
      · subst e; exact absurd (ha y hy) (List.lt_irrefl y)
      · exact h1
    · rcases List.mem_cons.1 ((hm y).2 (by simp [hy])) with e | h1
      · subst e; exact absurd (hb y hy) (List.lt_irrefl y)
      · exact h1
theorem foldl_insU_mem : ∀ (cs acc : List Bs) (y : Bs), y ∈ cs.foldl insU acc ↔ y ∈ acc ∨ y ∈ cs
  | [], acc, y => by simp
  | c :: cs, acc, y => by
    rw [List.foldl_cons, foldl_insU_mem cs, mem_insU, List.mem_cons]
    constructor
    · rintro ((h | h) | h) <;> simp [h]
    · rintro (h | h | h) <;> simp [h]
theorem foldl_insU_sorted : ∀ (cs acc : List Bs), acc.Pairwise (· < ·) → (cs.foldl insU acc).Pairwise (· < ·)
  | [], _, h => h
  | c :: cs, acc, h => foldl_insU_sorted cs _ (sorted_insU acc c h)
theorem keeps_from (d : Array Bs) : ∀ j, ∃ k, k ≤ j ∧ Lib.keeps d k = true ∧ d[k]! = d[j]!
  | 0 => ⟨0, Nat.le_refl _, by simp [Lib.keeps], rfl⟩
  | j + 1 => by
    by_cases h : d[j + 1]! = d[j]!
    · obtain ⟨k, hk, h1, h2⟩ := keeps_from d j
      exact ⟨k, by omega, h1, h2.trans h.symm⟩
    · exact ⟨j + 1, Nat.le_refl _, by simp [Lib.keeps, h], rfl⟩
theorem get_arr (zs : List Bs) {j : Nat} (hj : j < zs.length) : zs.toArray[j]! = zs[j] := by
  rw [getElem!_pos _ j (by simpa using hj)]
  simp
theorem mem_compact (zs : List Bs) (y : Bs) : y ∈ Lib.compact zs ↔ y ∈ zs := by
  unfold Lib.compact Lib.compactUpTo
  simp only [List.mem_map, List.mem_filter, List.mem_range]
  constructor
  · rintro ⟨j, ⟨hj, _⟩, rfl⟩
    rw [get_arr zs hj]
    exact List.getElem_mem hj
  · intro hy
    obtain ⟨j, hj, rfl⟩ := List.mem_iff_getElem.1 hy
    obtain ⟨k, hk, h1, h2⟩ := keeps_from zs.toArray j
    exact ⟨k, ⟨by omega, h1⟩, by rw [h2, get_arr zs hj]⟩
theorem compact_sorted (zs : List Bs) (h : zs.Pairwise (· ≤ ·)) : (Lib.compact zs).Pairwise (· < ·) := by
  unfold Lib.compact Lib.compactUpTo
  rw [List.pairwise_map, List.pairwise_filter]
  refine List.Pairwise.imp_of_mem (fun {i j} hi hj hij hki hkj => ?_) List.pairwise_lt_range
  have hi' := List.mem_range.1 hi
  have hj' := List.mem_range.1 hj
  have le : ∀ (a b : Nat) (ha : a < zs.length) (hb : b < zs.length), a ≤ b → zs[a] ≤ zs[b] := fun a b ha hb hab => by
    by_cases e : a = b
    · subst e; exact List.le_refl _
    · exact List.pairwise_iff_getElem.1 h a b ha hb (by omega)
  rw [get_arr zs hi', get_arr zs hj']
  unfold Lib.keeps at hkj
  rw [decide_eq_true_eq] at hkj
  rcases hkj with e | hne
  · omega
  · rw [get_arr zs hj', get_arr zs (by omega)] at hne
    by_cases hlt : zs[i] < zs[j]
    · exact hlt
    · have h1 := List.not_lt.1 hlt
      have h2 := le i (j - 1) hi' (by omega) (by omega)
      have h3 := le (j - 1) j (by omega) hj' (by omega)
      exact absurd (List.le_antisymm (List.le_trans h1 h2) h3) hne
theorem compact_len (zs : List Bs) : (Lib.compact zs).length ≤ zs.length := by
  unfold Lib.compact Lib.compactUpTo
  rw [List.length_map]
  have := List.length_filter_le (Lib.keeps zs.toArray) (List.range zs.length)
  simpa using this
theorem clubs_eq (cs : List Bs) : Lib.compact (cs.mergeSort fun x y => decide (x ≤ y)) = cs.foldl insU [] := by
  have tr : ∀ a b c : Bs, decide (a ≤ b) = true → decide (b ≤ c) = true → decide (a ≤ c) = true := fun a b c h1 h2 => by
    simp only [decide_eq_true_eq] at *; exact List.le_trans h1 h2
  have to : ∀ a b : Bs, (decide (a ≤ b) || decide (b ≤ a)) = true := fun a b => by
    simp only [Bool.or_eq_true, decide_eq_true_eq]; exact List.le_total a b
  refine sorted_eq _ _ (compact_sorted _ ?_) (foldl_insU_sorted cs [] List.Pairwise.nil) fun y => ?_
  · exact (List.pairwise_mergeSort tr to cs).imp (fun h => by simpa using h)
  · rw [mem_compact, List.mem_mergeSort, foldl_insU_mem]; simp
/-! ### The same on byte arrays, with the model's own comparisons -/
def ltB (a b : ByteArray) : Bool := Op.bytesLess a.toList b.toList
def eqS (a b : ByteArray) : Bool := a.toList == b.toList
def key (b : ByteArray) : Bs := b.data.toList
theorem ltB_key (a b : ByteArray) : ltB a b = decide (key a < key b) := by
  unfold ltB key
  rw [bytesLess_eq, Lib.toList_data, Lib.toList_data]
theorem eqS_key (a b : ByteArray) : eqS a b = decide (key a = key b) := by
  unfold eqS key
  rw [Lib.toList_data, Lib.toList_data, Bool.eq_iff_iff]
  simp
def insB : List ByteArray → ByteArray → List ByteArray
  | [], x => [x]
  | a :: l, x => if ltB a x = true then a :: insB l x else if eqS a x = true then a :: l else x :: a :: l
theorem insB_key : ∀ (l : List ByteArray) (x : ByteArray), (insB l x).map key = insU (l.map key) (key x)
  | [], x => rfl
  | a :: l, x => by
    unfold insB
    rw [ltB_key, eqS_key, List.map_cons]
    unfold insU
    simp only [decide_eq_true_eq]
    split
    · rw [List.map_cons, insB_key l x]
    · split <;> simp
theorem insB_at : ∀ (l : List ByteArray) (x : ByteArray) (k : Nat), k ≤ l.length → (∀ (e : Nat) (he : e < l.length), e < k → ltB l[e] x = true) → (∀ (hk : k < l.length), ltB l[k] x = false) →
    ((∀ (hk : k < l.length), eqS l[k] x = false) → insB l x = l.take k ++ x :: l.drop k) ∧ (∀ (hk : k < l.length), eqS l[k] x = true → insB l x = l)
  | [], x, k, hk, _, _ => by
    have : k = 0 := by simpa using hk
    subst this
    exact ⟨fun _ => rfl, fun hk => absurd hk (by simp)⟩
  | a :: l, x, 0, _, _, hs => by
    have h0 : ltB a x = false := hs (Nat.succ_pos _)
    unfold insB
    rw [if_neg (by rw [h0]; simp)]
    refine ⟨fun h => ?_, fun hk h => ?_⟩
    · have h1 : eqS a x = false := h (Nat.succ_pos _)
      rw [if_neg (by rw [h1]; simp)]; rfl
    · have h1 : eqS a x = true := h
      rw [if_pos h1]
  | a :: l, x, k + 1, hk, h, hs => by
    have h0 : ltB a x = true := h 0 (Nat.succ_pos _) (Nat.succ_pos _)
    have ih := insB_at l x k (by simpa using hk) (fun e he hek => h (e + 1) (Nat.succ_lt_succ he) (Nat.succ_lt_succ hek)) (fun hk' => hs (Nat.succ_lt_succ hk'))
    unfold insB
    rw [if_pos h0]
    refine ⟨fun h' => ?_, fun hk' h' => ?_⟩
    · rw [ih.1 (fun hk' => h' (Nat.succ_lt_succ hk'))]; rfl
    · rw [ih.2 (Nat.lt_of_succ_lt_succ hk') h']
theorem insB_len : ∀ (l : List ByteArray) (x : ByteArray), (insB l x).length ≤ l.length + 1
  | [], x => Nat.le_refl _
  | a :: l, x => by
    unfold insB
    split
    · have := insB_len l x; simp; omega
    · split <;> simp
def clubB (cs : List ByteArray) : List ByteArray := cs.foldl insB []
theorem foldl_insB_key : ∀ (cs acc : List ByteArray), (cs.foldl insB acc).map key = (cs.map key).foldl insU (acc.map key)
  | [], _ => rfl
  | c :: cs, acc => by rw [List.foldl_cons, foldl_insB_key cs, insB_key]; rfl
theorem clubB_key (cs : List ByteArray) : (clubB cs).map key = Lib.compact ((cs.map key).mergeSort fun x y => decide (x ≤ y)) := by
  rw [clubs_eq]; exact foldl_insB_key cs []
theorem clubB_len (cs : List ByteArray) : (clubB cs).length ≤ cs.length := by
  have h1 : (clubB cs).length = ((clubB cs).map key).length := by simp
  rw [h1, clubB_key]
  have := compact_len ((cs.map key).mergeSort fun x y => decide (x ≤ y))
  simpa using this
theorem clubB_snoc (cs : List ByteArray) (c : ByteArray) : clubB (cs ++ [c]) = insB (clubB cs) c := by simp [clubB]
theorem strs_enc (l : List ByteArray) : strs l = (l.map key).map encStr := (Lib.map_encStr l).symm
end Go.Proofs.Ytmcldakdefeepaa
