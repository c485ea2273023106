/- Plain laws: a text cut at a byte, piece by piece; the library's split at one byte. -/
import Derived.Test.YtmmpcchjalgokaaDoorSplit
import Derived.Lib.SplitLaws
import Derived.Lib.IndexBytes
import Derived.Lib.IndexLaws
namespace Go.Proofs.YtmmpcchjalgokaaDoor
set_option linter.unusedVariables false
set_option linter.unusedSimpArgs false
open Go.RowKit
/-- A byte does not stand in a text. -/
def NoB (s : ByteArray) (b : UInt8) : Prop := ∀ k : Nat, s.data.toList[k]? ≠ some b
theorem NoB.nil (b : UInt8) : NoB ⟨#[]⟩ b := by intro k h; simp at h
theorem NoB.mem {s : ByteArray} {b : UInt8} (h : ∀ x ∈ s.data.toList, x ≠ b) : NoB s b := fun k hk => h b (List.mem_of_getElem? hk) rfl
theorem NoB.app {s t : ByteArray} {b : UInt8} (h1 : NoB s b) (h2 : NoB t b) : NoB (s ++ t) b := by
  intro k hk
  rw [ByteArray.data_append, Array.toList_append] at hk
  rcases List.mem_append.1 (List.mem_of_getElem? hk) with h | h
  · obtain ⟨i, hi⟩ := List.mem_iff_getElem?.1 h
    exact h1 i hi
  · obtain ⟨i, hi⟩ := List.mem_iff_getElem?.1 h
    exact h2 i hi
theorem ext_all (s : ByteArray) : s.extract 0 s.size = s := by
  apply ByteArray.ext
  simp
theorem cutAt_no {s : ByteArray} {b : UInt8} : ∀ k : Nat, (∀ j : Nat, j < k → s.data.toList[j]? ≠ some b) → cutAt s b k = ([], 0)
  | 0, _ => rfl
  | k + 1, h => by
    rw [cutAt, if_neg (h k (by omega)), cutAt_no k (fun j hj => h j (by omega))]
theorem cuts_no {s : ByteArray} {b : UInt8} (h : NoB s b) : cuts s b = [s] := by
  unfold cuts
  rw [cutAt_no s.size (fun j _ => h j)]
  simp only [List.nil_append]
  rw [ext_all]
theorem ext_byte (s : ByteArray) (a j : Nat) : (s.extract a s.size).data.toList[j]? = s.data.toList[a + j]? := by
  rw [ByteArray.data_extract, Array.toList_extract, List.extract_eq_take_drop, List.getElem?_take, List.getElem?_drop]
  have hs : s.data.toList.length = s.size := by simp
  split
  · rfl
  · rw [List.getElem?_eq_none (by omega)]
theorem ext_ext (s : ByteArray) (a p q : Nat) (h : a + q ≤ s.size) : (s.extract a s.size).extract p q = s.extract (a + p) (a + q) := by
  apply ByteArray.ext
  simp only [ByteArray.data_extract]
  apply Array.ext_getElem?
  intro i
  simp only [Array.getElem?_extract]
  have hs : s.data.size = s.size := rfl
  by_cases h1 : i < a + q - (a + p)
  · have e1 : min q (min s.size s.data.size - a) - p = q - p := by omega
    have e2 : min (a + q) s.data.size - (a + p) = a + q - (a + p) := by omega
    simp only [Array.size_extract, hs]
    rw [if_pos (by omega), if_pos (by omega), if_pos (by omega)]
    congr 1
    omega
  · rw [if_neg (by simp only [Array.size_extract, hs]; omega), if_neg (by omega)]
theorem cutAt_hit {s : ByteArray} {b : UInt8} {o : Nat} (ho : s.data.toList[o]? = some b) (hn : ∀ j : Nat, j < o → s.data.toList[j]? ≠ some b) (hos : o < s.size) :
    ∀ k, o + 1 + k ≤ s.size → cutAt s b (o + 1 + k) = (s.extract 0 o :: (cutAt (s.extract (o + 1) s.size) b k).1, o + 1 + (cutAt (s.extract (o + 1) s.size) b k).2)
  | 0, _ => by
    have e : cutAt (s.extract (o + 1) s.size) b 0 = ([], 0) := rfl
    rw [e, Nat.add_zero, cutAt, if_pos ho, cutAt_no o hn]
    rfl
  | k + 1, hk => by
    have ih := cutAt_hit ho hn hos k (by omega)
    have hle := cutAt_le (s.extract (o + 1) s.size) b k
    rw [← Nat.add_assoc, cutAt, ih]
    show _ = (s.extract 0 o :: (cutAt _ b (k + 1)).1, o + 1 + (cutAt _ b (k + 1)).2)
    rw [cutAt, ext_byte]
    by_cases h : s.data.toList[o + 1 + k]? = some b
    · rw [if_pos h, if_pos h, ext_ext _ _ _ _ (by omega)]
      simp only [List.cons_append, Prod.mk.injEq, true_and]
      omega
    · rw [if_neg h, if_neg h]
theorem cuts_hit {s : ByteArray} {b : UInt8} {o : Nat} (ho : s.data.toList[o]? = some b) (hn : ∀ j : Nat, j < o → s.data.toList[j]? ≠ some b) :
    cuts s b = s.extract 0 o :: cuts (s.extract (o + 1) s.size) b := by
  have hos : o < s.size := by
    have := (List.getElem?_eq_some_iff.1 ho).1
    rwa [Array.length_toList] at this
  have hz : (s.extract (o + 1) s.size).size = s.size - (o + 1) := by simp
  have h := cutAt_hit ho hn hos (s.size - (o + 1)) (by omega)
  have hle := cutAt_le (s.extract (o + 1) s.size) b (s.size - (o + 1))
  rw [show o + 1 + (s.size - (o + 1)) = s.size by omega] at h
  unfold cuts
  rw [h, hz]
  simp only [List.cons_append]
  rw [ext_ext _ _ _ _ (by omega), show o + 1 + (s.size - (o + 1)) = s.size by omega]
theorem cuts_word {x : ByteArray} {b : UInt8} (hx : NoB x b) (t : ByteArray) : cuts (x ++ (⟨#[b]⟩ : ByteArray) ++ t) b = x :: cuts t b := by
  have hl : x.data.toList.length = x.size := by simp
  have ho : (x ++ (⟨#[b]⟩ : ByteArray) ++ t).data.toList[x.size]? = some b := by
    rw [ByteArray.data_append, ByteArray.data_append, Array.toList_append, Array.toList_append, List.append_assoc, List.getElem?_append_right (by omega), hl, Nat.sub_self]
    rfl
  have hn : ∀ j : Nat, j < x.size → (x ++ (⟨#[b]⟩ : ByteArray) ++ t).data.toList[j]? ≠ some b := by
    intro j hj
    rw [ByteArray.data_append, ByteArray.data_append, Array.toList_append, Array.toList_append, List.append_assoc, List.getElem?_append_left (by omega)]
    exact hx j
  rw [cuts_hit ho hn]
  have e1 : (x ++ (⟨#[b]⟩ : ByteArray) ++ t).extract 0 x.size = x := by
    apply ByteArray.ext
    simp only [ByteArray.data_extract, ByteArray.data_append]
    apply Array.ext'
    simp only [Array.toList_extract, Array.toList_append, List.extract_eq_take_drop, List.drop_zero, Nat.sub_zero, List.append_assoc]
    rw [← hl, List.take_left']
    rfl
  have e2 : (x ++ (⟨#[b]⟩ : ByteArray) ++ t).extract (x.size + 1) (x ++ (⟨#[b]⟩ : ByteArray) ++ t).size = t := by
    apply ByteArray.ext
    simp only [ByteArray.data_extract, ByteArray.data_append]
    apply Array.ext'
    simp only [Array.toList_extract, Array.toList_append, List.extract_eq_take_drop]
    have h9 : (x.data.toList ++ [b]).length = x.size + 1 := by simp
    rw [List.drop_left' h9, List.take_of_length_le]
    have h8 : (x ++ (⟨#[b]⟩ : ByteArray) ++ t).size = x.size + 1 + t.size := by rw [ByteArray.size_append, ByteArray.size_append]; rfl
    have h7 : t.data.toList.length = t.size := by simp
    omega
  rw [e1, e2]
theorem splitB_cuts (b : UInt8) : ∀ (n : Nat) (s : ByteArray), s.size ≤ n → Lib.splitB ⟨#[b]⟩ 0 (Lib.countB s ⟨#[b]⟩) s = cuts s b
  | n, s, hn => by
    have e1 : Lib.indexB s ⟨#[b]⟩ = Lib.indexByte s.data.toList b := Lib.index_one _ _
    rcases Lib.indexB_cases s ⟨#[b]⟩ with h | ⟨i, h, hi⟩
    · rw [Lib.splitB_miss _ _ _ _ h]
      rw [e1] at h
      exact (cuts_no (Lib.indexByte_none h)).symm
    · have hz : (⟨#[b]⟩ : ByteArray).size = 1 := rfl
      rw [Lib.countB_hit s _ i (by rw [hz]; exact Nat.le_refl _) h, Nat.add_comm, Lib.splitB_hit _ _ _ _ i h, hz]
      rw [e1] at h
      obtain ⟨h1, h2⟩ := Lib.indexByte_some h
      rw [cuts_hit h1 h2, Nat.add_zero]
      cases n with
      | zero => rw [hz] at hi; omega
      | succ n =>
        rw [splitB_cuts b n _ (by rw [hz] at hi; simp; omega)]
theorem count_cuts (s : ByteArray) (b : UInt8) : Lib.countB s ⟨#[b]⟩ + 1 = (cuts s b).length := by
  rw [← splitB_cuts b s.size s (Nat.le_refl _), Lib.splitB_all _ (Nat.le_refl _) 0 _ s rfl]
end Go.Proofs.YtmmpcchjalgokaaDoor
