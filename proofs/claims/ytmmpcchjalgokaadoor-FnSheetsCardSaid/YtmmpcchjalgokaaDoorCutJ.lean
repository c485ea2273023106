/- Plain laws: a text's words put together again; a text cut at a byte that stands within it. -/
import Derived.Test.YtmmpcchjalgokaaDoorCutB
import Derived.Test.YtmmpcchjalgokaaDoorRead
import Derived.Lib.Join
import Derived.Lib.IndexMore
namespace Go.Proofs.YtmmpcchjalgokaaDoor
set_option linter.unusedVariables false
set_option linter.unusedSimpArgs false
open Go.RowKit
def jnB (b : UInt8) (l : List ByteArray) : ByteArray := ⟨(Lib.join (l.map (·.data.toList)) [b]).toArray⟩
abbrev jnS (l : List ByteArray) : ByteArray := jnB 32 l
theorem jnB_one (b : UInt8) (a : ByteArray) : jnB b [a] = a := by
  unfold jnB
  rw [List.map_cons, List.map_nil, Lib.join_one]
theorem jnB_cons2 (c : UInt8) (a b : ByteArray) (l : List ByteArray) : jnB c (a :: b :: l) = a ++ (⟨#[c]⟩ : ByteArray) ++ jnB c (b :: l) := by
  unfold jnB
  rw [List.map_cons, Lib.join_cons, List.map_cons, Lib.join_cons]
  apply ByteArray.ext
  simp [Lib.joinTail]
theorem jnS_one (a : ByteArray) : jnS [a] = a := jnB_one 32 a
theorem jnS_cons2 (a b : ByteArray) (l : List ByteArray) : jnS (a :: b :: l) = a ++ (⟨#[32]⟩ : ByteArray) ++ jnS (b :: l) := jnB_cons2 32 a b l
theorem cuts_jnS : ∀ l : List ByteArray, l ≠ [] → (∀ x ∈ l, NoB x 32) → cuts (jnS l) 32 = l
  | [], h, _ => absurd rfl h
  | [a], _, h => by rw [jnS_one, cuts_no (h a (List.mem_cons_self ..))]
  | a :: b :: l, _, h => by
    rw [jnS_cons2, cuts_word (h a (List.mem_cons_self ..)), cuts_jnS (b :: l) (by simp) (fun x hx => h x (List.mem_cons_of_mem _ hx))]
theorem cuts_ne (s : ByteArray) (b : UInt8) : cuts s b ≠ [] := by
  intro h
  have := (cuts_len s b).2
  rw [h] at this
  simp at this
/-- A text that holds a byte, taken apart at the first one. -/
theorem noB_or (x : ByteArray) (b : UInt8) : NoB x b ∨ ∃ x1 x2 : ByteArray, x = x1 ++ (⟨#[b]⟩ : ByteArray) ++ x2 ∧ NoB x1 b ∧ x2.size < x.size := by
  by_cases h : b ∈ x.data.toList
  · obtain ⟨us, vs, e, hn⟩ := List.eq_append_cons_of_mem h
    have ex : x = (⟨us.toArray⟩ : ByteArray) ++ (⟨#[b]⟩ : ByteArray) ++ (⟨vs.toArray⟩ : ByteArray) := by
      apply ByteArray.ext
      apply Array.ext'
      rw [e]
      simp
    refine Or.inr ⟨⟨us.toArray⟩, ⟨vs.toArray⟩, ex, NoB.mem fun y hy hb => hn (by subst hb; simpa using hy), ?_⟩
    have h1 : (⟨#[b]⟩ : ByteArray).size = 1 := rfl
    have := congrArg ByteArray.size ex
    rw [ByteArray.size_append, ByteArray.size_append, h1] at this
    omega
  · exact Or.inl (NoB.mem fun y hy hb => h (hb ▸ hy))
theorem cuts_app (b : UInt8) (t : ByteArray) : ∀ (n : Nat) (x : ByteArray), x.size ≤ n → cuts (x ++ (⟨#[b]⟩ : ByteArray) ++ t) b = cuts x b ++ cuts t b
  | n, x, hn => by
    rcases noB_or x b with h | ⟨x1, x2, e, h1, h2⟩
    · rw [cuts_word h, cuts_no h]; rfl
    · cases n with
      | zero => omega
      | succ n =>
        have ih := cuts_app b t n x2 (by omega)
        have ea : x1 ++ (⟨#[b]⟩ : ByteArray) ++ x2 ++ (⟨#[b]⟩ : ByteArray) ++ t = x1 ++ (⟨#[b]⟩ : ByteArray) ++ (x2 ++ (⟨#[b]⟩ : ByteArray) ++ t) := by simp only [ByteArray.append_assoc]
        rw [e, ea, cuts_word h1, cuts_word h1, ih, List.cons_append]
theorem jnB_cuts (b : UInt8) : ∀ (n : Nat) (x : ByteArray), x.size ≤ n → jnB b (cuts x b) = x
  | n, x, hn => by
    rcases noB_or x b with h | ⟨x1, x2, e, h1, h2⟩
    · rw [cuts_no h, jnB_one]
    · cases n with
      | zero => omega
      | succ n =>
        have ih := jnB_cuts b n x2 (by omega)
        rw [e, cuts_word h1]
        cases hc : cuts x2 b with
        | nil => exact absurd hc (cuts_ne x2 b)
        | cons a l => rw [jnB_cons2, ← hc, ih]
theorem jnS_cuts (n : Nat) (x : ByteArray) (h : x.size ≤ n) : jnS (cuts x 32) = x := jnB_cuts 32 n x h
theorem cuts_clean (b : UInt8) : ∀ (n : Nat) (x : ByteArray), x.size ≤ n → (∀ y ∈ cuts x b, NoB y b) ∧ ((cuts x b).map ByteArray.size).sum + (cuts x b).length = x.size + 1
  | n, x, hn => by
    rcases noB_or x b with h | ⟨x1, x2, e, h1, h2⟩
    · rw [cuts_no h]
      refine ⟨fun y hy => by rw [List.mem_singleton.1 hy]; exact h, by simp⟩
    · cases n with
      | zero => omega
      | succ n =>
        obtain ⟨i1, i2⟩ := cuts_clean b n x2 (by omega)
        have h9 : (⟨#[b]⟩ : ByteArray).size = 1 := rfl
        rw [e, cuts_word h1]
        refine ⟨fun y hy => ?_, ?_⟩
        · rcases List.mem_cons.1 hy with rfl | hy
          · exact h1
          · exact i1 y hy
        · rw [List.map_cons, List.sum_cons, List.length_cons, ByteArray.size_append, ByteArray.size_append, h9]
          omega
theorem NoB.low45 (z : Int) {b : UInt8} (hb45 : b.toNat < 45) : NoB (itoaB z) b := by
  refine NoB.mem fun x hx hb => ?_
  rw [itoa_list] at hx
  subst hb
  rcases Int.lt_or_le z 0 with h | h
  · obtain ⟨u, rfl⟩ : ∃ u : Nat, z = -(u : Int) := ⟨(-z).toNat, by omega⟩
    rw [Lib.itoa_neg u (by omega)] at hx
    rcases List.mem_cons.1 hx with h1 | h1
    · subst h1; exact absurd hb45 (by decide)
    · have := (digits_byte u _ h1).1
      omega
  · obtain ⟨u, rfl⟩ := Int.eq_ofNat_of_zero_le h
    rw [Lib.itoa_nonneg] at hx
    have := (digits_byte u _ hx).1
    omega
theorem NoB.nmb (z : Int) : NoB (itoaB z) 32 := NoB.low45 z (by decide)
theorem mid_apart {α : Type} {a : α} : ∀ {l1 m1 l2 m2 : List α}, l1 ++ a :: l2 = m1 ++ a :: m2 → a ∉ m1 → a ∉ m2 → l1 = m1 ∧ l2 = m2
  | [], [], l2, m2, h, _, _ => by simpa using h
  | [], b :: m1, l2, m2, h, h1, _ => by
    simp only [List.nil_append, List.cons_append, List.cons.injEq] at h
    exact absurd (by rw [h.1]; exact List.mem_cons_self ..) h1
  | b :: l1, [], l2, m2, h, _, h2 => by
    simp only [List.nil_append, List.cons_append, List.cons.injEq] at h
    exact absurd (by rw [← h.2]; simp) h2
  | b :: l1, c :: m1, l2, m2, h, h1, h2 => by
    simp only [List.cons_append, List.cons.injEq] at h
    obtain ⟨rfl, h⟩ := h
    obtain ⟨rfl, rfl⟩ := mid_apart h (fun h9 => h1 (List.mem_cons_of_mem _ h9)) h2
    exact ⟨rfl, rfl⟩
end Go.Proofs.YtmmpcchjalgokaaDoor
