/- A Map as plain data, what it is to be valid, and how a value reads as one. -/
import Derived.Test.YtdjdjceemfaigaaIsMap
namespace Go.Proofs.Ytdjdjceemfaigaa
set_option linter.unusedVariables false
set_option linter.unusedSimpArgs false
open Go.RowKit
structure Mp where
  wd : Int
  ht : Int
  ri : List Int
  co : List Int
def okM (m : Mp) : Bool := okMap m.wd m.ht m.ri m.co
structure Valid (m : Mp) : Prop where
  w1 : 1 ≤ m.wd
  w6 : m.wd ≤ 6
  h1 : 1 ≤ m.ht
  h6 : m.ht ≤ 6
  lr : (m.ri.length : Int) = m.wd * m.ht
  lc : m.co.length = m.ri.length
  ro : ∀ x ∈ m.ri, 0 ≤ x ∧ x ≤ 9
  cs : ∀ x ∈ m.co, 0 ≤ x ∧ x ≤ 9
theorem valid_iff {m : Mp} : okM m = true ↔ Valid m := by
  unfold okM okMap
  simp only [Bool.and_eq_true, insideB_iff, decide_eq_true_eq, List.all_eq_true]
  constructor
  · rintro ⟨⟨⟨⟨⟨⟨a, b⟩, c, d⟩, e⟩, f⟩, g⟩, h⟩
    exact ⟨a, b, c, d, e, f, g, h⟩
  · rintro ⟨a, b, c, d, e, f, g, h⟩
    exact ⟨⟨⟨⟨⟨⟨a, b⟩, c, d⟩, e⟩, f⟩, g⟩, h⟩
theorem Valid.n36 {m : Mp} (h : Valid m) : 1 ≤ m.co.length ∧ m.co.length ≤ 36 := by
  have h1 := Int.mul_le_mul h.w6 h.h6 (by have := h.h1; omega) (by omega)
  have h2 := Int.mul_le_mul h.w1 h.h1 (by omega) (by have := h.w1; omega)
  have := h.lr; have := h.lc
  omega
theorem Valid.n {m : Mp} (h : Valid m) : (m.co.length : Int) = m.wd * m.ht := by rw [h.lc]; exact h.lr
def Mp.val (m : Mp) (A : Option Addr) (n c : Nat) (B : Option Addr) (k d : Nat) : List Value := [.int .i64 m.wd, .int .i64 m.ht, .slice A n c, .slice B k d]
/-- The value v reads as the Map m in the world w. -/
def MapIn (w : World) (m : Mp) (v : Value) : Prop := ∃ A n c B k d, v = .agg #[.int .i64 m.wd, .int .i64 m.ht, .slice A n c, .slice B k d] ∧ Rd w w.heap.size 1 A n (ints m.ri) ∧ Rd w w.heap.size 1 B k (ints m.co) ∧ n ≤ maxLen ∧ k ≤ maxLen
theorem MapIn.on {w w' : World} {m : Mp} {v : Value} (h : MapIn w m v) (hb : Below w.heap.size w w') : MapIn w' m v := by
  obtain ⟨A, n, c, B, k, d, rfl, h1, h2, h3, h4⟩ := h
  exact ⟨A, n, c, B, k, d, rfl, h1.on hb, h2.on hb, h3, h4⟩
theorem MapIn.mk' {w : World} {m : Mp} {A : Option Addr} {n c : Nat} {B : Option Addr} {k d : Nat} (h1 : Rd w w.heap.size 1 A n (ints m.ri)) (h2 : Rd w w.heap.size 1 B k (ints m.co)) (h3 : n ≤ maxLen) (h4 : k ≤ maxLen) : MapIn w m (.agg #[.int .i64 m.wd, .int .i64 m.ht, .slice A n c, .slice B k d]) :=
  ⟨A, n, c, B, k, d, rfl, h1, h2, h3, h4⟩
theorem IsMap_m {m : Mp} {v : Value} {w : World} (hv : MapIn w m v) : Calls Try.prog 17 #[v] w fun e w' => e = .returned (.bool (okM m)) ∧ Below w.heap.size w w' := by
  obtain ⟨A, n, c, B, k, d, rfl, h1, h2, h3, h4⟩ := hv
  exact IsMap_impl h1 h2 h3 h4
theorem l2Map_m {m : Mp} {v : Value} {w : World} (hv : MapIn w m v) : Calls Try.prog 14 #[v] w fun e w' => e = .returned (.bool (okM m)) ∧ Below w.heap.size w w' := by
  obtain ⟨A, n, c, B, k, d, rfl, h1, h2, h3, h4⟩ := hv
  exact IsMap_l2 h1 h2 h3 h4
end Go.Proofs.Ytdjdjceemfaigaa
