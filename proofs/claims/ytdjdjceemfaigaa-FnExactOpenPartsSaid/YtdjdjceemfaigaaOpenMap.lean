/- A Map that came in, opened. -/
import Derived.Test.YtdjdjceemfaigaaOpen
namespace Go.Proofs.Ytdjdjceemfaigaa
set_option linter.unusedVariables false
set_option linter.unusedSimpArgs false
open Go.ChangeShapes Go.WideShapes Go.ChangeAt Go.RowKit Go.Joins Go.Deep
section
variable {H : Type} {enc : TypeId × Value → H} {w : World} {base : Nat} {spare : Nat → Bool} {held : Bool}
theorem opn_map {r : Reach} {b0 : Nat} {v : Value} {d : DataW H} {p : List MemPlace} (hv : Value.okWide Try.prog w r b0 24 v) (h : DataW.Trod enc Try.prog w base spare held 24 v d p) :
    ∃ (wd ht : Int) (A : Option Addr) (n c : Nat) (B : Option Addr) (m c' : Nat) (ri co : List Int), v = .agg #[.int .i64 wd, .int .i64 ht, .slice A n c, .slice B m c'] ∧ I64 wd ∧ I64 ht ∧
      (n ≤ maxLen ∧ c ≤ maxLen ∧ Rd w w.heap.size 1 A n (ints ri) ∧ ∀ x ∈ ri, I64 x) ∧ (m ≤ maxLen ∧ c' ≤ maxLen ∧ Rd w w.heap.size 1 B m (ints co) ∧ ∀ x ∈ co, I64 x) := by
  obtain ⟨cs, rfl, hl, hf⟩ := opn_fields Try.underlying24 (by kernel_rfl) (by kernel_rfl) hv h
  obtain ⟨c0, c1, c2, c3, rfl⟩ := arr4 hl
  obtain ⟨_, _, _, e0, t0⟩ := hf 0 _ rfl
  obtain ⟨_, _, _, e1, t1⟩ := hf 1 _ rfl
  obtain ⟨_, _, _, e2, t2⟩ := hf 2 _ rfl
  obtain ⟨_, _, _, e3, t3⟩ := hf 3 _ rfl
  simp only [List.getElem?_cons_zero, List.getElem?_cons_succ, Option.some.injEq] at e0 e1 e2 e3
  subst e0; subst e1; subst e2; subst e3
  obtain ⟨wd, e0, _, w0⟩ := DataW.trod_int Try.underlying3 t0
  obtain ⟨ht, e1, _, w1⟩ := DataW.trod_int Try.underlying3 t1
  simp only [List.cons.injEq, and_true] at e0 e1
  subst e0; subst e1
  obtain ⟨A, n, c, ri, rfl, h2⟩ := opn_ints_at Try.underlying22 Try.underlying3 (by kernel_rfl) t2
  obtain ⟨B, m, c', co, rfl, h3⟩ := opn_ints_at Try.underlying22 Try.underlying3 (by kernel_rfl) t3
  exact ⟨wd, ht, A, n, c, B, m, c', ri, co, rfl, i64_of_wf w0, i64_of_wf w1, h2, h3⟩
end
end Go.Proofs.Ytdjdjceemfaigaa
