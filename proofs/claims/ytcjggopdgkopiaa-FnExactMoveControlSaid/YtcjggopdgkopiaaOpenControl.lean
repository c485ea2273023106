/- Controls that came in, opened. -/
import Derived.Test.YtcjggopdgkopiaaOpen
import Derived.Test.YtcjggopdgkopiaaData
namespace Go.Proofs.Ytcjggopdgkopiaa
set_option linter.unusedVariables false
set_option linter.unusedSimpArgs false
open Go.ChangeShapes Go.WideShapes Go.ChangeAt Go.RowKit Go.Joins Go.Deep
def Ct.Ok (r : Ct) : Prop := I64 r.code ∧ I64 r.cell
section
variable {H : Type} {enc : TypeId × Value → H} {w : World} {base : Nat} {spare : Nat → Bool} {held : Bool}
theorem ct_of_fields {cs : List Value} (hl : cs.length = 2) (h0 : ∃ c y n, cs[0]? = some c ∧ DataW.trod enc Try.prog w base spare held n 3 [c] = some y) (h1 : ∃ c y n, cs[1]? = some c ∧ DataW.trod enc Try.prog w base spare held n 3 [c] = some y) :
    ∃ r : Ct, cs = r.cells ∧ r.Ok := by
  obtain ⟨c0, c1, rfl⟩ := arr2 hl
  obtain ⟨_, _, _, e0, t0⟩ := h0
  obtain ⟨_, _, _, e1, t1⟩ := h1
  simp only [List.getElem?_cons_zero, List.getElem?_cons_succ, Option.some.injEq] at e0 e1
  subst e0; subst e1
  obtain ⟨a0, e0, _, w0⟩ := DataW.trod_int Try.underlying3 t0
  obtain ⟨a1, e1, _, w1⟩ := DataW.trod_int Try.underlying3 t1
  simp only [List.cons.injEq, and_true] at e0 e1
  subst e0; subst e1
  exact ⟨⟨a0, a1⟩, rfl, i64_of_wf w0, i64_of_wf w1⟩
theorem opn_control {r : Reach} {b0 : Nat} {v : Value} {d : DataW H} {p : List MemPlace} (hv : Value.okWide Try.prog w r b0 56 v) (h : DataW.Trod enc Try.prog w base spare held 56 v d p) :
    ∃ x : Ct, v = .agg x.cells.toArray ∧ x.Ok := by
  obtain ⟨cs, rfl, hl, hf⟩ := opn_fields Try.underlying56 (by kernel_rfl) (by kernel_rfl) hv h
  obtain ⟨x, rfl, hx⟩ := ct_of_fields hl (hf 0 _ rfl) (hf 1 _ rfl)
  exact ⟨x, rfl, hx⟩
theorem opn_controls {r : Reach} {b0 : Nat} {v : Value} {d : DataW H} {p : List MemPlace} (hv : Value.okWide Try.prog w r b0 25 v) (h : DataW.Trod enc Try.prog w base spare held 25 v d p) :
    ∃ (A : Option Addr) (n c : Nat) (l : List Ct), v = .slice A n c ∧ n ≤ maxLen ∧ c ≤ maxLen ∧ l.length = n ∧ Rd w w.heap.size 2 A n (l.flatMap Ct.cells) ∧ ∀ x ∈ l, Ct.Ok x :=
  opn_list (s := 2) (fun _ => rfl) Try.underlying25 (by kernel_rfl) (by decide) (fun n cs x hx => by
    obtain ⟨hl, hf⟩ := trod_fields Try.underlying56 (by kernel_rfl) (by kernel_rfl) hx
    exact ct_of_fields hl (hf 0 _ rfl) (hf 1 _ rfl)) hv h
end
end Go.Proofs.Ytcjggopdgkopiaa
