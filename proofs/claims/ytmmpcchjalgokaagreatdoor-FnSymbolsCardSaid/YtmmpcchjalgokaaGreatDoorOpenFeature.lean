/- Features that came in, opened. -/
import Derived.Test.YtmmpcchjalgokaaGreatDoorOpen
import Derived.Test.YtmmpcchjalgokaaGreatDoorData
namespace Go.Proofs.YtmmpcchjalgokaaGreatDoor
set_option linter.unusedVariables false
set_option linter.unusedSimpArgs false
open Go.ChangeShapes Go.WideShapes Go.ChangeAt Go.RowKit Go.Joins Go.Deep
def Ft.Ok (r : Ft) : Prop := I64 r.code ∧ r.which.size ≤ maxLen ∧ r.what.size ≤ maxLen ∧ r.look.size ≤ maxLen ∧ r.side.size ≤ maxLen
section
variable {H : Type} {enc : TypeId × Value → H} {w : World} {base : Nat} {spare : Nat → Bool} {held : Bool}
set_option maxRecDepth 100000 in
theorem ft_of_fields {cs : List Value} (hl : cs.length = 5) (h0 : ∃ c y n, cs[0]? = some c ∧ DataW.trod enc Tryz.prog w base spare held n 3 [c] = some y) (h1 : ∃ c y n, cs[1]? = some c ∧ DataW.trod enc Tryz.prog w base spare held n 9 [c] = some y) (h2 : ∃ c y n, cs[2]? = some c ∧ DataW.trod enc Tryz.prog w base spare held n 9 [c] = some y) (h3 : ∃ c y n, cs[3]? = some c ∧ DataW.trod enc Tryz.prog w base spare held n 9 [c] = some y) (h4 : ∃ c y n, cs[4]? = some c ∧ DataW.trod enc Tryz.prog w base spare held n 9 [c] = some y) :
    ∃ r : Ft, cs = r.cells ∧ r.Ok := by
  obtain ⟨c0, c1, c2, c3, c4, rfl⟩ := arr5 hl
  obtain ⟨_, _, _, e0, t0⟩ := h0
  obtain ⟨_, _, _, e1, t1⟩ := h1
  obtain ⟨_, _, _, e2, t2⟩ := h2
  obtain ⟨_, _, _, e3, t3⟩ := h3
  obtain ⟨_, _, _, e4, t4⟩ := h4
  simp only [List.getElem?_cons_zero, List.getElem?_cons_succ, Option.some.injEq] at e0 e1 e2 e3 e4
  subst e0; subst e1; subst e2; subst e3; subst e4
  obtain ⟨a0, e0, _, w0⟩ := DataW.trod_int Tryz.underlying3 t0
  obtain ⟨a1, e1, _, w1⟩ := DataW.trod_string Tryz.underlying9 t1
  obtain ⟨a2, e2, _, w2⟩ := DataW.trod_string Tryz.underlying9 t2
  obtain ⟨a3, e3, _, w3⟩ := DataW.trod_string Tryz.underlying9 t3
  obtain ⟨a4, e4, _, w4⟩ := DataW.trod_string Tryz.underlying9 t4
  simp only [List.cons.injEq, and_true] at e0 e1 e2 e3 e4
  subst e0; subst e1; subst e2; subst e3; subst e4
  exact ⟨⟨a0, a1, a2, a3, a4⟩, rfl, i64_of_wf w0, w1, w2, w3, w4⟩
end
end Go.Proofs.YtmmpcchjalgokaaGreatDoor
