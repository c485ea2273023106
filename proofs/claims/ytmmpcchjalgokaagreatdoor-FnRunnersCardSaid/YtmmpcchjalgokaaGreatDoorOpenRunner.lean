/- Runners that came in, opened. -/
import Derived.Test.YtmmpcchjalgokaaGreatDoorOpen
import Derived.Test.YtmmpcchjalgokaaGreatDoorData
namespace Go.Proofs.YtmmpcchjalgokaaGreatDoor
set_option linter.unusedVariables false
set_option linter.unusedSimpArgs false
open Go.ChangeShapes Go.WideShapes Go.ChangeAt Go.RowKit Go.Joins Go.Deep
def Rn.Ok (r : Rn) : Prop := I64 r.id ∧ r.name.size ≤ maxLen ∧ r.club.size ≤ maxLen ∧ I64 r.born ∧ I64 r.card
section
variable {H : Type} {enc : TypeId × Value → H} {w : World} {base : Nat} {spare : Nat → Bool} {held : Bool}
theorem rn_of_fields {cs : List Value} (hl : cs.length = 6) (h0 : ∃ c y n, cs[0]? = some c ∧ DataW.trod enc Tryz.prog w base spare held n 3 [c] = some y) (h1 : ∃ c y n, cs[1]? = some c ∧ DataW.trod enc Tryz.prog w base spare held n 9 [c] = some y) (h2 : ∃ c y n, cs[2]? = some c ∧ DataW.trod enc Tryz.prog w base spare held n 9 [c] = some y) (h3 : ∃ c y n, cs[3]? = some c ∧ DataW.trod enc Tryz.prog w base spare held n 3 [c] = some y) (h4 : ∃ c y n, cs[4]? = some c ∧ DataW.trod enc Tryz.prog w base spare held n 4 [c] = some y) (h5 : ∃ c y n, cs[5]? = some c ∧ DataW.trod enc Tryz.prog w base spare held n 3 [c] = some y) :
    ∃ r : Rn, cs = r.cells ∧ r.Ok := by
  obtain ⟨c0, c1, c2, c3, c4, c5, rfl⟩ := arr6 hl
  obtain ⟨_, _, _, e0, t0⟩ := h0
  obtain ⟨_, _, _, e1, t1⟩ := h1
  obtain ⟨_, _, _, e2, t2⟩ := h2
  obtain ⟨_, _, _, e3, t3⟩ := h3
  obtain ⟨_, _, _, e4, t4⟩ := h4
  obtain ⟨_, _, _, e5, t5⟩ := h5
  simp only [List.getElem?_cons_zero, List.getElem?_cons_succ, Option.some.injEq] at e0 e1 e2 e3 e4 e5
  subst e0; subst e1; subst e2; subst e3; subst e4; subst e5
  obtain ⟨a0, e0, _, w0⟩ := DataW.trod_int Tryz.underlying3 t0
  obtain ⟨a1, e1, _, w1⟩ := DataW.trod_string Tryz.underlying9 t1
  obtain ⟨a2, e2, _, w2⟩ := DataW.trod_string Tryz.underlying9 t2
  obtain ⟨a3, e3, _, w3⟩ := DataW.trod_int Tryz.underlying3 t3
  obtain ⟨a4, e4, _⟩ := DataW.trod_bool Tryz.underlying4 t4
  obtain ⟨a5, e5, _, w5⟩ := DataW.trod_int Tryz.underlying3 t5
  simp only [List.cons.injEq, and_true] at e0 e1 e2 e3 e4 e5
  subst e0; subst e1; subst e2; subst e3; subst e4; subst e5
  exact ⟨⟨a0, a1, a2, a3, a4, a5⟩, rfl, i64_of_wf w0, w1, w2, i64_of_wf w3, i64_of_wf w5⟩
end
end Go.Proofs.YtmmpcchjalgokaaGreatDoor
