/-
  DERIVED. GIVEN WITH THE SEED: THE CARDS: each row of YtacgcmegjomjjaaDoorRows.lean that lists a variable, with what it lists TIED to the program's text (the seventh form; the later family's looks); each row that meets fmt, with fmt's text TOLD by the authors' own Lean function (tested against real Go, not proved from fmt's source: count such statements apart). THE CARD IS WHAT COUNTS. Prove the row's statement (the work); the ties are given (YtacgcmegjomjjaaDoorTie.lean); close each card by the builder's one call (the guide's Derived/Test/ToyasCard.lean, 'card_holds'). Laid BY PROGRAM, IN A SANDBOX (cutbox-door.mjs). By AI agents, Wed Nov 11 2026. No macro, syntax, notation, axiom, sorry.
-/
import Derived.Test.YtacgcmegjomjjaaDoorRows
import GoSem.ClaimSeven
namespace Go.Proofs.YtacgcmegjomjjaaDoor
namespace Rows

/-- THE TIED CARD OF 'laws.FnExactFamilyOf'. -/
def fnExactFamilyOfCard : Claim7 := { stood := { row := fnExactFamilyOfRow, standIns := [], harness := (true, "6262549d924c93749a4932e8bcaed3811a2b1dbc518ed8296589969c8a90e23e"), looks := false }, kinds := [], alts := [], laidByText := true, laidKinds := [.data], laidTests := true, laidLooks := .later }
def FnExactFamilyOfCardSaid : Prop := Claim7.holds Tryd.pinned (.plain (OpenSpec.ofChange fnExactFamilyOfSpec)) fnExactFamilyOfCard

/-- THE SECOND FORM's CARD OF 'laws.FnExactFamilyOf'. -/
def fnExactFamilyOfUptoCard : Claim7 := { stood := { row := fnExactFamilyOfUptoRow, standIns := [], harness := (true, "6262549d924c93749a4932e8bcaed3811a2b1dbc518ed8296589969c8a90e23e"), looks := false }, kinds := [], alts := [], laidByText := true, laidKinds := [.data], laidTests := true, laidLooks := .later }
def FnExactFamilyOfUptoCardSaid : Prop := Claim7.holds Tryd.pinned (.plain (OpenSpec.upto fnExactFamilyOfSpec)) fnExactFamilyOfUptoCard
end Rows
end Go.Proofs.YtacgcmegjomjjaaDoor
