/-
  DERIVED. GIVEN WITH THE SEED: THE CARDS: each row of YtijmlagehdmfeaaDoorRows.lean that lists a variable, with what it lists TIED to the program's text (the seventh form; the later family's looks); each row that meets fmt, with fmt's text TOLD by the authors' own Lean function (tested against real Go, not proved from fmt's source: count such statements apart). THE CARD IS WHAT COUNTS. Prove the row's statement (the work); the ties are given (YtijmlagehdmfeaaDoorTie.lean); close each card by the builder's one call (the guide's Derived/Test/ToyasCard.lean, 'card_holds'). Laid BY PROGRAM, IN A SANDBOX (cutbox-door.mjs). By AI agents, Wed Nov 11 2026. No macro, syntax, notation, axiom, sorry.
-/
import Derived.Test.YtijmlagehdmfeaaDoorRows
import GoSem.ClaimSeven
namespace Go.Proofs.YtijmlagehdmfeaaDoor
namespace Rows

/-- THE TIED CARD OF 'laws.FnExactMapText'. -/
def fnExactMapTextCard : Claim7 := { stood := { row := fnExactMapTextRow, standIns := [], harness := (true, "746ba4b443b42a292766fe4663f6ed0e43f5c6f0c560792311ae15b9d466b824"), looks := false }, kinds := [], alts := [], laidByText := true, laidKinds := [.data, .data, .data], laidTests := true, laidLooks := .later }
def FnExactMapTextCardSaid : Prop := Claim7.holds Tryd.pinned (.plain (OpenSpec.ofChange fnExactMapTextSpec)) fnExactMapTextCard

/-- THE TIED CARD OF 'laws.FnExactParseMap'. -/
def fnExactParseMapCard : Claim7 := { stood := { row := fnExactParseMapRow, standIns := [], harness := (true, "746ba4b443b42a292766fe4663f6ed0e43f5c6f0c560792311ae15b9d466b824"), looks := false }, kinds := [], alts := [], laidByText := true, laidKinds := [.data, .data, .data, .data, .pinned], laidTests := true, laidLooks := .later }
def FnExactParseMapCardSaid : Prop := Claim7.holds Tryd.pinned (.plain (OpenSpec.ofChange fnExactParseMapSpec)) fnExactParseMapCard

/-- THE TIED CARD OF 'laws.FnMaps'. -/
def fnMapsCard : Claim7 := { stood := { row := fnMapsRow, standIns := [], harness := (true, "746ba4b443b42a292766fe4663f6ed0e43f5c6f0c560792311ae15b9d466b824"), looks := false }, kinds := [], alts := [], laidByText := true, laidKinds := [.data, .data, .data, .data, .pinned], laidTests := true, laidLooks := .later }
def FnMapsCardSaid : Prop := Claim7.holds Tryd.pinned (.plain (OpenSpec.ofChange fnMapsSpec)) fnMapsCard

/-- THE SECOND FORM's CARD OF 'laws.FnExactMapText'. -/
def fnExactMapTextUptoCard : Claim7 := { stood := { row := fnExactMapTextUptoRow, standIns := [], harness := (true, "746ba4b443b42a292766fe4663f6ed0e43f5c6f0c560792311ae15b9d466b824"), looks := false }, kinds := [], alts := [], laidByText := true, laidKinds := [.data, .data, .data], laidTests := true, laidLooks := .later }
def FnExactMapTextUptoCardSaid : Prop := Claim7.holds Tryd.pinned (.plain (OpenSpec.upto fnExactMapTextSpec)) fnExactMapTextUptoCard

/-- THE SECOND FORM's CARD OF 'laws.FnExactParseMap'. -/
def fnExactParseMapUptoCard : Claim7 := { stood := { row := fnExactParseMapUptoRow, standIns := [], harness := (true, "746ba4b443b42a292766fe4663f6ed0e43f5c6f0c560792311ae15b9d466b824"), looks := false }, kinds := [], alts := [], laidByText := true, laidKinds := [.data, .data, .data, .data, .pinned], laidTests := true, laidLooks := .later }
def FnExactParseMapUptoCardSaid : Prop := Claim7.holds Tryd.pinned (.plain (OpenSpec.upto fnExactParseMapSpec)) fnExactParseMapUptoCard

/-- THE SECOND FORM's CARD OF 'laws.FnMaps'. -/
def fnMapsUptoCard : Claim7 := { stood := { row := fnMapsUptoRow, standIns := [], harness := (true, "746ba4b443b42a292766fe4663f6ed0e43f5c6f0c560792311ae15b9d466b824"), looks := false }, kinds := [], alts := [], laidByText := true, laidKinds := [.data, .data, .data, .data, .pinned], laidTests := true, laidLooks := .later }
def FnMapsUptoCardSaid : Prop := Claim7.holds Tryd.pinned (.plain (OpenSpec.upto fnMapsSpec)) fnMapsUptoCard
end Rows
end Go.Proofs.YtijmlagehdmfeaaDoor
