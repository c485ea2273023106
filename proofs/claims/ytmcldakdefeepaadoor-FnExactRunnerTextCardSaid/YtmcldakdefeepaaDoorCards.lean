/-
  DERIVED. GIVEN WITH THE SEED: THE CARDS: each row of YtmcldakdefeepaaDoorRows.lean that lists a variable, with what it lists TIED to the program's text (the seventh form; the later family's looks); each row that meets fmt, with fmt's text TOLD by the authors' own Lean function (tested against real Go, not proved from fmt's source: count such statements apart). THE CARD IS WHAT COUNTS. Prove the row's statement (the work); the ties are given (YtmcldakdefeepaaDoorTie.lean); close each card by the builder's one call (the guide's Derived/Test/ToyasCard.lean, 'card_holds'). Laid BY PROGRAM, IN A SANDBOX (cutbox-door.mjs). By AI agents, Wed Nov 11 2026. No macro, syntax, notation, axiom, sorry.
-/
import Derived.Test.YtmcldakdefeepaaDoorRows
import GoSem.ClaimSeven
namespace Go.Proofs.YtmcldakdefeepaaDoor
namespace Rows

/-- THE TIED CARD OF 'laws.FnExactRunnerText'. -/
def fnExactRunnerTextCard : Claim7 := { stood := { row := fnExactRunnerTextRow, standIns := [], harness := (true, "d39d93a8b14159e4942a8baac7fca5864bb4df20ecc9666d45a3edcf448047df"), looks := true }, kinds := [], alts := [], laidByText := true, laidKinds := [.data, .data, .data], laidTests := true, laidLooks := .later }
def FnExactRunnerTextCardSaid : Prop := Claim7.holds Tryd.pinned (.plain (OpenSpec.ofChange fnExactRunnerTextSpec)) fnExactRunnerTextCard

/-- THE TIED CARD OF 'laws.FnExactParseRunner'. -/
def fnExactParseRunnerCard : Claim7 := { stood := { row := fnExactParseRunnerRow, standIns := [], harness := (true, "d39d93a8b14159e4942a8baac7fca5864bb4df20ecc9666d45a3edcf448047df"), looks := true }, kinds := [], alts := [], laidByText := true, laidKinds := [.data, .data, .data, .data, .sentinel, .sentinel, .pinned], laidTests := true, laidLooks := .later }
def FnExactParseRunnerCardSaid : Prop := Claim7.holds Tryd.pinned (.plain (OpenSpec.ofChange fnExactParseRunnerSpec)) fnExactParseRunnerCard

/-- THE SECOND FORM's CARD OF 'laws.FnExactRunnerText'. -/
def fnExactRunnerTextUptoCard : Claim7 := { stood := { row := fnExactRunnerTextUptoRow, standIns := [], harness := (true, "d39d93a8b14159e4942a8baac7fca5864bb4df20ecc9666d45a3edcf448047df"), looks := true }, kinds := [], alts := [], laidByText := true, laidKinds := [.data, .data, .data], laidTests := true, laidLooks := .later }
def FnExactRunnerTextUptoCardSaid : Prop := Claim7.holds Tryd.pinned (.plain (OpenSpec.upto fnExactRunnerTextSpec)) fnExactRunnerTextUptoCard

/-- THE SECOND FORM's CARD OF 'laws.FnExactParseRunner'. -/
def fnExactParseRunnerUptoCard : Claim7 := { stood := { row := fnExactParseRunnerUptoRow, standIns := [], harness := (true, "d39d93a8b14159e4942a8baac7fca5864bb4df20ecc9666d45a3edcf448047df"), looks := true }, kinds := [], alts := [], laidByText := true, laidKinds := [.data, .data, .data, .data, .sentinel, .sentinel, .pinned], laidTests := true, laidLooks := .later }
def FnExactParseRunnerUptoCardSaid : Prop := Claim7.holds Tryd.pinned (.plain (OpenSpec.upto fnExactParseRunnerSpec)) fnExactParseRunnerUptoCard
end Rows
end Go.Proofs.YtmcldakdefeepaaDoor
