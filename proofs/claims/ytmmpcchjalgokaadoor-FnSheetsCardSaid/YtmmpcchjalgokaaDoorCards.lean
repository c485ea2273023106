/-
  DERIVED. GIVEN WITH THE SEED: THE CARDS: each row of YtmmpcchjalgokaaDoorRows.lean that lists a variable, with what it lists TIED to the program's text (the seventh form; the later family's looks); each row that meets fmt, with fmt's text TOLD by the authors' own Lean function (tested against real Go, not proved from fmt's source: count such statements apart). THE CARD IS WHAT COUNTS. Prove the row's statement (the work); the ties are given (YtmmpcchjalgokaaDoorTie.lean); close each card by the builder's one call (the guide's Derived/Test/ToyasCard.lean, 'card_holds'). Laid BY PROGRAM, IN A SANDBOX (cutbox-door.mjs). By AI agents, Wed Nov 11 2026. No macro, syntax, notation, axiom, sorry.
-/
import Derived.Test.YtmmpcchjalgokaaDoorRows
import GoSem.ClaimSeven
namespace Go.Proofs.YtmmpcchjalgokaaDoor
namespace Rows

/-- THE TIED CARD OF 'laws.FnExactParseFeature'. -/
def fnExactParseFeatureCard : Claim7 := { stood := { row := fnExactParseFeatureRow, standIns := [], harness := (true, "41ceebdb7b500c7b961ab74e0695cca6caf16848aa6e174f5499307cf86a6626"), looks := true }, kinds := [], alts := [], laidByText := true, laidKinds := [.data, .data, .data, .data, .sentinel, .sentinel, .pinned], laidTests := true, laidLooks := .later }
def FnExactParseFeatureCardSaid : Prop := Claim7.holds Tryd.pinned (.plain (OpenSpec.ofChange fnExactParseFeatureSpec)) fnExactParseFeatureCard

/-- THE TIED CARD OF 'laws.FnSheets'. -/
def fnSheetsCard : Claim7 := { stood := { row := fnSheetsRow, standIns := [], harness := (true, "41ceebdb7b500c7b961ab74e0695cca6caf16848aa6e174f5499307cf86a6626"), looks := true }, kinds := [], alts := [], laidByText := true, laidKinds := [.data, .data, .data, .data], laidTests := true, laidLooks := .later }
def FnSheetsCardSaid : Prop := Claim7.holds Tryd.pinned (.plain (OpenSpec.ofChange fnSheetsSpec)) fnSheetsCard

/-- THE TIED CARD OF 'laws.FnExactParseMap'. -/
def fnExactParseMapCard : Claim7 := { stood := { row := fnExactParseMapRow, standIns := [], harness := (true, "41ceebdb7b500c7b961ab74e0695cca6caf16848aa6e174f5499307cf86a6626"), looks := true }, kinds := [], alts := [], laidByText := true, laidKinds := [.data, .data, .data, .data, .pinned], laidTests := true, laidLooks := .later }
def FnExactParseMapCardSaid : Prop := Claim7.holds Tryd.pinned (.plain (OpenSpec.ofChange fnExactParseMapSpec)) fnExactParseMapCard

/-- THE TIED CARD OF 'laws.FnStrings'. -/
def fnStringsCard : Claim7 := { stood := { row := fnStringsRow, standIns := [], harness := (true, "41ceebdb7b500c7b961ab74e0695cca6caf16848aa6e174f5499307cf86a6626"), looks := true }, kinds := [], alts := [], laidByText := true, laidKinds := [.data, .data, .data, .sentinel, .sentinel], laidTests := true, laidLooks := .later }
def FnStringsCardSaid : Prop := Claim7.holds Tryd.pinned (.plain (OpenSpec.ofChange fnStringsSpec)) fnStringsCard

/-- THE TIED CARD OF 'laws.FnMaps'. -/
def fnMapsCard : Claim7 := { stood := { row := fnMapsRow, standIns := [], harness := (true, "41ceebdb7b500c7b961ab74e0695cca6caf16848aa6e174f5499307cf86a6626"), looks := true }, kinds := [], alts := [], laidByText := true, laidKinds := [.data, .data, .data, .data, .pinned], laidTests := true, laidLooks := .later }
def FnMapsCardSaid : Prop := Claim7.holds Tryd.pinned (.plain (OpenSpec.ofChange fnMapsSpec)) fnMapsCard

/-- THE TIED CARD OF 'laws.FnExactParseRunner'. -/
def fnExactParseRunnerCard : Claim7 := { stood := { row := fnExactParseRunnerRow, standIns := [], harness := (true, "41ceebdb7b500c7b961ab74e0695cca6caf16848aa6e174f5499307cf86a6626"), looks := true }, kinds := [], alts := [], laidByText := true, laidKinds := [.data, .data, .data, .data, .sentinel, .sentinel, .pinned], laidTests := true, laidLooks := .later }
def FnExactParseRunnerCardSaid : Prop := Claim7.holds Tryd.pinned (.plain (OpenSpec.ofChange fnExactParseRunnerSpec)) fnExactParseRunnerCard

/-- THE SECOND FORM's CARD OF 'laws.FnExactParseFeature'. -/
def fnExactParseFeatureUptoCard : Claim7 := { stood := { row := fnExactParseFeatureUptoRow, standIns := [], harness := (true, "41ceebdb7b500c7b961ab74e0695cca6caf16848aa6e174f5499307cf86a6626"), looks := true }, kinds := [], alts := [], laidByText := true, laidKinds := [.data, .data, .data, .data, .sentinel, .sentinel, .pinned], laidTests := true, laidLooks := .later }
def FnExactParseFeatureUptoCardSaid : Prop := Claim7.holds Tryd.pinned (.plain (OpenSpec.upto fnExactParseFeatureSpec)) fnExactParseFeatureUptoCard

/-- THE SECOND FORM's CARD OF 'laws.FnSheets'. -/
def fnSheetsUptoCard : Claim7 := { stood := { row := fnSheetsUptoRow, standIns := [], harness := (true, "41ceebdb7b500c7b961ab74e0695cca6caf16848aa6e174f5499307cf86a6626"), looks := true }, kinds := [], alts := [], laidByText := true, laidKinds := [.data, .data, .data, .data], laidTests := true, laidLooks := .later }
def FnSheetsUptoCardSaid : Prop := Claim7.holds Tryd.pinned (.plain (OpenSpec.upto fnSheetsSpec)) fnSheetsUptoCard

/-- THE SECOND FORM's CARD OF 'laws.FnExactParseMap'. -/
def fnExactParseMapUptoCard : Claim7 := { stood := { row := fnExactParseMapUptoRow, standIns := [], harness := (true, "41ceebdb7b500c7b961ab74e0695cca6caf16848aa6e174f5499307cf86a6626"), looks := true }, kinds := [], alts := [], laidByText := true, laidKinds := [.data, .data, .data, .data, .pinned], laidTests := true, laidLooks := .later }
def FnExactParseMapUptoCardSaid : Prop := Claim7.holds Tryd.pinned (.plain (OpenSpec.upto fnExactParseMapSpec)) fnExactParseMapUptoCard

/-- THE SECOND FORM's CARD OF 'laws.FnStrings'. -/
def fnStringsUptoCard : Claim7 := { stood := { row := fnStringsUptoRow, standIns := [], harness := (true, "41ceebdb7b500c7b961ab74e0695cca6caf16848aa6e174f5499307cf86a6626"), looks := true }, kinds := [], alts := [], laidByText := true, laidKinds := [.data, .data, .data, .sentinel, .sentinel], laidTests := true, laidLooks := .later }
def FnStringsUptoCardSaid : Prop := Claim7.holds Tryd.pinned (.plain (OpenSpec.upto fnStringsSpec)) fnStringsUptoCard

/-- THE SECOND FORM's CARD OF 'laws.FnMaps'. -/
def fnMapsUptoCard : Claim7 := { stood := { row := fnMapsUptoRow, standIns := [], harness := (true, "41ceebdb7b500c7b961ab74e0695cca6caf16848aa6e174f5499307cf86a6626"), looks := true }, kinds := [], alts := [], laidByText := true, laidKinds := [.data, .data, .data, .data, .pinned], laidTests := true, laidLooks := .later }
def FnMapsUptoCardSaid : Prop := Claim7.holds Tryd.pinned (.plain (OpenSpec.upto fnMapsSpec)) fnMapsUptoCard

/-- THE SECOND FORM's CARD OF 'laws.FnExactParseRunner'. -/
def fnExactParseRunnerUptoCard : Claim7 := { stood := { row := fnExactParseRunnerUptoRow, standIns := [], harness := (true, "41ceebdb7b500c7b961ab74e0695cca6caf16848aa6e174f5499307cf86a6626"), looks := true }, kinds := [], alts := [], laidByText := true, laidKinds := [.data, .data, .data, .data, .sentinel, .sentinel, .pinned], laidTests := true, laidLooks := .later }
def FnExactParseRunnerUptoCardSaid : Prop := Claim7.holds Tryd.pinned (.plain (OpenSpec.upto fnExactParseRunnerSpec)) fnExactParseRunnerUptoCard
end Rows
end Go.Proofs.YtmmpcchjalgokaaDoor
