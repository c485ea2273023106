/-
  DERIVED. GIVEN WITH THE SEED: THE CARDS: each row of YtcbjphicicjmoaaDoorRows.lean that lists a variable, with what it lists TIED to the program's text (the seventh form; the later family's looks); each row that meets fmt, with fmt's text TOLD by the authors' own Lean function (tested against real Go, not proved from fmt's source: count such statements apart). THE CARD IS WHAT COUNTS. Prove the row's statement (the work); the ties are given (YtcbjphicicjmoaaDoorTie.lean); close each card by the builder's one call (the guide's Derived/Test/ToyasCard.lean, 'card_holds'). Laid BY PROGRAM, IN A SANDBOX (cutbox-door.mjs). By AI agents, Wed Nov 11 2026. No macro, syntax, notation, axiom, sorry.
-/
import Derived.Test.YtcbjphicicjmoaaDoorRows
import GoSem.ClaimSeven
namespace Go.Proofs.YtcbjphicicjmoaaDoor
namespace Rows

/-- THE TIED CARD OF 'laws.FnExactParseFeature'. -/
def fnExactParseFeatureCard : Claim7 := { stood := { row := fnExactParseFeatureRow, standIns := [], harness := (true, "497743f20145ca8a6a81fe62e0817741cfd154d98f5e5898ea95ee373dd3e768"), looks := true }, kinds := [], alts := [], laidByText := true, laidKinds := [.data, .data, .data, .data, .sentinel, .sentinel, .pinned], laidTests := true, laidLooks := .later }
def FnExactParseFeatureCardSaid : Prop := Claim7.holds Tryd.pinned (.plain (OpenSpec.ofChange fnExactParseFeatureSpec)) fnExactParseFeatureCard

/-- THE TIED CARD OF 'laws.FnExactDoDescribe'. -/
def fnExactDoDescribeCard : Claim7 := { stood := { row := fnExactDoDescribeRow, standIns := [], harness := (true, "497743f20145ca8a6a81fe62e0817741cfd154d98f5e5898ea95ee373dd3e768"), looks := true }, kinds := [], alts := [], laidByText := true, laidKinds := [.data, .data, .data], laidTests := true, laidLooks := .later }
def FnExactDoDescribeCardSaid : Prop := Claim7.holds Tryd.pinned (.plain (OpenSpec.ofChange fnExactDoDescribeSpec)) fnExactDoDescribeCard

/-- THE TIED CARD OF 'laws.FnExactFeatureText'. -/
def fnExactFeatureTextCard : Claim7 := { stood := { row := fnExactFeatureTextRow, standIns := [], harness := (true, "497743f20145ca8a6a81fe62e0817741cfd154d98f5e5898ea95ee373dd3e768"), looks := true }, kinds := [], alts := [], laidByText := true, laidKinds := [.data, .data, .data], laidTests := true, laidLooks := .later }
def FnExactFeatureTextCardSaid : Prop := Claim7.holds Tryd.pinned (.plain (OpenSpec.ofChange fnExactFeatureTextSpec)) fnExactFeatureTextCard

/-- THE TIED CARD OF 'laws.FnExactSheetText'. -/
def fnExactSheetTextCard : Claim7 := { stood := { row := fnExactSheetTextRow, standIns := [], harness := (true, "497743f20145ca8a6a81fe62e0817741cfd154d98f5e5898ea95ee373dd3e768"), looks := true }, kinds := [], alts := [], laidByText := true, laidKinds := [.data, .data, .data], laidTests := true, laidLooks := .later }
def FnExactSheetTextCardSaid : Prop := Claim7.holds Tryd.pinned (.plain (OpenSpec.ofChange fnExactSheetTextSpec)) fnExactSheetTextCard

/-- THE TIED CARD OF 'laws.FnSheets'. -/
def fnSheetsCard : Claim7 := { stood := { row := fnSheetsRow, standIns := [], harness := (true, "497743f20145ca8a6a81fe62e0817741cfd154d98f5e5898ea95ee373dd3e768"), looks := true }, kinds := [], alts := [], laidByText := true, laidKinds := [.data, .data, .data, .data], laidTests := true, laidLooks := .later }
def FnSheetsCardSaid : Prop := Claim7.holds Tryd.pinned (.plain (OpenSpec.ofChange fnSheetsSpec)) fnSheetsCard

/-- THE SECOND FORM's CARD OF 'laws.FnExactParseFeature'. -/
def fnExactParseFeatureUptoCard : Claim7 := { stood := { row := fnExactParseFeatureUptoRow, standIns := [], harness := (true, "497743f20145ca8a6a81fe62e0817741cfd154d98f5e5898ea95ee373dd3e768"), looks := true }, kinds := [], alts := [], laidByText := true, laidKinds := [.data, .data, .data, .data, .sentinel, .sentinel, .pinned], laidTests := true, laidLooks := .later }
def FnExactParseFeatureUptoCardSaid : Prop := Claim7.holds Tryd.pinned (.plain (OpenSpec.upto fnExactParseFeatureSpec)) fnExactParseFeatureUptoCard

/-- THE SECOND FORM's CARD OF 'laws.FnExactDoDescribe'. -/
def fnExactDoDescribeUptoCard : Claim7 := { stood := { row := fnExactDoDescribeUptoRow, standIns := [], harness := (true, "497743f20145ca8a6a81fe62e0817741cfd154d98f5e5898ea95ee373dd3e768"), looks := true }, kinds := [], alts := [], laidByText := true, laidKinds := [.data, .data, .data], laidTests := true, laidLooks := .later }
def FnExactDoDescribeUptoCardSaid : Prop := Claim7.holds Tryd.pinned (.plain (OpenSpec.upto fnExactDoDescribeSpec)) fnExactDoDescribeUptoCard

/-- THE SECOND FORM's CARD OF 'laws.FnExactFeatureText'. -/
def fnExactFeatureTextUptoCard : Claim7 := { stood := { row := fnExactFeatureTextUptoRow, standIns := [], harness := (true, "497743f20145ca8a6a81fe62e0817741cfd154d98f5e5898ea95ee373dd3e768"), looks := true }, kinds := [], alts := [], laidByText := true, laidKinds := [.data, .data, .data], laidTests := true, laidLooks := .later }
def FnExactFeatureTextUptoCardSaid : Prop := Claim7.holds Tryd.pinned (.plain (OpenSpec.upto fnExactFeatureTextSpec)) fnExactFeatureTextUptoCard

/-- THE SECOND FORM's CARD OF 'laws.FnExactSheetText'. -/
def fnExactSheetTextUptoCard : Claim7 := { stood := { row := fnExactSheetTextUptoRow, standIns := [], harness := (true, "497743f20145ca8a6a81fe62e0817741cfd154d98f5e5898ea95ee373dd3e768"), looks := true }, kinds := [], alts := [], laidByText := true, laidKinds := [.data, .data, .data], laidTests := true, laidLooks := .later }
def FnExactSheetTextUptoCardSaid : Prop := Claim7.holds Tryd.pinned (.plain (OpenSpec.upto fnExactSheetTextSpec)) fnExactSheetTextUptoCard

/-- THE SECOND FORM's CARD OF 'laws.FnSheets'. -/
def fnSheetsUptoCard : Claim7 := { stood := { row := fnSheetsUptoRow, standIns := [], harness := (true, "497743f20145ca8a6a81fe62e0817741cfd154d98f5e5898ea95ee373dd3e768"), looks := true }, kinds := [], alts := [], laidByText := true, laidKinds := [.data, .data, .data, .data], laidTests := true, laidLooks := .later }
def FnSheetsUptoCardSaid : Prop := Claim7.holds Tryd.pinned (.plain (OpenSpec.upto fnSheetsSpec)) fnSheetsUptoCard
end Rows
end Go.Proofs.YtcbjphicicjmoaaDoor
