/-
  DERIVED. GIVEN WITH THE SEED: THE CARDS: each row of YtmmpcchjalgokaaGreatDoorRows.lean that lists a variable, with what it lists TIED to the program's text (the seventh form; the later family's looks); each row that meets fmt, with fmt's text TOLD by the authors' own Lean function (tested against real Go, not proved from fmt's source: count such statements apart). THE CARD IS WHAT COUNTS. Prove the row's statement (the work); the ties are given (YtmmpcchjalgokaaGreatDoorTie.lean); close each card by the builder's one call (the guide's Derived/Test/ToyasCard.lean, 'card_holds'). Laid BY PROGRAM, IN A SANDBOX (cutbox-door.mjs). By AI agents, Wed Nov 11 2026. No macro, syntax, notation, axiom, sorry.
-/
import Derived.Test.YtmmpcchjalgokaaGreatDoorRows
import GoSem.ClaimSeven
namespace Go.Proofs.YtmmpcchjalgokaaGreatDoor
namespace Rows

/-- THE TIED CARD OF 'laws.FnSymbols'. -/
def fnSymbolsCard : Claim7 := { stood := { row := fnSymbolsRow, standIns := [], harness := (true, "aba8ab6e47117ce562de4591c7047d6f06538711b2ae940e97edd5730c0e1d02"), looks := true }, kinds := [], alts := [], laidByText := true, laidKinds := [.data, .data, .data, .data, .sentinel, .sentinel, .pinned], laidTests := true, laidLooks := .later }
def FnSymbolsCardSaid : Prop := Claim7.holds Tryz.pinned (.plain (OpenSpec.ofChange fnSymbolsSpec)) fnSymbolsCard

/-- THE TIED CARD OF 'laws.FnRunners'. -/
def fnRunnersCard : Claim7 := { stood := { row := fnRunnersRow, standIns := [], harness := (true, "aba8ab6e47117ce562de4591c7047d6f06538711b2ae940e97edd5730c0e1d02"), looks := true }, kinds := [], alts := [], laidByText := true, laidKinds := [.data, .data, .data, .data, .sentinel, .sentinel, .pinned], laidTests := true, laidLooks := .later }
def FnRunnersCardSaid : Prop := Claim7.holds Tryz.pinned (.plain (OpenSpec.ofChange fnRunnersSpec)) fnRunnersCard

/-- THE SECOND FORM's CARD OF 'laws.FnSymbols'. -/
def fnSymbolsUptoCard : Claim7 := { stood := { row := fnSymbolsUptoRow, standIns := [], harness := (true, "aba8ab6e47117ce562de4591c7047d6f06538711b2ae940e97edd5730c0e1d02"), looks := true }, kinds := [], alts := [], laidByText := true, laidKinds := [.data, .data, .data, .data, .sentinel, .sentinel, .pinned], laidTests := true, laidLooks := .later }
def FnSymbolsUptoCardSaid : Prop := Claim7.holds Tryz.pinned (.plain (OpenSpec.upto fnSymbolsSpec)) fnSymbolsUptoCard

/-- THE SECOND FORM's CARD OF 'laws.FnRunners'. -/
def fnRunnersUptoCard : Claim7 := { stood := { row := fnRunnersUptoRow, standIns := [], harness := (true, "aba8ab6e47117ce562de4591c7047d6f06538711b2ae940e97edd5730c0e1d02"), looks := true }, kinds := [], alts := [], laidByText := true, laidKinds := [.data, .data, .data, .data, .sentinel, .sentinel, .pinned], laidTests := true, laidLooks := .later }
def FnRunnersUptoCardSaid : Prop := Claim7.holds Tryz.pinned (.plain (OpenSpec.upto fnRunnersSpec)) fnRunnersUptoCard
end Rows
end Go.Proofs.YtmmpcchjalgokaaGreatDoor
