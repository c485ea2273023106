/- Contracts: FormatInt, the program's and the reference's. -/
import Derived.Test.YtmmpcchjalgokaaGreatDoorNum
import Derived.Test.YtmmpcchjalgokaaGreatDoorRange
import Derived.Test.YtmmpcchjalgokaaGreatDoorOpen
namespace Go.Proofs.YtmmpcchjalgokaaGreatDoor
set_option linter.unusedVariables false
set_option linter.unusedSimpArgs false
open Go.RowKit
def fmtOk (n : Int) : Bool := insideB n (-999999) 999999
def fmtV (n : Int) : ByteArray := if fmtOk n = true then itoaB n else ⟨#[]⟩
end Go.Proofs.YtmmpcchjalgokaaGreatDoor
