/- Contracts of the law's helpers over features; the reference's IsFeature. -/
import Derived.Test.YtmmpcchjalgokaaGreatDoorIsF
import Derived.Test.YtmmpcchjalgokaaGreatDoorOpenFeature
namespace Go.Proofs.YtmmpcchjalgokaaGreatDoor
set_option linter.unusedVariables false
set_option linter.unusedSimpArgs false
open Go.RowKit
end Go.Proofs.YtmmpcchjalgokaaGreatDoor
