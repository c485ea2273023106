/- What the row of FnSheets' listed variables gives the walk. -/
import Derived.Test.YtmmpcchjalgokaaDoorLaid
import Derived.Test.YtmmpcchjalgokaaDoorLaidF
namespace Go.Proofs.YtmmpcchjalgokaaDoor
set_option linter.unusedVariables false
set_option linter.unusedSimpArgs false
open Go.RowKit
theorem laid_Sheets {W : World} (h : laidMetH Tryd.prog Rows.fnSheetsRow.laid W) : Tab W ∧ Fams W := by
  rw [MakeChecks.laidMetH_plain _ _ _ (by kernel_rfl)] at h
  exact ⟨Tab.of h, fams_of (laidMet.tail (laidMet.tail (laidMet.tail h)))⟩
end Go.Proofs.YtmmpcchjalgokaaDoor
