/- A field of a Control by value. -/
import Derived.Test.YtcjggopdgkopiaaNear
namespace Go.Proofs.Ytcjggopdgkopiaa
set_option linter.unusedVariables false
set_option linter.unusedSimpArgs false
open Go.RowKit
theorem field_code (a b : Int) (w : World) : (Instr.field 54 (.agg #[.int .i64 a, .int .i64 b]) 0).run Try.prog w = .ok (.int .i64 a) w := by
  unfold Instr.field
  simp [go_sem, asAgg, Try.underlying54]
end Go.Proofs.Ytcjggopdgkopiaa
