/-
  No cell of these rows narrows 'for every input' (looked for: loops, veiled, ifaces, maps, wideKeys, modest, calm, conditions, laid).
  DERIVED. THE GIVEN ROWS OF THIS SEAT. 8 by the template 'for every input the law returns true; each argument reads behind the call as it read before'; 0 by the template 'total and deterministic' (their statements: YtcjggopdgkopiaaTotals.lean).
  GIVEN WITH THE SEED: the statements are not yours to turn. If you find one false, say at which input.
  Laid BY PROGRAM, IN A SANDBOX (cutbox-rows.mjs): the forced cells as the released guide's own fill.sh prints them over the translation 177297a3eac0f46d… (all of the seat's roots in one cut). By AI agents, Wed Nov 11 2026. No macro, syntax, notation, axiom, sorry.
-/
import Derived.Test.YtcjggopdgkopiaaChecked
import GoSem.Claim
import GoSem.ClaimJoined
import GoSem.ClaimMapViews
import Derived.JoinedTies
import Derived.KernelRfl
namespace Go.Proofs.Ytcjggopdgkopiaa
/- THE CELL 'sum', in the pinned program and in every row, IS THE sha256 OF THE DUMP (.gsa) THAT YtcjggopdgkopiaaProg.lean LOADS. Nothing in Lean hashes anything: it is a label: what it is worth is what the hold of that sum in a sandbox is worth. -/
noncomputable def Try.pinned : Pinned := { name := "ytcjggopdgkopiaa", sum := "177297a3eac0f46dd8f8180ad203662e4b3569a5fdbffabc80d799ad6ebf9915", checked := Try.checked }
namespace Rows
def none {H : Type} : Left H := { results := [], args := [] }

/-- 'laws.FnExactAreControls': WHATEVER THE INPUT: true; the input reads as it did. -/
def fnExactAreControlsSpec : ChangeSpec := { name := "fnExactAreControls", fn := fun _ => fun
  | [d1, d2] => { results := [.lit (.bool true)], args := [d1, d2] }
  | _ => none }
def fnExactAreControlsRow : OpenClaim := { program := "ytcjggopdgkopiaa", sum := "177297a3eac0f46dd8f8180ad203662e4b3569a5fdbffabc80d799ad6ebf9915", func := "loop.example/g00938/laws.FnExactAreControls", spec := "fnExactAreControls", unfollowed := true, recurses := true, apart := false }
def FnExactAreControlsSaid : Prop := fnExactAreControlsRow.holds Try.pinned (OpenSpec.ofChange fnExactAreControlsSpec)

/-- ITS FALSE NEIGHBOUR: 'it returns false'. Refute it at one input. -/
def fnExactAreControlsWrong : ChangeSpec := { name := "fnExactAreControls", fn := fun _ => fun
  | [d1, d2] => { results := [.lit (.bool false)], args := [d1, d2] }
  | _ => none }
def FnExactAreControlsWrongFalsely : Prop := fnExactAreControlsRow.holds Try.pinned (OpenSpec.ofChange fnExactAreControlsWrong)

/-- 'laws.FnExactCodeAt': WHATEVER THE INPUT: true; the input reads as it did. -/
def fnExactCodeAtSpec : ChangeSpec := { name := "fnExactCodeAt", fn := fun _ => fun
  | [d1, d2, d3] => { results := [.lit (.bool true)], args := [d1, d2, d3] }
  | _ => none }
def fnExactCodeAtRow : OpenClaim := { program := "ytcjggopdgkopiaa", sum := "177297a3eac0f46dd8f8180ad203662e4b3569a5fdbffabc80d799ad6ebf9915", func := "loop.example/g00938/laws.FnExactCodeAt", spec := "fnExactCodeAt", unfollowed := true, recurses := true, apart := false }
def FnExactCodeAtSaid : Prop := fnExactCodeAtRow.holds Try.pinned (OpenSpec.ofChange fnExactCodeAtSpec)

/-- ITS FALSE NEIGHBOUR: 'it returns false'. Refute it at one input. -/
def fnExactCodeAtWrong : ChangeSpec := { name := "fnExactCodeAt", fn := fun _ => fun
  | [d1, d2, d3] => { results := [.lit (.bool false)], args := [d1, d2, d3] }
  | _ => none }
def FnExactCodeAtWrongFalsely : Prop := fnExactCodeAtRow.holds Try.pinned (OpenSpec.ofChange fnExactCodeAtWrong)

/-- 'laws.FnExactCellOfCode': WHATEVER THE INPUT: true; the input reads as it did. -/
def fnExactCellOfCodeSpec : ChangeSpec := { name := "fnExactCellOfCode", fn := fun _ => fun
  | [d1, d2, d3] => { results := [.lit (.bool true)], args := [d1, d2, d3] }
  | _ => none }
def fnExactCellOfCodeRow : OpenClaim := { program := "ytcjggopdgkopiaa", sum := "177297a3eac0f46dd8f8180ad203662e4b3569a5fdbffabc80d799ad6ebf9915", func := "loop.example/g00938/laws.FnExactCellOfCode", spec := "fnExactCellOfCode", unfollowed := true, recurses := true, apart := false }
def FnExactCellOfCodeSaid : Prop := fnExactCellOfCodeRow.holds Try.pinned (OpenSpec.ofChange fnExactCellOfCodeSpec)

/-- ITS FALSE NEIGHBOUR: 'it returns false'. Refute it at one input. -/
def fnExactCellOfCodeWrong : ChangeSpec := { name := "fnExactCellOfCode", fn := fun _ => fun
  | [d1, d2, d3] => { results := [.lit (.bool false)], args := [d1, d2, d3] }
  | _ => none }
def FnExactCellOfCodeWrongFalsely : Prop := fnExactCellOfCodeRow.holds Try.pinned (OpenSpec.ofChange fnExactCellOfCodeWrong)

/-- 'laws.FnExactFreeCode': WHATEVER THE INPUT: true; the input reads as it did. -/
def fnExactFreeCodeSpec : ChangeSpec := { name := "fnExactFreeCode", fn := fun _ => fun
  | [d1, d2] => { results := [.lit (.bool true)], args := [d1, d2] }
  | _ => none }
def fnExactFreeCodeRow : OpenClaim := { program := "ytcjggopdgkopiaa", sum := "177297a3eac0f46dd8f8180ad203662e4b3569a5fdbffabc80d799ad6ebf9915", func := "loop.example/g00938/laws.FnExactFreeCode", spec := "fnExactFreeCode", unfollowed := true, recurses := true, apart := false }
def FnExactFreeCodeSaid : Prop := fnExactFreeCodeRow.holds Try.pinned (OpenSpec.ofChange fnExactFreeCodeSpec)

/-- ITS FALSE NEIGHBOUR: 'it returns false'. Refute it at one input. -/
def fnExactFreeCodeWrong : ChangeSpec := { name := "fnExactFreeCode", fn := fun _ => fun
  | [d1, d2] => { results := [.lit (.bool false)], args := [d1, d2] }
  | _ => none }
def FnExactFreeCodeWrongFalsely : Prop := fnExactFreeCodeRow.holds Try.pinned (OpenSpec.ofChange fnExactFreeCodeWrong)

/-- 'laws.FnExactNearestControl': WHATEVER THE INPUT: true; the input reads as it did. -/
def fnExactNearestControlSpec : ChangeSpec := { name := "fnExactNearestControl", fn := fun _ => fun
  | [d1, d2, d3] => { results := [.lit (.bool true)], args := [d1, d2, d3] }
  | _ => none }
def fnExactNearestControlRow : OpenClaim := { program := "ytcjggopdgkopiaa", sum := "177297a3eac0f46dd8f8180ad203662e4b3569a5fdbffabc80d799ad6ebf9915", func := "loop.example/g00938/laws.FnExactNearestControl", spec := "fnExactNearestControl", unfollowed := true, recurses := true, apart := false }
def FnExactNearestControlSaid : Prop := fnExactNearestControlRow.holds Try.pinned (OpenSpec.ofChange fnExactNearestControlSpec)

/-- ITS FALSE NEIGHBOUR: 'it returns false'. Refute it at one input. -/
def fnExactNearestControlWrong : ChangeSpec := { name := "fnExactNearestControl", fn := fun _ => fun
  | [d1, d2, d3] => { results := [.lit (.bool false)], args := [d1, d2, d3] }
  | _ => none }
def FnExactNearestControlWrongFalsely : Prop := fnExactNearestControlRow.holds Try.pinned (OpenSpec.ofChange fnExactNearestControlWrong)

/-- 'laws.FnExactConfusableCodes': WHATEVER THE INPUT: true; the input reads as it did. -/
def fnExactConfusableCodesSpec : ChangeSpec := { name := "fnExactConfusableCodes", fn := fun _ => fun
  | [d1, d2] => { results := [.lit (.bool true)], args := [d1, d2] }
  | _ => none }
def fnExactConfusableCodesRow : OpenClaim := { program := "ytcjggopdgkopiaa", sum := "177297a3eac0f46dd8f8180ad203662e4b3569a5fdbffabc80d799ad6ebf9915", func := "loop.example/g00938/laws.FnExactConfusableCodes", spec := "fnExactConfusableCodes", unfollowed := true, recurses := true, apart := false }
def FnExactConfusableCodesSaid : Prop := fnExactConfusableCodesRow.holds Try.pinned (OpenSpec.ofChange fnExactConfusableCodesSpec)

/-- ITS FALSE NEIGHBOUR: 'it returns false'. Refute it at one input. -/
def fnExactConfusableCodesWrong : ChangeSpec := { name := "fnExactConfusableCodes", fn := fun _ => fun
  | [d1, d2] => { results := [.lit (.bool false)], args := [d1, d2] }
  | _ => none }
def FnExactConfusableCodesWrongFalsely : Prop := fnExactConfusableCodesRow.holds Try.pinned (OpenSpec.ofChange fnExactConfusableCodesWrong)

/-- 'laws.FnExactCloseControls': WHATEVER THE INPUT: true; the input reads as it did. -/
def fnExactCloseControlsSpec : ChangeSpec := { name := "fnExactCloseControls", fn := fun _ => fun
  | [d1, d2, d3] => { results := [.lit (.bool true)], args := [d1, d2, d3] }
  | _ => none }
def fnExactCloseControlsRow : OpenClaim := { program := "ytcjggopdgkopiaa", sum := "177297a3eac0f46dd8f8180ad203662e4b3569a5fdbffabc80d799ad6ebf9915", func := "loop.example/g00938/laws.FnExactCloseControls", spec := "fnExactCloseControls", unfollowed := true, recurses := true, apart := false }
def FnExactCloseControlsSaid : Prop := fnExactCloseControlsRow.holds Try.pinned (OpenSpec.ofChange fnExactCloseControlsSpec)

/-- ITS FALSE NEIGHBOUR: 'it returns false'. Refute it at one input. -/
def fnExactCloseControlsWrong : ChangeSpec := { name := "fnExactCloseControls", fn := fun _ => fun
  | [d1, d2, d3] => { results := [.lit (.bool false)], args := [d1, d2, d3] }
  | _ => none }
def FnExactCloseControlsWrongFalsely : Prop := fnExactCloseControlsRow.holds Try.pinned (OpenSpec.ofChange fnExactCloseControlsWrong)

/-- 'laws.FnExactMoveControl': WHATEVER THE INPUT: true; the input reads as it did. -/
def fnExactMoveControlSpec : ChangeSpec := { name := "fnExactMoveControl", fn := fun _ => fun
  | [d1, d2, d3, d4] => { results := [.lit (.bool true)], args := [d1, d2, d3, d4] }
  | _ => none }
def fnExactMoveControlRow : OpenClaim := { program := "ytcjggopdgkopiaa", sum := "177297a3eac0f46dd8f8180ad203662e4b3569a5fdbffabc80d799ad6ebf9915", func := "loop.example/g00938/laws.FnExactMoveControl", spec := "fnExactMoveControl", unfollowed := true, recurses := true, apart := false }
def FnExactMoveControlSaid : Prop := fnExactMoveControlRow.holds Try.pinned (OpenSpec.ofChange fnExactMoveControlSpec)

/-- ITS FALSE NEIGHBOUR: 'it returns false'. Refute it at one input. -/
def fnExactMoveControlWrong : ChangeSpec := { name := "fnExactMoveControl", fn := fun _ => fun
  | [d1, d2, d3, d4] => { results := [.lit (.bool false)], args := [d1, d2, d3, d4] }
  | _ => none }
def FnExactMoveControlWrongFalsely : Prop := fnExactMoveControlRow.holds Try.pinned (OpenSpec.ofChange fnExactMoveControlWrong)

/- THE SECOND FORM. 'bulk': how many values and letters a reading holds, each counted each time it is reached (what is shared counts as often as it is met; a slice's spare places count too). A statement '..UptoSaid' is the law's where the arguments, and the package variables that the reading takes, are together of bulk at most 1048576: NARROWER than '..Said'. Prove '..Said' where nothing that the law and all that it calls make is longer than what came in: it says more and counts as full. Else prove '..UptoSaid'. A law counts once. -/
mutual
def uptoBulk {H : Type} : DataW H → Nat
  | .lit (.string bytes) => bytes.length + 1
  | .lit _ => 1
  | .nil => 1
  | .ptr d => uptoBulk d + 1
  | .slice elems spare => uptoBulkAll elems + uptoBulkAll spare + 1
  | .agg parts => uptoBulkAll parts + 1
  | .iface _ d => uptoBulk d + 1
  | .map entries => uptoBulkEntries entries + 1
  | .held _ => 1
def uptoBulkAll {H : Type} : List (DataW H) → Nat
  | [] => 0
  | d :: r => uptoBulk d + uptoBulkAll r
def uptoBulkEntries {H : Type} : List (Lit × DataW H) → Nat
  | [] => 0
  | x :: r => uptoBulkEntry x + uptoBulkEntries r
def uptoBulkEntry {H : Type} : Lit × DataW H → Nat
  | (.string bytes, d) => bytes.length + uptoBulk d + 1
  | (_, d) => uptoBulk d + 1
 end
def uptoSmall : (H : Type) → List (DataW H) → Bool := fun _ ds => decide (uptoBulkAll ds ≤ 1048576)
def OpenSpec.upto (s : _root_.Go.ChangeSpec) : _root_.Go.OpenSpec := { _root_.Go.OpenSpec.ofChange s with cond := some uptoSmall }

/-- 'laws.FnExactAreControls', WHERE WHAT IT READS IS OF BULK AT MOST 1048576: true; the input reads as it did. -/
def fnExactAreControlsUptoRow : OpenClaim := { program := "ytcjggopdgkopiaa", sum := "177297a3eac0f46dd8f8180ad203662e4b3569a5fdbffabc80d799ad6ebf9915", func := "loop.example/g00938/laws.FnExactAreControls", spec := "fnExactAreControls", unfollowed := true, recurses := true, apart := false, narrowed := true }
def FnExactAreControlsUptoSaid : Prop := fnExactAreControlsUptoRow.holds Try.pinned (OpenSpec.upto fnExactAreControlsSpec)

/-- 'laws.FnExactCodeAt', WHERE WHAT IT READS IS OF BULK AT MOST 1048576: true; the input reads as it did. -/
def fnExactCodeAtUptoRow : OpenClaim := { program := "ytcjggopdgkopiaa", sum := "177297a3eac0f46dd8f8180ad203662e4b3569a5fdbffabc80d799ad6ebf9915", func := "loop.example/g00938/laws.FnExactCodeAt", spec := "fnExactCodeAt", unfollowed := true, recurses := true, apart := false, narrowed := true }
def FnExactCodeAtUptoSaid : Prop := fnExactCodeAtUptoRow.holds Try.pinned (OpenSpec.upto fnExactCodeAtSpec)

/-- 'laws.FnExactCellOfCode', WHERE WHAT IT READS IS OF BULK AT MOST 1048576: true; the input reads as it did. -/
def fnExactCellOfCodeUptoRow : OpenClaim := { program := "ytcjggopdgkopiaa", sum := "177297a3eac0f46dd8f8180ad203662e4b3569a5fdbffabc80d799ad6ebf9915", func := "loop.example/g00938/laws.FnExactCellOfCode", spec := "fnExactCellOfCode", unfollowed := true, recurses := true, apart := false, narrowed := true }
def FnExactCellOfCodeUptoSaid : Prop := fnExactCellOfCodeUptoRow.holds Try.pinned (OpenSpec.upto fnExactCellOfCodeSpec)

/-- 'laws.FnExactFreeCode', WHERE WHAT IT READS IS OF BULK AT MOST 1048576: true; the input reads as it did. -/
def fnExactFreeCodeUptoRow : OpenClaim := { program := "ytcjggopdgkopiaa", sum := "177297a3eac0f46dd8f8180ad203662e4b3569a5fdbffabc80d799ad6ebf9915", func := "loop.example/g00938/laws.FnExactFreeCode", spec := "fnExactFreeCode", unfollowed := true, recurses := true, apart := false, narrowed := true }
def FnExactFreeCodeUptoSaid : Prop := fnExactFreeCodeUptoRow.holds Try.pinned (OpenSpec.upto fnExactFreeCodeSpec)

/-- 'laws.FnExactNearestControl', WHERE WHAT IT READS IS OF BULK AT MOST 1048576: true; the input reads as it did. -/
def fnExactNearestControlUptoRow : OpenClaim := { program := "ytcjggopdgkopiaa", sum := "177297a3eac0f46dd8f8180ad203662e4b3569a5fdbffabc80d799ad6ebf9915", func := "loop.example/g00938/laws.FnExactNearestControl", spec := "fnExactNearestControl", unfollowed := true, recurses := true, apart := false, narrowed := true }
def FnExactNearestControlUptoSaid : Prop := fnExactNearestControlUptoRow.holds Try.pinned (OpenSpec.upto fnExactNearestControlSpec)

/-- 'laws.FnExactConfusableCodes', WHERE WHAT IT READS IS OF BULK AT MOST 1048576: true; the input reads as it did. -/
def fnExactConfusableCodesUptoRow : OpenClaim := { program := "ytcjggopdgkopiaa", sum := "177297a3eac0f46dd8f8180ad203662e4b3569a5fdbffabc80d799ad6ebf9915", func := "loop.example/g00938/laws.FnExactConfusableCodes", spec := "fnExactConfusableCodes", unfollowed := true, recurses := true, apart := false, narrowed := true }
def FnExactConfusableCodesUptoSaid : Prop := fnExactConfusableCodesUptoRow.holds Try.pinned (OpenSpec.upto fnExactConfusableCodesSpec)

/-- 'laws.FnExactCloseControls', WHERE WHAT IT READS IS OF BULK AT MOST 1048576: true; the input reads as it did. -/
def fnExactCloseControlsUptoRow : OpenClaim := { program := "ytcjggopdgkopiaa", sum := "177297a3eac0f46dd8f8180ad203662e4b3569a5fdbffabc80d799ad6ebf9915", func := "loop.example/g00938/laws.FnExactCloseControls", spec := "fnExactCloseControls", unfollowed := true, recurses := true, apart := false, narrowed := true }
def FnExactCloseControlsUptoSaid : Prop := fnExactCloseControlsUptoRow.holds Try.pinned (OpenSpec.upto fnExactCloseControlsSpec)

/-- 'laws.FnExactMoveControl', WHERE WHAT IT READS IS OF BULK AT MOST 1048576: true; the input reads as it did. -/
def fnExactMoveControlUptoRow : OpenClaim := { program := "ytcjggopdgkopiaa", sum := "177297a3eac0f46dd8f8180ad203662e4b3569a5fdbffabc80d799ad6ebf9915", func := "loop.example/g00938/laws.FnExactMoveControl", spec := "fnExactMoveControl", unfollowed := true, recurses := true, apart := false, narrowed := true }
def FnExactMoveControlUptoSaid : Prop := fnExactMoveControlUptoRow.holds Try.pinned (OpenSpec.upto fnExactMoveControlSpec)

end Rows
end Go.Proofs.Ytcjggopdgkopiaa
