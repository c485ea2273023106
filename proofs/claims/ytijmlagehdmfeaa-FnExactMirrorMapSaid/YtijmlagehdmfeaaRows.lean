/-
  No cell of these rows narrows 'for every input' (looked for: loops, veiled, ifaces, maps, wideKeys, modest, calm, conditions, laid).
  DERIVED. THE GIVEN ROWS OF THIS SEAT. 15 by the template 'for every input the law returns true; each argument reads behind the call as it read before'; 0 by the template 'total and deterministic' (their statements: YtijmlagehdmfeaaTotals.lean).
  GIVEN WITH THE SEED: the statements are not yours to turn. If you find one false, say at which input.
  Laid BY PROGRAM, IN A SANDBOX (cutbox-rows.mjs): the forced cells as the released guide's own fill.sh prints them over the translation b4f320d97b42658b… (all of the seat's roots in one cut). By AI agents, Wed Nov 11 2026. No macro, syntax, notation, axiom, sorry.
-/
import Derived.Test.YtijmlagehdmfeaaChecked
import GoSem.Claim
import GoSem.ClaimJoined
import GoSem.ClaimMapViews
import Derived.JoinedTies
import Derived.KernelRfl
namespace Go.Proofs.Ytijmlagehdmfeaa
/- THE CELL 'sum', in the pinned program and in every row, IS THE sha256 OF THE DUMP (.gsa) THAT YtijmlagehdmfeaaProg.lean LOADS. Nothing in Lean hashes anything: it is a label: what it is worth is what the hold of that sum in a sandbox is worth. -/
noncomputable def Try.pinned : Pinned := { name := "ytijmlagehdmfeaa", sum := "b4f320d97b42658b36ccc31e6c9ca22e0eb00a91e4a01ca5e504bcd5063c58a6", checked := Try.checked }
namespace Rows
def none {H : Type} : Left H := { results := [], args := [] }

/-- 'laws.FnExactHighestCell': WHATEVER THE INPUT: true; the input reads as it did. -/
def fnExactHighestCellSpec : ChangeSpec := { name := "fnExactHighestCell", fn := fun _ => fun
  | [d] => { results := [.lit (.bool true)], args := [d] }
  | _ => none }
def fnExactHighestCellRow : OpenClaim := { program := "ytijmlagehdmfeaa", sum := "b4f320d97b42658b36ccc31e6c9ca22e0eb00a91e4a01ca5e504bcd5063c58a6", func := "loop.example/g00938/laws.FnExactHighestCell", spec := "fnExactHighestCell", unfollowed := true, recurses := true, apart := false }
def FnExactHighestCellSaid : Prop := fnExactHighestCellRow.holds Try.pinned (OpenSpec.ofChange fnExactHighestCellSpec)

/-- ITS FALSE NEIGHBOUR: 'it returns false'. Refute it at one input. -/
def fnExactHighestCellWrong : ChangeSpec := { name := "fnExactHighestCell", fn := fun _ => fun
  | [d] => { results := [.lit (.bool false)], args := [d] }
  | _ => none }
def FnExactHighestCellWrongFalsely : Prop := fnExactHighestCellRow.holds Try.pinned (OpenSpec.ofChange fnExactHighestCellWrong)

/-- 'laws.FnExactMirrorMap': WHATEVER THE INPUT: true; the input reads as it did. -/
def fnExactMirrorMapSpec : ChangeSpec := { name := "fnExactMirrorMap", fn := fun _ => fun
  | [d] => { results := [.lit (.bool true)], args := [d] }
  | _ => none }
def fnExactMirrorMapRow : OpenClaim := { program := "ytijmlagehdmfeaa", sum := "b4f320d97b42658b36ccc31e6c9ca22e0eb00a91e4a01ca5e504bcd5063c58a6", func := "loop.example/g00938/laws.FnExactMirrorMap", spec := "fnExactMirrorMap", unfollowed := true, recurses := true, apart := false }
def FnExactMirrorMapSaid : Prop := fnExactMirrorMapRow.holds Try.pinned (OpenSpec.ofChange fnExactMirrorMapSpec)

/-- ITS FALSE NEIGHBOUR: 'it returns false'. Refute it at one input. -/
def fnExactMirrorMapWrong : ChangeSpec := { name := "fnExactMirrorMap", fn := fun _ => fun
  | [d] => { results := [.lit (.bool false)], args := [d] }
  | _ => none }
def FnExactMirrorMapWrongFalsely : Prop := fnExactMirrorMapRow.holds Try.pinned (OpenSpec.ofChange fnExactMirrorMapWrong)

/-- 'laws.FnExactTurnMap': WHATEVER THE INPUT: true; the input reads as it did. -/
def fnExactTurnMapSpec : ChangeSpec := { name := "fnExactTurnMap", fn := fun _ => fun
  | [d] => { results := [.lit (.bool true)], args := [d] }
  | _ => none }
def fnExactTurnMapRow : OpenClaim := { program := "ytijmlagehdmfeaa", sum := "b4f320d97b42658b36ccc31e6c9ca22e0eb00a91e4a01ca5e504bcd5063c58a6", func := "loop.example/g00938/laws.FnExactTurnMap", spec := "fnExactTurnMap", unfollowed := true, recurses := true, apart := false }
def FnExactTurnMapSaid : Prop := fnExactTurnMapRow.holds Try.pinned (OpenSpec.ofChange fnExactTurnMapSpec)

/-- ITS FALSE NEIGHBOUR: 'it returns false'. Refute it at one input. -/
def fnExactTurnMapWrong : ChangeSpec := { name := "fnExactTurnMap", fn := fun _ => fun
  | [d] => { results := [.lit (.bool false)], args := [d] }
  | _ => none }
def FnExactTurnMapWrongFalsely : Prop := fnExactTurnMapRow.holds Try.pinned (OpenSpec.ofChange fnExactTurnMapWrong)

/-- 'laws.FnExactStepTime': WHATEVER THE INPUT: true; the input reads as it did. -/
def fnExactStepTimeSpec : ChangeSpec := { name := "fnExactStepTime", fn := fun _ => fun
  | [d1, d2, d3] => { results := [.lit (.bool true)], args := [d1, d2, d3] }
  | _ => none }
def fnExactStepTimeRow : OpenClaim := { program := "ytijmlagehdmfeaa", sum := "b4f320d97b42658b36ccc31e6c9ca22e0eb00a91e4a01ca5e504bcd5063c58a6", func := "loop.example/g00938/laws.FnExactStepTime", spec := "fnExactStepTime", unfollowed := true, recurses := true, apart := false }
def FnExactStepTimeSaid : Prop := fnExactStepTimeRow.holds Try.pinned (OpenSpec.ofChange fnExactStepTimeSpec)

/-- ITS FALSE NEIGHBOUR: 'it returns false'. Refute it at one input. -/
def fnExactStepTimeWrong : ChangeSpec := { name := "fnExactStepTime", fn := fun _ => fun
  | [d1, d2, d3] => { results := [.lit (.bool false)], args := [d1, d2, d3] }
  | _ => none }
def FnExactStepTimeWrongFalsely : Prop := fnExactStepTimeRow.holds Try.pinned (OpenSpec.ofChange fnExactStepTimeWrong)

/-- 'laws.FnExactCellsNextTo': WHATEVER THE INPUT: true; the input reads as it did. -/
def fnExactCellsNextToSpec : ChangeSpec := { name := "fnExactCellsNextTo", fn := fun _ => fun
  | [d1, d2] => { results := [.lit (.bool true)], args := [d1, d2] }
  | _ => none }
def fnExactCellsNextToRow : OpenClaim := { program := "ytijmlagehdmfeaa", sum := "b4f320d97b42658b36ccc31e6c9ca22e0eb00a91e4a01ca5e504bcd5063c58a6", func := "loop.example/g00938/laws.FnExactCellsNextTo", spec := "fnExactCellsNextTo", unfollowed := true, recurses := true, apart := false }
def FnExactCellsNextToSaid : Prop := fnExactCellsNextToRow.holds Try.pinned (OpenSpec.ofChange fnExactCellsNextToSpec)

/-- ITS FALSE NEIGHBOUR: 'it returns false'. Refute it at one input. -/
def fnExactCellsNextToWrong : ChangeSpec := { name := "fnExactCellsNextTo", fn := fun _ => fun
  | [d1, d2] => { results := [.lit (.bool false)], args := [d1, d2] }
  | _ => none }
def FnExactCellsNextToWrongFalsely : Prop := fnExactCellsNextToRow.holds Try.pinned (OpenSpec.ofChange fnExactCellsNextToWrong)

/-- 'laws.FnExactIsRoute': WHATEVER THE INPUT: true; the input reads as it did. -/
def fnExactIsRouteSpec : ChangeSpec := { name := "fnExactIsRoute", fn := fun _ => fun
  | [d1, d2] => { results := [.lit (.bool true)], args := [d1, d2] }
  | _ => none }
def fnExactIsRouteRow : OpenClaim := { program := "ytijmlagehdmfeaa", sum := "b4f320d97b42658b36ccc31e6c9ca22e0eb00a91e4a01ca5e504bcd5063c58a6", func := "loop.example/g00938/laws.FnExactIsRoute", spec := "fnExactIsRoute", unfollowed := true, recurses := true, apart := false }
def FnExactIsRouteSaid : Prop := fnExactIsRouteRow.holds Try.pinned (OpenSpec.ofChange fnExactIsRouteSpec)

/-- ITS FALSE NEIGHBOUR: 'it returns false'. Refute it at one input. -/
def fnExactIsRouteWrong : ChangeSpec := { name := "fnExactIsRoute", fn := fun _ => fun
  | [d1, d2] => { results := [.lit (.bool false)], args := [d1, d2] }
  | _ => none }
def FnExactIsRouteWrongFalsely : Prop := fnExactIsRouteRow.holds Try.pinned (OpenSpec.ofChange fnExactIsRouteWrong)

/-- 'laws.FnExactRouteClimb': WHATEVER THE INPUT: true; the input reads as it did. -/
def fnExactRouteClimbSpec : ChangeSpec := { name := "fnExactRouteClimb", fn := fun _ => fun
  | [d1, d2] => { results := [.lit (.bool true)], args := [d1, d2] }
  | _ => none }
def fnExactRouteClimbRow : OpenClaim := { program := "ytijmlagehdmfeaa", sum := "b4f320d97b42658b36ccc31e6c9ca22e0eb00a91e4a01ca5e504bcd5063c58a6", func := "loop.example/g00938/laws.FnExactRouteClimb", spec := "fnExactRouteClimb", unfollowed := true, recurses := true, apart := false }
def FnExactRouteClimbSaid : Prop := fnExactRouteClimbRow.holds Try.pinned (OpenSpec.ofChange fnExactRouteClimbSpec)

/-- ITS FALSE NEIGHBOUR: 'it returns false'. Refute it at one input. -/
def fnExactRouteClimbWrong : ChangeSpec := { name := "fnExactRouteClimb", fn := fun _ => fun
  | [d1, d2] => { results := [.lit (.bool false)], args := [d1, d2] }
  | _ => none }
def FnExactRouteClimbWrongFalsely : Prop := fnExactRouteClimbRow.holds Try.pinned (OpenSpec.ofChange fnExactRouteClimbWrong)

/-- 'laws.FnExactRouteTime': WHATEVER THE INPUT: true; the input reads as it did. -/
def fnExactRouteTimeSpec : ChangeSpec := { name := "fnExactRouteTime", fn := fun _ => fun
  | [d1, d2] => { results := [.lit (.bool true)], args := [d1, d2] }
  | _ => none }
def fnExactRouteTimeRow : OpenClaim := { program := "ytijmlagehdmfeaa", sum := "b4f320d97b42658b36ccc31e6c9ca22e0eb00a91e4a01ca5e504bcd5063c58a6", func := "loop.example/g00938/laws.FnExactRouteTime", spec := "fnExactRouteTime", unfollowed := true, recurses := true, apart := false }
def FnExactRouteTimeSaid : Prop := fnExactRouteTimeRow.holds Try.pinned (OpenSpec.ofChange fnExactRouteTimeSpec)

/-- ITS FALSE NEIGHBOUR: 'it returns false'. Refute it at one input. -/
def fnExactRouteTimeWrong : ChangeSpec := { name := "fnExactRouteTime", fn := fun _ => fun
  | [d1, d2] => { results := [.lit (.bool false)], args := [d1, d2] }
  | _ => none }
def FnExactRouteTimeWrongFalsely : Prop := fnExactRouteTimeRow.holds Try.pinned (OpenSpec.ofChange fnExactRouteTimeWrong)

/-- 'laws.FnExactLeastTime': WHATEVER THE INPUT: true; the input reads as it did. -/
def fnExactLeastTimeSpec : ChangeSpec := { name := "fnExactLeastTime", fn := fun _ => fun
  | [d1, d2, d3] => { results := [.lit (.bool true)], args := [d1, d2, d3] }
  | _ => none }
def fnExactLeastTimeRow : OpenClaim := { program := "ytijmlagehdmfeaa", sum := "b4f320d97b42658b36ccc31e6c9ca22e0eb00a91e4a01ca5e504bcd5063c58a6", func := "loop.example/g00938/laws.FnExactLeastTime", spec := "fnExactLeastTime", unfollowed := true, recurses := true, apart := false }
def FnExactLeastTimeSaid : Prop := fnExactLeastTimeRow.holds Try.pinned (OpenSpec.ofChange fnExactLeastTimeSpec)

/-- ITS FALSE NEIGHBOUR: 'it returns false'. Refute it at one input. -/
def fnExactLeastTimeWrong : ChangeSpec := { name := "fnExactLeastTime", fn := fun _ => fun
  | [d1, d2, d3] => { results := [.lit (.bool false)], args := [d1, d2, d3] }
  | _ => none }
def FnExactLeastTimeWrongFalsely : Prop := fnExactLeastTimeRow.holds Try.pinned (OpenSpec.ofChange fnExactLeastTimeWrong)

/-- 'laws.FnExactDetourTime': WHATEVER THE INPUT: true; the input reads as it did. -/
def fnExactDetourTimeSpec : ChangeSpec := { name := "fnExactDetourTime", fn := fun _ => fun
  | [d1, d2, d3, d4] => { results := [.lit (.bool true)], args := [d1, d2, d3, d4] }
  | _ => none }
def fnExactDetourTimeRow : OpenClaim := { program := "ytijmlagehdmfeaa", sum := "b4f320d97b42658b36ccc31e6c9ca22e0eb00a91e4a01ca5e504bcd5063c58a6", func := "loop.example/g00938/laws.FnExactDetourTime", spec := "fnExactDetourTime", unfollowed := true, recurses := true, apart := false }
def FnExactDetourTimeSaid : Prop := fnExactDetourTimeRow.holds Try.pinned (OpenSpec.ofChange fnExactDetourTimeSpec)

/-- ITS FALSE NEIGHBOUR: 'it returns false'. Refute it at one input. -/
def fnExactDetourTimeWrong : ChangeSpec := { name := "fnExactDetourTime", fn := fun _ => fun
  | [d1, d2, d3, d4] => { results := [.lit (.bool false)], args := [d1, d2, d3, d4] }
  | _ => none }
def FnExactDetourTimeWrongFalsely : Prop := fnExactDetourTimeRow.holds Try.pinned (OpenSpec.ofChange fnExactDetourTimeWrong)

/-- 'laws.FnExactFarthestCell': WHATEVER THE INPUT: true; the input reads as it did. -/
def fnExactFarthestCellSpec : ChangeSpec := { name := "fnExactFarthestCell", fn := fun _ => fun
  | [d1, d2] => { results := [.lit (.bool true)], args := [d1, d2] }
  | _ => none }
def fnExactFarthestCellRow : OpenClaim := { program := "ytijmlagehdmfeaa", sum := "b4f320d97b42658b36ccc31e6c9ca22e0eb00a91e4a01ca5e504bcd5063c58a6", func := "loop.example/g00938/laws.FnExactFarthestCell", spec := "fnExactFarthestCell", unfollowed := true, recurses := true, apart := false }
def FnExactFarthestCellSaid : Prop := fnExactFarthestCellRow.holds Try.pinned (OpenSpec.ofChange fnExactFarthestCellSpec)

/-- ITS FALSE NEIGHBOUR: 'it returns false'. Refute it at one input. -/
def fnExactFarthestCellWrong : ChangeSpec := { name := "fnExactFarthestCell", fn := fun _ => fun
  | [d1, d2] => { results := [.lit (.bool false)], args := [d1, d2] }
  | _ => none }
def FnExactFarthestCellWrongFalsely : Prop := fnExactFarthestCellRow.holds Try.pinned (OpenSpec.ofChange fnExactFarthestCellWrong)

/-- 'laws.FnExactCrossedBy': WHATEVER THE INPUT: true; the input reads as it did. -/
def fnExactCrossedBySpec : ChangeSpec := { name := "fnExactCrossedBy", fn := fun _ => fun
  | [d1, d2, d3, d4] => { results := [.lit (.bool true)], args := [d1, d2, d3, d4] }
  | _ => none }
def fnExactCrossedByRow : OpenClaim := { program := "ytijmlagehdmfeaa", sum := "b4f320d97b42658b36ccc31e6c9ca22e0eb00a91e4a01ca5e504bcd5063c58a6", func := "loop.example/g00938/laws.FnExactCrossedBy", spec := "fnExactCrossedBy", unfollowed := true, recurses := true, apart := false }
def FnExactCrossedBySaid : Prop := fnExactCrossedByRow.holds Try.pinned (OpenSpec.ofChange fnExactCrossedBySpec)

/-- ITS FALSE NEIGHBOUR: 'it returns false'. Refute it at one input. -/
def fnExactCrossedByWrong : ChangeSpec := { name := "fnExactCrossedBy", fn := fun _ => fun
  | [d1, d2, d3, d4] => { results := [.lit (.bool false)], args := [d1, d2, d3, d4] }
  | _ => none }
def FnExactCrossedByWrongFalsely : Prop := fnExactCrossedByRow.holds Try.pinned (OpenSpec.ofChange fnExactCrossedByWrong)

/-- 'laws.FnExactCellsWithin': WHATEVER THE INPUT: true; the input reads as it did. -/
def fnExactCellsWithinSpec : ChangeSpec := { name := "fnExactCellsWithin", fn := fun _ => fun
  | [d1, d2, d3] => { results := [.lit (.bool true)], args := [d1, d2, d3] }
  | _ => none }
def fnExactCellsWithinRow : OpenClaim := { program := "ytijmlagehdmfeaa", sum := "b4f320d97b42658b36ccc31e6c9ca22e0eb00a91e4a01ca5e504bcd5063c58a6", func := "loop.example/g00938/laws.FnExactCellsWithin", spec := "fnExactCellsWithin", unfollowed := true, recurses := true, apart := false }
def FnExactCellsWithinSaid : Prop := fnExactCellsWithinRow.holds Try.pinned (OpenSpec.ofChange fnExactCellsWithinSpec)

/-- ITS FALSE NEIGHBOUR: 'it returns false'. Refute it at one input. -/
def fnExactCellsWithinWrong : ChangeSpec := { name := "fnExactCellsWithin", fn := fun _ => fun
  | [d1, d2, d3] => { results := [.lit (.bool false)], args := [d1, d2, d3] }
  | _ => none }
def FnExactCellsWithinWrongFalsely : Prop := fnExactCellsWithinRow.holds Try.pinned (OpenSpec.ofChange fnExactCellsWithinWrong)

/-- 'laws.FnExactBestRoute': WHATEVER THE INPUT: true; the input reads as it did. -/
def fnExactBestRouteSpec : ChangeSpec := { name := "fnExactBestRoute", fn := fun _ => fun
  | [d1, d2, d3] => { results := [.lit (.bool true)], args := [d1, d2, d3] }
  | _ => none }
def fnExactBestRouteRow : OpenClaim := { program := "ytijmlagehdmfeaa", sum := "b4f320d97b42658b36ccc31e6c9ca22e0eb00a91e4a01ca5e504bcd5063c58a6", func := "loop.example/g00938/laws.FnExactBestRoute", spec := "fnExactBestRoute", unfollowed := true, recurses := true, apart := false }
def FnExactBestRouteSaid : Prop := fnExactBestRouteRow.holds Try.pinned (OpenSpec.ofChange fnExactBestRouteSpec)

/-- ITS FALSE NEIGHBOUR: 'it returns false'. Refute it at one input. -/
def fnExactBestRouteWrong : ChangeSpec := { name := "fnExactBestRoute", fn := fun _ => fun
  | [d1, d2, d3] => { results := [.lit (.bool false)], args := [d1, d2, d3] }
  | _ => none }
def FnExactBestRouteWrongFalsely : Prop := fnExactBestRouteRow.holds Try.pinned (OpenSpec.ofChange fnExactBestRouteWrong)

/-- 'laws.FnExactOpenParts': WHATEVER THE INPUT: true; the input reads as it did. -/
def fnExactOpenPartsSpec : ChangeSpec := { name := "fnExactOpenParts", fn := fun _ => fun
  | [d] => { results := [.lit (.bool true)], args := [d] }
  | _ => none }
def fnExactOpenPartsRow : OpenClaim := { program := "ytijmlagehdmfeaa", sum := "b4f320d97b42658b36ccc31e6c9ca22e0eb00a91e4a01ca5e504bcd5063c58a6", func := "loop.example/g00938/laws.FnExactOpenParts", spec := "fnExactOpenParts", unfollowed := true, recurses := true, apart := false }
def FnExactOpenPartsSaid : Prop := fnExactOpenPartsRow.holds Try.pinned (OpenSpec.ofChange fnExactOpenPartsSpec)

/-- ITS FALSE NEIGHBOUR: 'it returns false'. Refute it at one input. -/
def fnExactOpenPartsWrong : ChangeSpec := { name := "fnExactOpenParts", fn := fun _ => fun
  | [d] => { results := [.lit (.bool false)], args := [d] }
  | _ => none }
def FnExactOpenPartsWrongFalsely : Prop := fnExactOpenPartsRow.holds Try.pinned (OpenSpec.ofChange fnExactOpenPartsWrong)

/- THE SECOND FORM. 'bulk': how many values and letters a reading holds, each counted each time it is reached (what is shared counts as often as it is met; a slice's spare places count too). A statement '..UptoSaid' is the law's where the arguments, and the package variables that the reading takes, are together of bulk at most 1048576: NARROWER than '..Said'. Prove '..Said' where nothing that the law and all that it calls make is longer than what came in: it says more and counts as full. Else prove '..UptoSaid'. A law counts once. -/
mutual
def uptoBulk {H : Type} : DataW H → Nat
  | .lit (.string bytes) => bytes.length + 1
  | .lit _ => 1
  | .nil => 1
  | .ptr d => uptoBulk d + 1
  | .slice elems spare => uptoBulkAll elems + uptoBulkAll spare + 1
  | .agg parts => uptoBulkAll parts + 1
  | .iface _ d => uptoBulk d + 1
  | .map entries => uptoBulkEntries entries + 1
  | .held _ => 1
def uptoBulkAll {H : Type} : List (DataW H) → Nat
  | [] => 0
  | d :: r => uptoBulk d + uptoBulkAll r
def uptoBulkEntries {H : Type} : List (Lit × DataW H) → Nat
  | [] => 0
  | x :: r => uptoBulkEntry x + uptoBulkEntries r
def uptoBulkEntry {H : Type} : Lit × DataW H → Nat
  | (.string bytes, d) => bytes.length + uptoBulk d + 1
  | (_, d) => uptoBulk d + 1
 end
def uptoSmall : (H : Type) → List (DataW H) → Bool := fun _ ds => decide (uptoBulkAll ds ≤ 1048576)
def OpenSpec.upto (s : _root_.Go.ChangeSpec) : _root_.Go.OpenSpec := { _root_.Go.OpenSpec.ofChange s with cond := some uptoSmall }

/-- 'laws.FnExactHighestCell', WHERE WHAT IT READS IS OF BULK AT MOST 1048576: true; the input reads as it did. -/
def fnExactHighestCellUptoRow : OpenClaim := { program := "ytijmlagehdmfeaa", sum := "b4f320d97b42658b36ccc31e6c9ca22e0eb00a91e4a01ca5e504bcd5063c58a6", func := "loop.example/g00938/laws.FnExactHighestCell", spec := "fnExactHighestCell", unfollowed := true, recurses := true, apart := false, narrowed := true }
def FnExactHighestCellUptoSaid : Prop := fnExactHighestCellUptoRow.holds Try.pinned (OpenSpec.upto fnExactHighestCellSpec)

/-- 'laws.FnExactMirrorMap', WHERE WHAT IT READS IS OF BULK AT MOST 1048576: true; the input reads as it did. -/
def fnExactMirrorMapUptoRow : OpenClaim := { program := "ytijmlagehdmfeaa", sum := "b4f320d97b42658b36ccc31e6c9ca22e0eb00a91e4a01ca5e504bcd5063c58a6", func := "loop.example/g00938/laws.FnExactMirrorMap", spec := "fnExactMirrorMap", unfollowed := true, recurses := true, apart := false, narrowed := true }
def FnExactMirrorMapUptoSaid : Prop := fnExactMirrorMapUptoRow.holds Try.pinned (OpenSpec.upto fnExactMirrorMapSpec)

/-- 'laws.FnExactTurnMap', WHERE WHAT IT READS IS OF BULK AT MOST 1048576: true; the input reads as it did. -/
def fnExactTurnMapUptoRow : OpenClaim := { program := "ytijmlagehdmfeaa", sum := "b4f320d97b42658b36ccc31e6c9ca22e0eb00a91e4a01ca5e504bcd5063c58a6", func := "loop.example/g00938/laws.FnExactTurnMap", spec := "fnExactTurnMap", unfollowed := true, recurses := true, apart := false, narrowed := true }
def FnExactTurnMapUptoSaid : Prop := fnExactTurnMapUptoRow.holds Try.pinned (OpenSpec.upto fnExactTurnMapSpec)

/-- 'laws.FnExactStepTime', WHERE WHAT IT READS IS OF BULK AT MOST 1048576: true; the input reads as it did. -/
def fnExactStepTimeUptoRow : OpenClaim := { program := "ytijmlagehdmfeaa", sum := "b4f320d97b42658b36ccc31e6c9ca22e0eb00a91e4a01ca5e504bcd5063c58a6", func := "loop.example/g00938/laws.FnExactStepTime", spec := "fnExactStepTime", unfollowed := true, recurses := true, apart := false, narrowed := true }
def FnExactStepTimeUptoSaid : Prop := fnExactStepTimeUptoRow.holds Try.pinned (OpenSpec.upto fnExactStepTimeSpec)

/-- 'laws.FnExactCellsNextTo', WHERE WHAT IT READS IS OF BULK AT MOST 1048576: true; the input reads as it did. -/
def fnExactCellsNextToUptoRow : OpenClaim := { program := "ytijmlagehdmfeaa", sum := "b4f320d97b42658b36ccc31e6c9ca22e0eb00a91e4a01ca5e504bcd5063c58a6", func := "loop.example/g00938/laws.FnExactCellsNextTo", spec := "fnExactCellsNextTo", unfollowed := true, recurses := true, apart := false, narrowed := true }
def FnExactCellsNextToUptoSaid : Prop := fnExactCellsNextToUptoRow.holds Try.pinned (OpenSpec.upto fnExactCellsNextToSpec)

/-- 'laws.FnExactIsRoute', WHERE WHAT IT READS IS OF BULK AT MOST 1048576: true; the input reads as it did. -/
def fnExactIsRouteUptoRow : OpenClaim := { program := "ytijmlagehdmfeaa", sum := "b4f320d97b42658b36ccc31e6c9ca22e0eb00a91e4a01ca5e504bcd5063c58a6", func := "loop.example/g00938/laws.FnExactIsRoute", spec := "fnExactIsRoute", unfollowed := true, recurses := true, apart := false, narrowed := true }
def FnExactIsRouteUptoSaid : Prop := fnExactIsRouteUptoRow.holds Try.pinned (OpenSpec.upto fnExactIsRouteSpec)

/-- 'laws.FnExactRouteClimb', WHERE WHAT IT READS IS OF BULK AT MOST 1048576: true; the input reads as it did. -/
def fnExactRouteClimbUptoRow : OpenClaim := { program := "ytijmlagehdmfeaa", sum := "b4f320d97b42658b36ccc31e6c9ca22e0eb00a91e4a01ca5e504bcd5063c58a6", func := "loop.example/g00938/laws.FnExactRouteClimb", spec := "fnExactRouteClimb", unfollowed := true, recurses := true, apart := false, narrowed := true }
def FnExactRouteClimbUptoSaid : Prop := fnExactRouteClimbUptoRow.holds Try.pinned (OpenSpec.upto fnExactRouteClimbSpec)

/-- 'laws.FnExactRouteTime', WHERE WHAT IT READS IS OF BULK AT MOST 1048576: true; the input reads as it did. -/
def fnExactRouteTimeUptoRow : OpenClaim := { program := "ytijmlagehdmfeaa", sum := "b4f320d97b42658b36ccc31e6c9ca22e0eb00a91e4a01ca5e504bcd5063c58a6", func := "loop.example/g00938/laws.FnExactRouteTime", spec := "fnExactRouteTime", unfollowed := true, recurses := true, apart := false, narrowed := true }
def FnExactRouteTimeUptoSaid : Prop := fnExactRouteTimeUptoRow.holds Try.pinned (OpenSpec.upto fnExactRouteTimeSpec)

/-- 'laws.FnExactLeastTime', WHERE WHAT IT READS IS OF BULK AT MOST 1048576: true; the input reads as it did. -/
def fnExactLeastTimeUptoRow : OpenClaim := { program := "ytijmlagehdmfeaa", sum := "b4f320d97b42658b36ccc31e6c9ca22e0eb00a91e4a01ca5e504bcd5063c58a6", func := "loop.example/g00938/laws.FnExactLeastTime", spec := "fnExactLeastTime", unfollowed := true, recurses := true, apart := false, narrowed := true }
def FnExactLeastTimeUptoSaid : Prop := fnExactLeastTimeUptoRow.holds Try.pinned (OpenSpec.upto fnExactLeastTimeSpec)

/-- 'laws.FnExactDetourTime', WHERE WHAT IT READS IS OF BULK AT MOST 1048576: true; the input reads as it did. -/
def fnExactDetourTimeUptoRow : OpenClaim := { program := "ytijmlagehdmfeaa", sum := "b4f320d97b42658b36ccc31e6c9ca22e0eb00a91e4a01ca5e504bcd5063c58a6", func := "loop.example/g00938/laws.FnExactDetourTime", spec := "fnExactDetourTime", unfollowed := true, recurses := true, apart := false, narrowed := true }
def FnExactDetourTimeUptoSaid : Prop := fnExactDetourTimeUptoRow.holds Try.pinned (OpenSpec.upto fnExactDetourTimeSpec)

/-- 'laws.FnExactFarthestCell', WHERE WHAT IT READS IS OF BULK AT MOST 1048576: true; the input reads as it did. -/
def fnExactFarthestCellUptoRow : OpenClaim := { program := "ytijmlagehdmfeaa", sum := "b4f320d97b42658b36ccc31e6c9ca22e0eb00a91e4a01ca5e504bcd5063c58a6", func := "loop.example/g00938/laws.FnExactFarthestCell", spec := "fnExactFarthestCell", unfollowed := true, recurses := true, apart := false, narrowed := true }
def FnExactFarthestCellUptoSaid : Prop := fnExactFarthestCellUptoRow.holds Try.pinned (OpenSpec.upto fnExactFarthestCellSpec)

/-- 'laws.FnExactCrossedBy', WHERE WHAT IT READS IS OF BULK AT MOST 1048576: true; the input reads as it did. -/
def fnExactCrossedByUptoRow : OpenClaim := { program := "ytijmlagehdmfeaa", sum := "b4f320d97b42658b36ccc31e6c9ca22e0eb00a91e4a01ca5e504bcd5063c58a6", func := "loop.example/g00938/laws.FnExactCrossedBy", spec := "fnExactCrossedBy", unfollowed := true, recurses := true, apart := false, narrowed := true }
def FnExactCrossedByUptoSaid : Prop := fnExactCrossedByUptoRow.holds Try.pinned (OpenSpec.upto fnExactCrossedBySpec)

/-- 'laws.FnExactCellsWithin', WHERE WHAT IT READS IS OF BULK AT MOST 1048576: true; the input reads as it did. -/
def fnExactCellsWithinUptoRow : OpenClaim := { program := "ytijmlagehdmfeaa", sum := "b4f320d97b42658b36ccc31e6c9ca22e0eb00a91e4a01ca5e504bcd5063c58a6", func := "loop.example/g00938/laws.FnExactCellsWithin", spec := "fnExactCellsWithin", unfollowed := true, recurses := true, apart := false, narrowed := true }
def FnExactCellsWithinUptoSaid : Prop := fnExactCellsWithinUptoRow.holds Try.pinned (OpenSpec.upto fnExactCellsWithinSpec)

/-- 'laws.FnExactBestRoute', WHERE WHAT IT READS IS OF BULK AT MOST 1048576: true; the input reads as it did. -/
def fnExactBestRouteUptoRow : OpenClaim := { program := "ytijmlagehdmfeaa", sum := "b4f320d97b42658b36ccc31e6c9ca22e0eb00a91e4a01ca5e504bcd5063c58a6", func := "loop.example/g00938/laws.FnExactBestRoute", spec := "fnExactBestRoute", unfollowed := true, recurses := true, apart := false, narrowed := true }
def FnExactBestRouteUptoSaid : Prop := fnExactBestRouteUptoRow.holds Try.pinned (OpenSpec.upto fnExactBestRouteSpec)

/-- 'laws.FnExactOpenParts', WHERE WHAT IT READS IS OF BULK AT MOST 1048576: true; the input reads as it did. -/
def fnExactOpenPartsUptoRow : OpenClaim := { program := "ytijmlagehdmfeaa", sum := "b4f320d97b42658b36ccc31e6c9ca22e0eb00a91e4a01ca5e504bcd5063c58a6", func := "loop.example/g00938/laws.FnExactOpenParts", spec := "fnExactOpenParts", unfollowed := true, recurses := true, apart := false, narrowed := true }
def FnExactOpenPartsUptoSaid : Prop := fnExactOpenPartsUptoRow.holds Try.pinned (OpenSpec.upto fnExactOpenPartsSpec)

end Rows
end Go.Proofs.Ytijmlagehdmfeaa
