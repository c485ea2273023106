/-
  No cell of these rows narrows 'for every input' (looked for: loops, veiled, ifaces, maps, wideKeys, modest, calm, conditions, laid).
  DERIVED. THE GIVEN ROWS OF THIS SEAT. 4 by the template 'for every input the law returns true; each argument reads behind the call as it read before'; 0 by the template 'total and deterministic' (their statements: YtcbjphicicjmoaaTotals.lean).
  GIVEN WITH THE SEED: the statements are not yours to turn. If you find one false, say at which input.
  Laid BY PROGRAM, IN A SANDBOX (cutbox-rows.mjs): the forced cells as the released guide's own fill.sh prints them over the translation 83e60410ad8fc4e7… (all of the seat's roots in one cut). By AI agents, Wed Nov 11 2026. No macro, syntax, notation, axiom, sorry.
-/
import Derived.Test.YtcbjphicicjmoaaChecked
import GoSem.Claim
import GoSem.ClaimJoined
import GoSem.ClaimMapViews
import Derived.JoinedTies
import Derived.KernelRfl
namespace Go.Proofs.Ytcbjphicicjmoaa
/- THE CELL 'sum', in the pinned program and in every row, IS THE sha256 OF THE DUMP (.gsa) THAT YtcbjphicicjmoaaProg.lean LOADS. Nothing in Lean hashes anything: it is a label: what it is worth is what the hold of that sum in a sandbox is worth. -/
noncomputable def Try.pinned : Pinned := { name := "ytcbjphicicjmoaa", sum := "83e60410ad8fc4e73c72a1d53d865599a30f0b027ddde045e07a58d0de66caa4", checked := Try.checked }
namespace Rows
def none {H : Type} : Left H := { results := [], args := [] }

/-- 'laws.FnExactSidesFor': WHATEVER THE INPUT: true; the input reads as it did. -/
def fnExactSidesForSpec : ChangeSpec := { name := "fnExactSidesFor", fn := fun _ => fun
  | [d] => { results := [.lit (.bool true)], args := [d] }
  | _ => none }
def fnExactSidesForRow : OpenClaim := { program := "ytcbjphicicjmoaa", sum := "83e60410ad8fc4e73c72a1d53d865599a30f0b027ddde045e07a58d0de66caa4", func := "loop.example/g00938/laws.FnExactSidesFor", spec := "fnExactSidesFor", apart := false }
def FnExactSidesForSaid : Prop := fnExactSidesForRow.holds Try.pinned (OpenSpec.ofChange fnExactSidesForSpec)

/-- ITS FALSE NEIGHBOUR: 'it returns false'. Refute it at one input. -/
def fnExactSidesForWrong : ChangeSpec := { name := "fnExactSidesFor", fn := fun _ => fun
  | [d] => { results := [.lit (.bool false)], args := [d] }
  | _ => none }
def FnExactSidesForWrongFalsely : Prop := fnExactSidesForRow.holds Try.pinned (OpenSpec.ofChange fnExactSidesForWrong)

/-- 'laws.FnExactIsFeature': WHATEVER THE INPUT: true; the input reads as it did. -/
def fnExactIsFeatureSpec : ChangeSpec := { name := "fnExactIsFeature", fn := fun _ => fun
  | [d] => { results := [.lit (.bool true)], args := [d] }
  | _ => none }
def fnExactIsFeatureRow : OpenClaim := { program := "ytcbjphicicjmoaa", sum := "83e60410ad8fc4e73c72a1d53d865599a30f0b027ddde045e07a58d0de66caa4", func := "loop.example/g00938/laws.FnExactIsFeature", spec := "fnExactIsFeature", apart := false }
def FnExactIsFeatureSaid : Prop := fnExactIsFeatureRow.holds Try.pinned (OpenSpec.ofChange fnExactIsFeatureSpec)

/-- ITS FALSE NEIGHBOUR: 'it returns false'. Refute it at one input. -/
def fnExactIsFeatureWrong : ChangeSpec := { name := "fnExactIsFeature", fn := fun _ => fun
  | [d] => { results := [.lit (.bool false)], args := [d] }
  | _ => none }
def FnExactIsFeatureWrongFalsely : Prop := fnExactIsFeatureRow.holds Try.pinned (OpenSpec.ofChange fnExactIsFeatureWrong)

/-- 'laws.FnExactTurnSides': WHATEVER THE INPUT: true; the input reads as it did. -/
def fnExactTurnSidesSpec : ChangeSpec := { name := "fnExactTurnSides", fn := fun _ => fun
  | [d1, d2] => { results := [.lit (.bool true)], args := [d1, d2] }
  | _ => none }
def fnExactTurnSidesRow : OpenClaim := { program := "ytcbjphicicjmoaa", sum := "83e60410ad8fc4e73c72a1d53d865599a30f0b027ddde045e07a58d0de66caa4", func := "loop.example/g00938/laws.FnExactTurnSides", spec := "fnExactTurnSides", apart := false }
def FnExactTurnSidesSaid : Prop := fnExactTurnSidesRow.holds Try.pinned (OpenSpec.ofChange fnExactTurnSidesSpec)

/-- ITS FALSE NEIGHBOUR: 'it returns false'. Refute it at one input. -/
def fnExactTurnSidesWrong : ChangeSpec := { name := "fnExactTurnSides", fn := fun _ => fun
  | [d1, d2] => { results := [.lit (.bool false)], args := [d1, d2] }
  | _ => none }
def FnExactTurnSidesWrongFalsely : Prop := fnExactTurnSidesRow.holds Try.pinned (OpenSpec.ofChange fnExactTurnSidesWrong)

/-- 'laws.FnExactCountFamilies': WHATEVER THE INPUT: true; the input reads as it did. -/
def fnExactCountFamiliesSpec : ChangeSpec := { name := "fnExactCountFamilies", fn := fun _ => fun
  | [d] => { results := [.lit (.bool true)], args := [d] }
  | _ => none }
def fnExactCountFamiliesRow : OpenClaim := { program := "ytcbjphicicjmoaa", sum := "83e60410ad8fc4e73c72a1d53d865599a30f0b027ddde045e07a58d0de66caa4", func := "loop.example/g00938/laws.FnExactCountFamilies", spec := "fnExactCountFamilies", unfollowed := true, recurses := true, apart := false }
def FnExactCountFamiliesSaid : Prop := fnExactCountFamiliesRow.holds Try.pinned (OpenSpec.ofChange fnExactCountFamiliesSpec)

/-- ITS FALSE NEIGHBOUR: 'it returns false'. Refute it at one input. -/
def fnExactCountFamiliesWrong : ChangeSpec := { name := "fnExactCountFamilies", fn := fun _ => fun
  | [d] => { results := [.lit (.bool false)], args := [d] }
  | _ => none }
def FnExactCountFamiliesWrongFalsely : Prop := fnExactCountFamiliesRow.holds Try.pinned (OpenSpec.ofChange fnExactCountFamiliesWrong)

/- THE SECOND FORM. 'bulk': how many values and letters a reading holds, each counted each time it is reached (what is shared counts as often as it is met; a slice's spare places count too). A statement '..UptoSaid' is the law's where the arguments, and the package variables that the reading takes, are together of bulk at most 1048576: NARROWER than '..Said'. Prove '..Said' where nothing that the law and all that it calls make is longer than what came in: it says more and counts as full. Else prove '..UptoSaid'. A law counts once. -/
mutual
def uptoBulk {H : Type} : DataW H → Nat
  | .lit (.string bytes) => bytes.length + 1
  | .lit _ => 1
  | .nil => 1
  | .ptr d => uptoBulk d + 1
  | .slice elems spare => uptoBulkAll elems + uptoBulkAll spare + 1
  | .agg parts => uptoBulkAll parts + 1
  | .iface _ d => uptoBulk d + 1
  | .map entries => uptoBulkEntries entries + 1
  | .held _ => 1
def uptoBulkAll {H : Type} : List (DataW H) → Nat
  | [] => 0
  | d :: r => uptoBulk d + uptoBulkAll r
def uptoBulkEntries {H : Type} : List (Lit × DataW H) → Nat
  | [] => 0
  | x :: r => uptoBulkEntry x + uptoBulkEntries r
def uptoBulkEntry {H : Type} : Lit × DataW H → Nat
  | (.string bytes, d) => bytes.length + uptoBulk d + 1
  | (_, d) => uptoBulk d + 1
 end
def uptoSmall : (H : Type) → List (DataW H) → Bool := fun _ ds => decide (uptoBulkAll ds ≤ 1048576)
def OpenSpec.upto (s : _root_.Go.ChangeSpec) : _root_.Go.OpenSpec := { _root_.Go.OpenSpec.ofChange s with cond := some uptoSmall }

/-- 'laws.FnExactSidesFor', WHERE WHAT IT READS IS OF BULK AT MOST 1048576: true; the input reads as it did. -/
def fnExactSidesForUptoRow : OpenClaim := { program := "ytcbjphicicjmoaa", sum := "83e60410ad8fc4e73c72a1d53d865599a30f0b027ddde045e07a58d0de66caa4", func := "loop.example/g00938/laws.FnExactSidesFor", spec := "fnExactSidesFor", apart := false, narrowed := true }
def FnExactSidesForUptoSaid : Prop := fnExactSidesForUptoRow.holds Try.pinned (OpenSpec.upto fnExactSidesForSpec)

/-- 'laws.FnExactIsFeature', WHERE WHAT IT READS IS OF BULK AT MOST 1048576: true; the input reads as it did. -/
def fnExactIsFeatureUptoRow : OpenClaim := { program := "ytcbjphicicjmoaa", sum := "83e60410ad8fc4e73c72a1d53d865599a30f0b027ddde045e07a58d0de66caa4", func := "loop.example/g00938/laws.FnExactIsFeature", spec := "fnExactIsFeature", apart := false, narrowed := true }
def FnExactIsFeatureUptoSaid : Prop := fnExactIsFeatureUptoRow.holds Try.pinned (OpenSpec.upto fnExactIsFeatureSpec)

/-- 'laws.FnExactTurnSides', WHERE WHAT IT READS IS OF BULK AT MOST 1048576: true; the input reads as it did. -/
def fnExactTurnSidesUptoRow : OpenClaim := { program := "ytcbjphicicjmoaa", sum := "83e60410ad8fc4e73c72a1d53d865599a30f0b027ddde045e07a58d0de66caa4", func := "loop.example/g00938/laws.FnExactTurnSides", spec := "fnExactTurnSides", apart := false, narrowed := true }
def FnExactTurnSidesUptoSaid : Prop := fnExactTurnSidesUptoRow.holds Try.pinned (OpenSpec.upto fnExactTurnSidesSpec)

/-- 'laws.FnExactCountFamilies', WHERE WHAT IT READS IS OF BULK AT MOST 1048576: true; the input reads as it did. -/
def fnExactCountFamiliesUptoRow : OpenClaim := { program := "ytcbjphicicjmoaa", sum := "83e60410ad8fc4e73c72a1d53d865599a30f0b027ddde045e07a58d0de66caa4", func := "loop.example/g00938/laws.FnExactCountFamilies", spec := "fnExactCountFamilies", unfollowed := true, recurses := true, apart := false, narrowed := true }
def FnExactCountFamiliesUptoSaid : Prop := fnExactCountFamiliesUptoRow.holds Try.pinned (OpenSpec.upto fnExactCountFamiliesSpec)

end Rows
end Go.Proofs.Ytcbjphicicjmoaa
