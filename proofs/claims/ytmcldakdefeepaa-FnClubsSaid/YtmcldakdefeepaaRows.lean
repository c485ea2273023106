/-
  No cell of these rows narrows 'for every input' (looked for: loops, veiled, ifaces, maps, wideKeys, modest, calm, conditions, laid).
  DERIVED. THE GIVEN ROWS OF THIS SEAT. 9 by the template 'for every input the law returns true; each argument reads behind the call as it read before'; 0 by the template 'total and deterministic' (their statements: YtmcldakdefeepaaTotals.lean).
  GIVEN WITH THE SEED: the statements are not yours to turn. If you find one false, say at which input.
  Laid BY PROGRAM, IN A SANDBOX (cutbox-rows.mjs): the forced cells as the released guide's own fill.sh prints them over the translation a1db939c28c0800e… (all of the seat's roots in one cut). By AI agents, Wed Nov 11 2026. No macro, syntax, notation, axiom, sorry.
-/
import Derived.Test.YtmcldakdefeepaaChecked
import GoSem.Claim
import GoSem.ClaimJoined
import GoSem.ClaimMapViews
import Derived.JoinedTies
import Derived.KernelRfl
namespace Go.Proofs.Ytmcldakdefeepaa
/- THE CELL 'sum', in the pinned program and in every row, IS THE sha256 OF THE DUMP (.gsa) THAT YtmcldakdefeepaaProg.lean LOADS. Nothing in Lean hashes anything: it is a label: what it is worth is what the hold of that sum in a sandbox is worth. -/
noncomputable def Try.pinned : Pinned := { name := "ytmcldakdefeepaa", sum := "a1db939c28c0800e3823bc0ebd99336c31429e985cb06a698a67fba3353e3188", checked := Try.checked }
namespace Rows
def none {H : Type} : Left H := { results := [], args := [] }

/-- 'laws.FnExactAreRunners': WHATEVER THE INPUT: true; the input reads as it did. -/
def fnExactAreRunnersSpec : ChangeSpec := { name := "fnExactAreRunners", fn := fun _ => fun
  | [d] => { results := [.lit (.bool true)], args := [d] }
  | _ => none }
def fnExactAreRunnersRow : OpenClaim := { program := "ytmcldakdefeepaa", sum := "a1db939c28c0800e3823bc0ebd99336c31429e985cb06a698a67fba3353e3188", func := "loop.example/g00938/laws.FnExactAreRunners", spec := "fnExactAreRunners", unfollowed := true, recurses := true, apart := false }
def FnExactAreRunnersSaid : Prop := fnExactAreRunnersRow.holds Try.pinned (OpenSpec.ofChange fnExactAreRunnersSpec)

/-- ITS FALSE NEIGHBOUR: 'it returns false'. Refute it at one input. -/
def fnExactAreRunnersWrong : ChangeSpec := { name := "fnExactAreRunners", fn := fun _ => fun
  | [d] => { results := [.lit (.bool false)], args := [d] }
  | _ => none }
def FnExactAreRunnersWrongFalsely : Prop := fnExactAreRunnersRow.holds Try.pinned (OpenSpec.ofChange fnExactAreRunnersWrong)

/-- 'laws.FnExactRunnerWithCard': WHATEVER THE INPUT: true; the input reads as it did. -/
def fnExactRunnerWithCardSpec : ChangeSpec := { name := "fnExactRunnerWithCard", fn := fun _ => fun
  | [d1, d2] => { results := [.lit (.bool true)], args := [d1, d2] }
  | _ => none }
def fnExactRunnerWithCardRow : OpenClaim := { program := "ytmcldakdefeepaa", sum := "a1db939c28c0800e3823bc0ebd99336c31429e985cb06a698a67fba3353e3188", func := "loop.example/g00938/laws.FnExactRunnerWithCard", spec := "fnExactRunnerWithCard", unfollowed := true, recurses := true, apart := false }
def FnExactRunnerWithCardSaid : Prop := fnExactRunnerWithCardRow.holds Try.pinned (OpenSpec.ofChange fnExactRunnerWithCardSpec)

/-- ITS FALSE NEIGHBOUR: 'it returns false'. Refute it at one input. -/
def fnExactRunnerWithCardWrong : ChangeSpec := { name := "fnExactRunnerWithCard", fn := fun _ => fun
  | [d1, d2] => { results := [.lit (.bool false)], args := [d1, d2] }
  | _ => none }
def FnExactRunnerWithCardWrongFalsely : Prop := fnExactRunnerWithCardRow.holds Try.pinned (OpenSpec.ofChange fnExactRunnerWithCardWrong)

/-- 'laws.FnExactRunnersAged': WHATEVER THE INPUT: true; the input reads as it did. -/
def fnExactRunnersAgedSpec : ChangeSpec := { name := "fnExactRunnersAged", fn := fun _ => fun
  | [d1, d2, d3] => { results := [.lit (.bool true)], args := [d1, d2, d3] }
  | _ => none }
def fnExactRunnersAgedRow : OpenClaim := { program := "ytmcldakdefeepaa", sum := "a1db939c28c0800e3823bc0ebd99336c31429e985cb06a698a67fba3353e3188", func := "loop.example/g00938/laws.FnExactRunnersAged", spec := "fnExactRunnersAged", unfollowed := true, recurses := true, apart := false }
def FnExactRunnersAgedSaid : Prop := fnExactRunnersAgedRow.holds Try.pinned (OpenSpec.ofChange fnExactRunnersAgedSpec)

/-- ITS FALSE NEIGHBOUR: 'it returns false'. Refute it at one input. -/
def fnExactRunnersAgedWrong : ChangeSpec := { name := "fnExactRunnersAged", fn := fun _ => fun
  | [d1, d2, d3] => { results := [.lit (.bool false)], args := [d1, d2, d3] }
  | _ => none }
def FnExactRunnersAgedWrongFalsely : Prop := fnExactRunnersAgedRow.holds Try.pinned (OpenSpec.ofChange fnExactRunnersAgedWrong)

/-- 'laws.FnExactClubMembers': WHATEVER THE INPUT: true; the input reads as it did. -/
def fnExactClubMembersSpec : ChangeSpec := { name := "fnExactClubMembers", fn := fun _ => fun
  | [d1, d2] => { results := [.lit (.bool true)], args := [d1, d2] }
  | _ => none }
def fnExactClubMembersRow : OpenClaim := { program := "ytmcldakdefeepaa", sum := "a1db939c28c0800e3823bc0ebd99336c31429e985cb06a698a67fba3353e3188", func := "loop.example/g00938/laws.FnExactClubMembers", spec := "fnExactClubMembers", unfollowed := true, recurses := true, apart := false }
def FnExactClubMembersSaid : Prop := fnExactClubMembersRow.holds Try.pinned (OpenSpec.ofChange fnExactClubMembersSpec)

/-- ITS FALSE NEIGHBOUR: 'it returns false'. Refute it at one input. -/
def fnExactClubMembersWrong : ChangeSpec := { name := "fnExactClubMembers", fn := fun _ => fun
  | [d1, d2] => { results := [.lit (.bool false)], args := [d1, d2] }
  | _ => none }
def FnExactClubMembersWrongFalsely : Prop := fnExactClubMembersRow.holds Try.pinned (OpenSpec.ofChange fnExactClubMembersWrong)

/-- 'laws.FnExactSwapCards': WHATEVER THE INPUT: true; the input reads as it did. -/
def fnExactSwapCardsSpec : ChangeSpec := { name := "fnExactSwapCards", fn := fun _ => fun
  | [d1, d2, d3] => { results := [.lit (.bool true)], args := [d1, d2, d3] }
  | _ => none }
def fnExactSwapCardsRow : OpenClaim := { program := "ytmcldakdefeepaa", sum := "a1db939c28c0800e3823bc0ebd99336c31429e985cb06a698a67fba3353e3188", func := "loop.example/g00938/laws.FnExactSwapCards", spec := "fnExactSwapCards", unfollowed := true, recurses := true, apart := false }
def FnExactSwapCardsSaid : Prop := fnExactSwapCardsRow.holds Try.pinned (OpenSpec.ofChange fnExactSwapCardsSpec)

/-- ITS FALSE NEIGHBOUR: 'it returns false'. Refute it at one input. -/
def fnExactSwapCardsWrong : ChangeSpec := { name := "fnExactSwapCards", fn := fun _ => fun
  | [d1, d2, d3] => { results := [.lit (.bool false)], args := [d1, d2, d3] }
  | _ => none }
def FnExactSwapCardsWrongFalsely : Prop := fnExactSwapCardsRow.holds Try.pinned (OpenSpec.ofChange fnExactSwapCardsWrong)

/-- 'laws.FnExactAddRunner': WHATEVER THE INPUT: true; the input reads as it did. -/
def fnExactAddRunnerSpec : ChangeSpec := { name := "fnExactAddRunner", fn := fun _ => fun
  | [d1, d2] => { results := [.lit (.bool true)], args := [d1, d2] }
  | _ => none }
def fnExactAddRunnerRow : OpenClaim := { program := "ytmcldakdefeepaa", sum := "a1db939c28c0800e3823bc0ebd99336c31429e985cb06a698a67fba3353e3188", func := "loop.example/g00938/laws.FnExactAddRunner", spec := "fnExactAddRunner", inPlace := ["slices.overlaps[loop.example/g00938/impl.Runner]"], unfollowed := true, recurses := true, apart := false }
def FnExactAddRunnerSaid : Prop := fnExactAddRunnerRow.holds Try.pinned (OpenSpec.ofChange fnExactAddRunnerSpec)

/-- ITS FALSE NEIGHBOUR: 'it returns false'. Refute it at one input. -/
def fnExactAddRunnerWrong : ChangeSpec := { name := "fnExactAddRunner", fn := fun _ => fun
  | [d1, d2] => { results := [.lit (.bool false)], args := [d1, d2] }
  | _ => none }
def FnExactAddRunnerWrongFalsely : Prop := fnExactAddRunnerRow.holds Try.pinned (OpenSpec.ofChange fnExactAddRunnerWrong)

/-- 'laws.FnExactBiggestClub': WHATEVER THE INPUT: true; the input reads as it did. -/
def fnExactBiggestClubSpec : ChangeSpec := { name := "fnExactBiggestClub", fn := fun _ => fun
  | [d] => { results := [.lit (.bool true)], args := [d] }
  | _ => none }
def fnExactBiggestClubRow : OpenClaim := { program := "ytmcldakdefeepaa", sum := "a1db939c28c0800e3823bc0ebd99336c31429e985cb06a698a67fba3353e3188", func := "loop.example/g00938/laws.FnExactBiggestClub", spec := "fnExactBiggestClub", unfollowed := true, recurses := true, apart := false }
def FnExactBiggestClubSaid : Prop := fnExactBiggestClubRow.holds Try.pinned (OpenSpec.ofChange fnExactBiggestClubSpec)

/-- ITS FALSE NEIGHBOUR: 'it returns false'. Refute it at one input. -/
def fnExactBiggestClubWrong : ChangeSpec := { name := "fnExactBiggestClub", fn := fun _ => fun
  | [d] => { results := [.lit (.bool false)], args := [d] }
  | _ => none }
def FnExactBiggestClubWrongFalsely : Prop := fnExactBiggestClubRow.holds Try.pinned (OpenSpec.ofChange fnExactBiggestClubWrong)

/-- 'laws.FnExactClubsOf': WHATEVER THE INPUT: true; the input reads as it did. -/
def fnExactClubsOfSpec : ChangeSpec := { name := "fnExactClubsOf", fn := fun _ => fun
  | [d] => { results := [.lit (.bool true)], args := [d] }
  | _ => none }
def fnExactClubsOfRow : OpenClaim := { program := "ytmcldakdefeepaa", sum := "a1db939c28c0800e3823bc0ebd99336c31429e985cb06a698a67fba3353e3188", func := "loop.example/g00938/laws.FnExactClubsOf", spec := "fnExactClubsOf", unfollowed := true, recurses := true, apart := false }
def FnExactClubsOfSaid : Prop := fnExactClubsOfRow.holds Try.pinned (OpenSpec.ofChange fnExactClubsOfSpec)

/-- ITS FALSE NEIGHBOUR: 'it returns false'. Refute it at one input. -/
def fnExactClubsOfWrong : ChangeSpec := { name := "fnExactClubsOf", fn := fun _ => fun
  | [d] => { results := [.lit (.bool false)], args := [d] }
  | _ => none }
def FnExactClubsOfWrongFalsely : Prop := fnExactClubsOfRow.holds Try.pinned (OpenSpec.ofChange fnExactClubsOfWrong)

/-- 'laws.FnClubs': WHATEVER THE INPUT: true; the input reads as it did. -/
def fnClubsSpec : ChangeSpec := { name := "fnClubs", fn := fun _ => fun
  | [d] => { results := [.lit (.bool true)], args := [d] }
  | _ => none }
def fnClubsRow : OpenClaim := { program := "ytmcldakdefeepaa", sum := "a1db939c28c0800e3823bc0ebd99336c31429e985cb06a698a67fba3353e3188", func := "loop.example/g00938/laws.FnClubs", spec := "fnClubs", unfollowed := true, recurses := true, apart := false }
def FnClubsSaid : Prop := fnClubsRow.holds Try.pinned (OpenSpec.ofChange fnClubsSpec)

/-- ITS FALSE NEIGHBOUR: 'it returns false'. Refute it at one input. -/
def fnClubsWrong : ChangeSpec := { name := "fnClubs", fn := fun _ => fun
  | [d] => { results := [.lit (.bool false)], args := [d] }
  | _ => none }
def FnClubsWrongFalsely : Prop := fnClubsRow.holds Try.pinned (OpenSpec.ofChange fnClubsWrong)

/- THE SECOND FORM. 'bulk': how many values and letters a reading holds, each counted each time it is reached (what is shared counts as often as it is met; a slice's spare places count too). A statement '..UptoSaid' is the law's where the arguments, and the package variables that the reading takes, are together of bulk at most 1048576: NARROWER than '..Said'. Prove '..Said' where nothing that the law and all that it calls make is longer than what came in: it says more and counts as full. Else prove '..UptoSaid'. A law counts once. -/
mutual
def uptoBulk {H : Type} : DataW H → Nat
  | .lit (.string bytes) => bytes.length + 1
  | .lit _ => 1
  | .nil => 1
  | .ptr d => uptoBulk d + 1
  | .slice elems spare => uptoBulkAll elems + uptoBulkAll spare + 1
  | .agg parts => uptoBulkAll parts + 1
  | .iface _ d => uptoBulk d + 1
  | .map entries => uptoBulkEntries entries + 1
  | .held _ => 1
def uptoBulkAll {H : Type} : List (DataW H) → Nat
  | [] => 0
  | d :: r => uptoBulk d + uptoBulkAll r
def uptoBulkEntries {H : Type} : List (Lit × DataW H) → Nat
  | [] => 0
  | x :: r => uptoBulkEntry x + uptoBulkEntries r
def uptoBulkEntry {H : Type} : Lit × DataW H → Nat
  | (.string bytes, d) => bytes.length + uptoBulk d + 1
  | (_, d) => uptoBulk d + 1
 end
def uptoSmall : (H : Type) → List (DataW H) → Bool := fun _ ds => decide (uptoBulkAll ds ≤ 1048576)
def OpenSpec.upto (s : _root_.Go.ChangeSpec) : _root_.Go.OpenSpec := { _root_.Go.OpenSpec.ofChange s with cond := some uptoSmall }

/-- 'laws.FnExactAreRunners', WHERE WHAT IT READS IS OF BULK AT MOST 1048576: true; the input reads as it did. -/
def fnExactAreRunnersUptoRow : OpenClaim := { program := "ytmcldakdefeepaa", sum := "a1db939c28c0800e3823bc0ebd99336c31429e985cb06a698a67fba3353e3188", func := "loop.example/g00938/laws.FnExactAreRunners", spec := "fnExactAreRunners", unfollowed := true, recurses := true, apart := false, narrowed := true }
def FnExactAreRunnersUptoSaid : Prop := fnExactAreRunnersUptoRow.holds Try.pinned (OpenSpec.upto fnExactAreRunnersSpec)

/-- 'laws.FnExactRunnerWithCard', WHERE WHAT IT READS IS OF BULK AT MOST 1048576: true; the input reads as it did. -/
def fnExactRunnerWithCardUptoRow : OpenClaim := { program := "ytmcldakdefeepaa", sum := "a1db939c28c0800e3823bc0ebd99336c31429e985cb06a698a67fba3353e3188", func := "loop.example/g00938/laws.FnExactRunnerWithCard", spec := "fnExactRunnerWithCard", unfollowed := true, recurses := true, apart := false, narrowed := true }
def FnExactRunnerWithCardUptoSaid : Prop := fnExactRunnerWithCardUptoRow.holds Try.pinned (OpenSpec.upto fnExactRunnerWithCardSpec)

/-- 'laws.FnExactRunnersAged', WHERE WHAT IT READS IS OF BULK AT MOST 1048576: true; the input reads as it did. -/
def fnExactRunnersAgedUptoRow : OpenClaim := { program := "ytmcldakdefeepaa", sum := "a1db939c28c0800e3823bc0ebd99336c31429e985cb06a698a67fba3353e3188", func := "loop.example/g00938/laws.FnExactRunnersAged", spec := "fnExactRunnersAged", unfollowed := true, recurses := true, apart := false, narrowed := true }
def FnExactRunnersAgedUptoSaid : Prop := fnExactRunnersAgedUptoRow.holds Try.pinned (OpenSpec.upto fnExactRunnersAgedSpec)

/-- 'laws.FnExactClubMembers', WHERE WHAT IT READS IS OF BULK AT MOST 1048576: true; the input reads as it did. -/
def fnExactClubMembersUptoRow : OpenClaim := { program := "ytmcldakdefeepaa", sum := "a1db939c28c0800e3823bc0ebd99336c31429e985cb06a698a67fba3353e3188", func := "loop.example/g00938/laws.FnExactClubMembers", spec := "fnExactClubMembers", unfollowed := true, recurses := true, apart := false, narrowed := true }
def FnExactClubMembersUptoSaid : Prop := fnExactClubMembersUptoRow.holds Try.pinned (OpenSpec.upto fnExactClubMembersSpec)

/-- 'laws.FnExactSwapCards', WHERE WHAT IT READS IS OF BULK AT MOST 1048576: true; the input reads as it did. -/
def fnExactSwapCardsUptoRow : OpenClaim := { program := "ytmcldakdefeepaa", sum := "a1db939c28c0800e3823bc0ebd99336c31429e985cb06a698a67fba3353e3188", func := "loop.example/g00938/laws.FnExactSwapCards", spec := "fnExactSwapCards", unfollowed := true, recurses := true, apart := false, narrowed := true }
def FnExactSwapCardsUptoSaid : Prop := fnExactSwapCardsUptoRow.holds Try.pinned (OpenSpec.upto fnExactSwapCardsSpec)

/-- 'laws.FnExactAddRunner', WHERE WHAT IT READS IS OF BULK AT MOST 1048576: true; the input reads as it did. -/
def fnExactAddRunnerUptoRow : OpenClaim := { program := "ytmcldakdefeepaa", sum := "a1db939c28c0800e3823bc0ebd99336c31429e985cb06a698a67fba3353e3188", func := "loop.example/g00938/laws.FnExactAddRunner", spec := "fnExactAddRunner", inPlace := ["slices.overlaps[loop.example/g00938/impl.Runner]"], unfollowed := true, recurses := true, apart := false, narrowed := true }
def FnExactAddRunnerUptoSaid : Prop := fnExactAddRunnerUptoRow.holds Try.pinned (OpenSpec.upto fnExactAddRunnerSpec)

/-- 'laws.FnExactBiggestClub', WHERE WHAT IT READS IS OF BULK AT MOST 1048576: true; the input reads as it did. -/
def fnExactBiggestClubUptoRow : OpenClaim := { program := "ytmcldakdefeepaa", sum := "a1db939c28c0800e3823bc0ebd99336c31429e985cb06a698a67fba3353e3188", func := "loop.example/g00938/laws.FnExactBiggestClub", spec := "fnExactBiggestClub", unfollowed := true, recurses := true, apart := false, narrowed := true }
def FnExactBiggestClubUptoSaid : Prop := fnExactBiggestClubUptoRow.holds Try.pinned (OpenSpec.upto fnExactBiggestClubSpec)

/-- 'laws.FnExactClubsOf', WHERE WHAT IT READS IS OF BULK AT MOST 1048576: true; the input reads as it did. -/
def fnExactClubsOfUptoRow : OpenClaim := { program := "ytmcldakdefeepaa", sum := "a1db939c28c0800e3823bc0ebd99336c31429e985cb06a698a67fba3353e3188", func := "loop.example/g00938/laws.FnExactClubsOf", spec := "fnExactClubsOf", unfollowed := true, recurses := true, apart := false, narrowed := true }
def FnExactClubsOfUptoSaid : Prop := fnExactClubsOfUptoRow.holds Try.pinned (OpenSpec.upto fnExactClubsOfSpec)

/-- 'laws.FnClubs', WHERE WHAT IT READS IS OF BULK AT MOST 1048576: true; the input reads as it did. -/
def fnClubsUptoRow : OpenClaim := { program := "ytmcldakdefeepaa", sum := "a1db939c28c0800e3823bc0ebd99336c31429e985cb06a698a67fba3353e3188", func := "loop.example/g00938/laws.FnClubs", spec := "fnClubs", unfollowed := true, recurses := true, apart := false, narrowed := true }
def FnClubsUptoSaid : Prop := fnClubsUptoRow.holds Try.pinned (OpenSpec.upto fnClubsSpec)

end Rows
end Go.Proofs.Ytmcldakdefeepaa
