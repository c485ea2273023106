/-
  NARROWER THAN 'FOR EVERY INPUT', by the rows' own cells (each row's printed sentence says how): FnExactFamilyOf: laid.
  DERIVED. THE GIVEN ROWS OF THIS SEAT. 1 by the template 'for every input the law returns true; each argument reads behind the call as it read before'; 0 by the template 'total and deterministic' (their statements: YtacgcmegjomjjaaDoorTotals.lean).
  GIVEN WITH THE SEED: the statements are not yours to turn. If you find one false, say at which input.
  Laid BY PROGRAM, IN A SANDBOX (cutbox-rows.mjs): the forced cells as the released guide's own fill.sh prints them over the translation d056a2cbddf16a05… (all of the seat's roots in one cut). By AI agents, Wed Nov 11 2026. No macro, syntax, notation, axiom, sorry.
-/
import Derived.Test.YtacgcmegjomjjaaDoorChecked
import GoSem.Claim
import GoSem.ClaimJoined
import GoSem.ClaimMapViews
import Derived.JoinedTies
import Derived.KernelRfl
namespace Go.Proofs.YtacgcmegjomjjaaDoor
/- THE CELL 'sum', in the pinned program and in every row, IS THE sha256 OF THE DUMP (.gsa) THAT YtacgcmegjomjjaaDoorProg.lean LOADS. Nothing in Lean hashes anything: it is a label: what it is worth is what the hold of that sum in a sandbox is worth. -/
noncomputable def Tryd.pinned : Pinned := { name := "ytacgcmegjomjjaadoor", sum := "d056a2cbddf16a05c7cb13846e33409062faeef338d96be1d0a6aa92d52b2e96", checked := Tryd.checked }
namespace Rows
def none {H : Type} : Left H := { results := [], args := [] }

/- WHAT THE LISTED PACKAGE-LEVEL VARIABLES READ AS WHEN THE CALL BEGINS. Each datum BY PROGRAM (the guide's laid-datum.mjs) off the statement by which the dump's own 'gosem.cut.vars' lays the variable. In a bare row this is a premise. The card (YtacgcmegjomjjaaDoorCards.lean) ties it to the program's text. -/
def laid_loop_example_g00938_impl_families {H : Type} : DataW H := .agg [.lit (.string [114, 105, 115, 101]), .lit (.string [104, 111, 108, 101]), .lit (.string [114, 111, 99, 107]), .lit (.string [119, 97, 116, 101, 114]), .lit (.string [108, 105, 110, 101])]

/-- 'laws.FnExactFamilyOf': WHATEVER THE INPUT: true; the input reads as it did. -/
def fnExactFamilyOfSpec : ChangeSpec := { name := "fnExactFamilyOf", vars := ["loop.example/g00938/impl.families"], fn := fun _ => fun
  | [d, g1] => { results := [.lit (.bool true)], args := [d], vars := [g1] }
  | _ => none }
def fnExactFamilyOfRow : OpenClaim := { program := "ytacgcmegjomjjaadoor", sum := "d056a2cbddf16a05c7cb13846e33409062faeef338d96be1d0a6aa92d52b2e96", func := "loop.example/g00938/laws.FnExactFamilyOf", spec := "fnExactFamilyOf", named := ["loop.example/g00938/impl.families"], apart := false, laid := [("loop.example/g00938/impl.families", laid_loop_example_g00938_impl_families)] }
def FnExactFamilyOfSaid : Prop := fnExactFamilyOfRow.holds Tryd.pinned (OpenSpec.ofChange fnExactFamilyOfSpec)

/-- ITS FALSE NEIGHBOUR: 'it returns false'. Refute it at one input. -/
def fnExactFamilyOfWrong : ChangeSpec := { name := "fnExactFamilyOf", vars := ["loop.example/g00938/impl.families"], fn := fun _ => fun
  | [d, g1] => { results := [.lit (.bool false)], args := [d], vars := [g1] }
  | _ => none }
def FnExactFamilyOfWrongFalsely : Prop := fnExactFamilyOfRow.holds Tryd.pinned (OpenSpec.ofChange fnExactFamilyOfWrong)

/- THE SECOND FORM. 'bulk': how many values and letters a reading holds, each counted each time it is reached (what is shared counts as often as it is met; a slice's spare places count too). A statement '..UptoSaid' is the law's where the arguments, and the package variables that the reading takes, are together of bulk at most 1048576: NARROWER than '..Said'. Prove '..Said' where nothing that the law and all that it calls make is longer than what came in: it says more and counts as full. Else prove '..UptoSaid'. A law counts once. -/
mutual
def uptoBulk {H : Type} : DataW H → Nat
  | .lit (.string bytes) => bytes.length + 1
  | .lit _ => 1
  | .nil => 1
  | .ptr d => uptoBulk d + 1
  | .slice elems spare => uptoBulkAll elems + uptoBulkAll spare + 1
  | .agg parts => uptoBulkAll parts + 1
  | .iface _ d => uptoBulk d + 1
  | .map entries => uptoBulkEntries entries + 1
  | .held _ => 1
def uptoBulkAll {H : Type} : List (DataW H) → Nat
  | [] => 0
  | d :: r => uptoBulk d + uptoBulkAll r
def uptoBulkEntries {H : Type} : List (Lit × DataW H) → Nat
  | [] => 0
  | x :: r => uptoBulkEntry x + uptoBulkEntries r
def uptoBulkEntry {H : Type} : Lit × DataW H → Nat
  | (.string bytes, d) => bytes.length + uptoBulk d + 1
  | (_, d) => uptoBulk d + 1
 end
def uptoSmall : (H : Type) → List (DataW H) → Bool := fun _ ds => decide (uptoBulkAll ds ≤ 1048576)
def OpenSpec.upto (s : _root_.Go.ChangeSpec) : _root_.Go.OpenSpec := { _root_.Go.OpenSpec.ofChange s with cond := some uptoSmall }

/-- 'laws.FnExactFamilyOf', WHERE WHAT IT READS IS OF BULK AT MOST 1048576: true; the input reads as it did. -/
def fnExactFamilyOfUptoRow : OpenClaim := { program := "ytacgcmegjomjjaadoor", sum := "d056a2cbddf16a05c7cb13846e33409062faeef338d96be1d0a6aa92d52b2e96", func := "loop.example/g00938/laws.FnExactFamilyOf", spec := "fnExactFamilyOf", named := ["loop.example/g00938/impl.families"], apart := false, laid := [("loop.example/g00938/impl.families", laid_loop_example_g00938_impl_families)], narrowed := true }
def FnExactFamilyOfUptoSaid : Prop := fnExactFamilyOfUptoRow.holds Tryd.pinned (OpenSpec.upto fnExactFamilyOfSpec)

end Rows
end Go.Proofs.YtacgcmegjomjjaaDoor
