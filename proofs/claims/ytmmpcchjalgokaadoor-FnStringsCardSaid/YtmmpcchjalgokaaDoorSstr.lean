/- Contracts of the helpers over slices of strings: sizes, a copy, equality. -/
import Derived.Test.YtmmpcchjalgokaaDoorStrs
import Derived.Test.YtmmpcchjalgokaaDoorCh
import Derived.Test.YtmmpcchjalgokaaDoorRg
namespace Go.Proofs.YtmmpcchjalgokaaDoor
set_option linter.unusedVariables false
set_option linter.unusedSimpArgs false
open Go.RowKit
def ssz (l : List ByteArray) : Nat := (l.map ByteArray.size).sum
theorem ssz_take {l : List ByteArray} {k : Nat} (hk : k < l.length) : ssz (l.take (k + 1)) = ssz (l.take k) + l[k].size := by
  unfold ssz
  rw [List.take_succ_eq_append_getElem hk, List.map_append, List.sum_append]
  simp
theorem ssz_le (l : List ByteArray) (k : Nat) : ssz (l.take k) ≤ ssz l := by
  have : ssz l = ssz (l.take k) + ssz (l.drop k) := by
    unfold ssz
    rw [← List.sum_append, ← List.map_append, List.take_append_drop]
  omega
def szT (n t : Nat) : Int := if 1048576 < n + t then -1 else 1048576 - (n : Int) - (t : Int)
end Go.Proofs.YtmmpcchjalgokaaDoor
