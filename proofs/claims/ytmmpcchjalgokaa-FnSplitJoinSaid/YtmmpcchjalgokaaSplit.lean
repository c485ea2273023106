/- Contracts: a string split at a byte; slices of strings. -/
import Derived.Test.YtmmpcchjalgokaaCh
import Derived.Test.YtmmpcchjalgokaaStrs
namespace Go.Proofs.Ytmmpcchjalgokaa
set_option linter.unusedVariables false
set_option linter.unusedSimpArgs false
open Go.RowKit
/-- Behind k bytes: the parts that are whole, and where the next begins. -/
def cutAt (s : ByteArray) (b : UInt8) : Nat → List ByteArray × Nat
  | 0 => ([], 0)
  | k + 1 => if s.data.toList[k]? = some b then ((cutAt s b k).1 ++ [s.extract (cutAt s b k).2 k], k + 1) else cutAt s b k
def cuts (s : ByteArray) (b : UInt8) : List ByteArray := (cutAt s b s.size).1 ++ [s.extract (cutAt s b s.size).2 s.size]
theorem cutAt_le (s : ByteArray) (b : UInt8) : ∀ k, (cutAt s b k).2 ≤ k ∧ (cutAt s b k).1.length ≤ k
  | 0 => ⟨Nat.le_refl _, Nat.le_refl _⟩
  | k + 1 => by
    have := cutAt_le s b k
    rw [cutAt]; split
    · simp; omega
    · omega
theorem cuts_len (s : ByteArray) (b : UInt8) : (cuts s b).length ≤ s.size + 1 ∧ 1 ≤ (cuts s b).length := by
  have := cutAt_le s b s.size
  simp [cuts]; omega
theorem byte_at (s : ByteArray) (k : Nat) (h : k < s.size) : s.data.toList[k]? = some s[k] := by
  rw [List.getElem?_eq_getElem (by simpa using h)]; rfl
end Go.Proofs.Ytmmpcchjalgokaa
