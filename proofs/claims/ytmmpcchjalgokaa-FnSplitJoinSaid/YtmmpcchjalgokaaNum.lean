/- Decimal numerals: strconv.Itoa and the reference's l1Num. -/
import Derived.Test.YtmmpcchjalgokaaCh
import Derived.Test.YtmmpcchjalgokaaRg
import Derived.Test.YtmmpcchjalgokaaRg2
import Derived.Test.YtmmpcchjalgokaaShelf
import Derived.Lib.ItoaNum
import Derived.Lib.ItoaLen
import Derived.Lib.SmallJoins
import Derived.Lib.AppendIntMem
namespace Go.Proofs.Ytmmpcchjalgokaa
set_option linter.unusedVariables false
set_option linter.unusedSimpArgs false
open Go.RowKit
/-- The numeral of a number. -/
def itoaB (n : Int) : ByteArray := ⟨(Lib.itoa n).toArray⟩
/-- strconv's table lies as its initialiser lays it. -/
def Tab (w : World) : Prop := Lib.TabIs Try.prog w "internal/strconv.uint64pow10" .u64 Lib.pow10Tab
theorem Tab.on {w w' : World} (h : Tab w) (hb : Below w.heap.size w w') : Tab w' := (Lib.tabBelow_of_tabIs h) w' hb
theorem itoaB_size {n : Int} (h0 : -9223372036854775808 ≤ n) (h1 : n ≤ 9223372036854775807) : (itoaB n).size ≤ 21 := by
  have := Lib.itoa_length_le n h0 h1
  simpa [itoaB, ByteArray.size] using this
def digB (d : Nat) : ByteArray := ⟨#[UInt8.ofNat (48 + d)]⟩
theorem itoaB_small {u : Nat} (h : u < 10) : itoaB (u : Int) = digB u := by
  unfold itoaB digB
  rw [Lib.itoa_nonneg, Lib.decDigits, dif_pos h]
theorem itoaB_big {u : Nat} (h : ¬ u < 10) : itoaB (u : Int) = itoaB ((u / 10 : Nat) : Int) ++ digB (u % 10) := by
  unfold itoaB digB
  rw [Lib.itoa_nonneg, Lib.itoa_nonneg, Lib.decDigits, dif_neg h]
  simp [ByteArray.append_eq, ByteArray.ext_iff]
theorem itoaB_neg {u : Nat} (h : 1 ≤ u) : itoaB (-(u : Int)) = ⟨#[45]⟩ ++ itoaB (u : Int) := by
  unfold itoaB
  rw [Lib.itoa_nonneg, Lib.itoa_neg u h]
  simp [ByteArray.append_eq, ByteArray.ext_iff]
end Go.Proofs.Ytmmpcchjalgokaa
