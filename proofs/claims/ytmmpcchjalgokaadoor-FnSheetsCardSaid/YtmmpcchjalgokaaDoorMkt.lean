/- Contracts: the marks that a law lays into a slice of strings, and the comparison of two slices of strings. -/
import Derived.Test.YtmmpcchjalgokaaDoorCh
import Derived.Test.YtmmpcchjalgokaaDoorStrs
import Derived.Deep.RegionWith
namespace Go.Proofs.YtmmpcchjalgokaaDoor
set_option linter.unusedVariables false
set_option linter.unusedSimpArgs false
open Go.RowKit
def dg (n : Nat) : UInt8 := UInt8.ofNat (48 + n % 10)
theorem dg_nat (n : Nat) : (dg n).toNat = 48 + n % 10 := by
  unfold dg
  rw [UInt8.toNat_ofNat']
  exact Nat.mod_eq_of_lt (by omega)
def mtL : Nat → Nat → List UInt8 → List UInt8
  | 0, _, acc => acc
  | f + 1, k, acc => if k = 0 then acc else mtL f (k / 10) (dg k :: acc)
def mt (k : Nat) : ByteArray := ⟨(109 :: mtL k k []).toArray⟩
theorem grownBy_trans {a b c : World} {row : Option Nat} (h : a.grownBy b row) (k : b.grownBy c row) : a.grownBy c row :=
  ⟨k.os.trans h.os, k.tape.trans h.tape, k.output.trans h.output, Nat.le_trans h.size k.size, fun i hi hr => (k.block i (Nat.lt_of_lt_of_le hi h.size) hr).trans (h.block i hi hr)⟩
theorem own_ix {w : World} {base : Nat} {e : TypeId} {size : Nat} {A : Option Addr} {n c : Nat} {xs : List Value} (h : w.ownsRow base e size (.slice A n c) n xs) (hn : 0 < n) : ∃ g, A = some ⟨g, 0, none⟩ ∧ base ≤ g ∧ g < w.heap.size := by
  obtain ⟨g, cap, hv, hb, hlt⟩ := h.form hn
  injection hv with h1
  exact ⟨g, h1, hb, hlt⟩
def marksS (k n : Nat) : List ByteArray := (List.range n).map fun (i : Nat) => mt (k + i)
theorem marksS_len (k n : Nat) : (marksS k n).length = n := by simp [marksS]
theorem marksS_get {k n j : Nat} (h : j < n) : (strs (marksS k n))[j]? = some (.string (mt (k + j))) := by simp [strs, marksS, h]
end Go.Proofs.YtmmpcchjalgokaaDoor
