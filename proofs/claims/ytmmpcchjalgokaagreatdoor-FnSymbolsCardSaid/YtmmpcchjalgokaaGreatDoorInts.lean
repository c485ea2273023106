/- Contracts of the helpers over slices of ints. -/
import Derived.Test.YtmmpcchjalgokaaGreatDoorBase
namespace Go.Proofs.YtmmpcchjalgokaaGreatDoor
set_option linter.unusedVariables false
set_option linter.unusedSimpArgs false
open Go.RowKit
theorem int_info : (Tryz.prog.info? 3).map (fun i => (i.zero, i.size, i.bytes)) = some (some (.int .i64 0), 1, 8) := by kernel_rfl
theorem own_at {w : World} {base : Nat} {e : TypeId} {size : Nat} {A : Option Addr} {n c : Nat} {xs : List Value} (h : w.ownsRow base e size (.slice A n c) n xs) (hn : 0 < n) : ∃ g, A = some ⟨g, 0, none⟩ ∧ base ≤ g ∧ g < w.heap.size := by
  obtain ⟨g, cap, hv, hb, hlt⟩ := h.form hn
  injection hv with h1
  exact ⟨g, h1, hb, hlt⟩
theorem grown_trans {a b c : World} {row : Option Nat} (h : a.grownBy b row) (k : b.grownBy c row) : a.grownBy c row :=
  ⟨k.os.trans h.os, k.tape.trans h.tape, k.output.trans h.output, Nat.le_trans h.size k.size, fun i hi hr => (k.block i (Nat.lt_of_lt_of_le hi h.size) hr).trans (h.block i hi hr)⟩
def marksI (k : Int) (n : Nat) : List Value := (List.range n).map fun (i : Nat) => .int .i64 (k + i)
theorem marksI_get {k : Int} {n j : Nat} (h : j < n) : (marksI k n)[j]? = some (.int .i64 (k + j)) := by simp [marksI, h]
theorem marksI_len (k : Int) (n : Nat) : (marksI k n).length = n := by simp [marksI]
end Go.Proofs.YtmmpcchjalgokaaGreatDoor
