/- Small laws about the cursor over bytes. -/
import Derived.Test.YtmmpcchjalgokaaCur
namespace Go.Proofs.Ytmmpcchjalgokaa
set_option linter.unusedVariables false
set_option linter.unusedSimpArgs false
open Go.RowKit
def bsn (l : List UInt8) : ByteArray := ⟨l.toArray⟩
theorem two_new1 (w : World) (o : Obj) (t : TypeId) (cs : List Value) : Blk ((w.alloc o).alloc (.cells cs.toArray t)) (w.heap.size + 1) t cs := by
  have := Blk.new (w.alloc o) t cs
  rwa [World.size_alloc] at this
theorem ch_alloc {S : Nat → Prop} {w w' : World} (h : Ch S w w') (o : Obj) : Ch S w (w'.alloc o) := h.trans (Ch.of_below (Below.alloc (Below.refl _ _) (Nat.le_refl _) o))
theorem ch_new {S : Nat → Prop} {w w' w'' : World} {j : Nat} (h : Ch S w w') (c : Ch (fun k => k = j) w' w'') (hj : w.heap.size ≤ j) : Ch S w w'' :=
  ⟨c.os.trans h.os, c.tape.trans h.tape, c.output.trans h.output, Nat.le_trans h.size c.size, fun i hi hs => (c.block i (Nat.lt_of_lt_of_le hi h.size) (by show ¬ i = j; omega)).trans (h.block i hi hs)⟩
theorem cur_new {w : World} {C : Option Addr} {n c : Nat} {l : List Int} (hR : Rd w w.heap.size 1 C n (bys l)) (hl : ∀ x ∈ l, 0 ≤ x ∧ x ≤ 255) (hn : n ≤ 65536) :
    Cur (w.alloc (.cells #[.slice C n c, .int .i64 0, .int .u64 0] 51)) w.heap.size w.heap.size 0 :=
  ⟨C, n, c, l, 0, 0, hR.below (Below.alloc (Below.refl _ _) (Nat.le_refl _) _), hl, hn, Int.le_refl _, Int.le_refl _, Nat.le_refl _, Blk.new w _ [.slice C n c, .int .i64 0, .int .u64 0]⟩
theorem below_new {w w' : World} {o : Obj} (hc : Ch (fun j => j = w.heap.size) (w.alloc o) w') : Below w.heap.size w w' :=
  Below.ch (Below.alloc (Below.refl _ _) (Nat.le_refl _) o) hc (by simp) (fun k h => by omega)
theorem three_new (w : World) (o p : Obj) (t : TypeId) (cs : List Value) : Blk (((w.alloc o).alloc p).alloc (.cells cs.toArray t)) (w.heap.size + 1 + 1) t cs := by
  have := Blk.new ((w.alloc o).alloc p) t cs
  rwa [World.size_alloc, World.size_alloc] at this
end Go.Proofs.Ytmmpcchjalgokaa
