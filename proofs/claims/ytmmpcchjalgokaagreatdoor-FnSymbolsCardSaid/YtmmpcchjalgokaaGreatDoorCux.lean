/- Small laws about the cursor over bytes. -/
import Derived.Test.YtmmpcchjalgokaaGreatDoorCur
namespace Go.Proofs.YtmmpcchjalgokaaGreatDoor
set_option linter.unusedVariables false
set_option linter.unusedSimpArgs false
open Go.RowKit
def bsn (l : List UInt8) : ByteArray := ⟨l.toArray⟩
theorem two_new1 (w : World) (o : Obj) (t : TypeId) (cs : List Value) : Blk ((w.alloc o).alloc (.cells cs.toArray t)) (w.heap.size + 1) t cs := by
  have := Blk.new (w.alloc o) t cs
  rwa [World.size_alloc] at this
theorem ch_alloc {S : Nat → Prop} {w w' : World} (h : Ch S w w') (o : Obj) : Ch S w (w'.alloc o) := h.trans (Ch.of_below (Below.alloc (Below.refl _ _) (Nat.le_refl _) o))
theorem ch_new {S : Nat → Prop} {w w' w'' : World} {j : Nat} (h : Ch S w w') (c : Ch (fun k => k = j) w' w'') (hj : w.heap.size ≤ j) : Ch S w w'' :=
  ⟨c.os.trans h.os, c.tape.trans h.tape, c.output.trans h.output, Nat.le_trans h.size c.size, fun i hi hs => (c.block i (Nat.lt_of_lt_of_le hi h.size) (by show ¬ i = j; omega)).trans (h.block i hi hs)⟩
theorem cur_new {w : World} {C : Option Addr} {n c : Nat} {l : List Int} (hR : Rd w w.heap.size 1 C n (bys l)) (hl : ∀ x ∈ l, 0 ≤ x ∧ x ≤ 255) (hn : n ≤ 65536) :
    Cur (w.alloc (.cells #[.slice C n c, .int .i64 0, .int .u64 0] 76)) w.heap.size w.heap.size 0 :=
  ⟨C, n, c, l, 0, 0, hR.below (Below.alloc (Below.refl _ _) (Nat.le_refl _) _), hl, hn, Int.le_refl _, Int.le_refl _, Nat.le_refl _, Blk.new w _ [.slice C n c, .int .i64 0, .int .u64 0]⟩
theorem below_new {w w' : World} {o : Obj} (hc : Ch (fun j => j = w.heap.size) (w.alloc o) w') : Below w.heap.size w w' :=
  Below.ch (Below.alloc (Below.refl _ _) (Nat.le_refl _) o) hc (by simp) (fun k h => by omega)
theorem three_new (w : World) (o p : Obj) (t : TypeId) (cs : List Value) : Blk (((w.alloc o).alloc p).alloc (.cells cs.toArray t)) (w.heap.size + 1 + 1) t cs := by
  have := Blk.new ((w.alloc o).alloc p) t cs
  rwa [World.size_alloc, World.size_alloc] at this
theorem among_part {b g gl n m : Nat} {k : Int} {xs : List Int} {w : World} (K : Cur w b g k) (hk : k ≤ 900000) (L : Blk w gl 3 (ints xs)) (hg : gl ≠ g) (hn : n ≤ xs.length) (hn0 : 0 < n) (hn1 : n ≤ 60000) :
    Calls Tryz.prog 60 #[.pointer (some ⟨g, 0, none⟩), .slice (some ⟨gl, 0, none⟩) n m] w fun e w' => ∃ s ∈ xs, e = .returned (.int .i64 s) ∧ Cur w' b g (k + 2) ∧ Ch (fun j => j = g) w w' := by
  go_enter Tryz.func60, Tryz.ntmps60
  go_wp2_with fail
  refine (pick_any K hk (by omega) (by omega)).mono ?_
  rintro e w1 ⟨x, rfl, hx0, hx1, K1, hc1⟩
  have hxn : x < n := by omega
  have L1 := L.ch hc1 hg
  have kx : x.toNat < xs.length := by omega
  have cz : w1.cell? ⟨gl, x.toNat, none⟩ = some (.int .i64 xs[x.toNat]) := by rw [L1.cell, ints_get kx]
  have hm := List.getElem_mem kx
  generalize xs[x.toNat] = s at *
  go_wp2_with fail
  go_ret
  exact ⟨s, hm, rfl, K1, hc1⟩
end Go.Proofs.YtmmpcchjalgokaaGreatDoor
