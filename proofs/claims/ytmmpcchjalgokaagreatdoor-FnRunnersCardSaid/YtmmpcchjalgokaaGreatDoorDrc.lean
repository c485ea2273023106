/- The draws of the laws about clubs. -/
import Derived.Test.YtmmpcchjalgokaaGreatDoorRnr
namespace Go.Proofs.YtmmpcchjalgokaaGreatDoor
set_option linter.unusedVariables false
set_option linter.unusedSimpArgs false
open Go.RowKit
theorem cur_new {w : World} {C : Option Addr} {n c : Nat} {l : List Int} (hR : Rd w w.heap.size 1 C n (bys l)) (hl : ∀ x ∈ l, 0 ≤ x ∧ x ≤ 255) (hn : n ≤ 65536) :
    Cur (w.alloc (.cells #[.slice C n c, .int .i64 0, .int .u64 0] 76)) w.heap.size w.heap.size 0 :=
  ⟨C, n, c, l, 0, 0, hR.below (Below.alloc (Below.refl _ _) (Nat.le_refl _) _), hl, hn, Int.le_refl _, Int.le_refl _, Nat.le_refl _, Blk.new w _ [.slice C n c, .int .i64 0, .int .u64 0]⟩
theorem below_new {w w' : World} {o : Obj} (hc : Ch (fun j => j = w.heap.size) (w.alloc o) w') : Below w.heap.size w w' :=
  Below.ch (Below.alloc (Below.refl _ _) (Nat.le_refl _) o) hc (by simp) (fun k h => by omega)
def RnsAt (w : World) (base g9 cp : Nat) (l : List Rn) : Prop := l.length ≤ cp ∧ l.length ≤ 20 ∧ (∀ r ∈ l, Rn.Ok r) ∧ w.ownsRow base 41 6 (.slice (some ⟨g9, 0, none⟩) l.length cp) l.length (rns l)
theorem RnsAt.on {w w' : World} {base g9 cp : Nat} {l : List Rn} (h : RnsAt w base g9 cp l) (hb : Below w.heap.size w w') : RnsAt w' base g9 cp l := ⟨h.1, h.2.1, h.2.2.1, own_below h.2.2.2 hb⟩
theorem RnsAt.ch {S : Nat → Prop} {w w' : World} {base g9 cp : Nat} {l : List Rn} (h : RnsAt w base g9 cp l) (hc : Ch S w w') (hS : ∀ j, S j → j < base) : RnsAt w' base g9 cp l :=
  ⟨h.1, h.2.1, h.2.2.1, own_ch h.2.2.2 hc (fun k hk h9 => by have := (h.2.2.2.lt k hk).1; have := hS k h9; omega)⟩
theorem RnsAt.le {w : World} {base base' g9 cp : Nat} {l : List Rn} (h : RnsAt w base g9 cp l) (hb : base' ≤ base) : RnsAt w base' g9 cp l := ⟨h.1, h.2.1, h.2.2.1, own_le h.2.2.2 hb⟩
def memL : List ByteArray := [bsn [104, 105, 108, 108], bsn [102, 101, 110], bsn [111, 97, 107], bsn [110, 111, 110, 101]]
theorem memL_sz : ∀ s ∈ memL, s.size ≤ 20 := by decide
def lowL : List Int := [0, 6, 18, 36, 106, -1]
def higL : List Int := [0, 10, 60, -1, 121]
theorem lowL_bd : ∀ x ∈ lowL, -1 ≤ x ∧ x ≤ 200 := by decide
theorem higL_bd : ∀ x ∈ higL, -1 ≤ x ∧ x ≤ 200 := by decide
end Go.Proofs.YtmmpcchjalgokaaGreatDoor
