/- The draws of the laws about clubs. -/
import Derived.Test.YtmcldakdefeepaaRnr
namespace Go.Proofs.Ytmcldakdefeepaa
set_option linter.unusedVariables false
set_option linter.unusedSimpArgs false
open Go.RowKit
theorem cur_new {w : World} {C : Option Addr} {n c : Nat} {l : List Int} (hR : Rd w w.heap.size 1 C n (bys l)) (hl : ∀ x ∈ l, 0 ≤ x ∧ x ≤ 255) (hn : n ≤ 65536) :
    Cur (w.alloc (.cells #[.slice C n c, .int .i64 0, .int .u64 0] 76)) w.heap.size w.heap.size 0 :=
  ⟨C, n, c, l, 0, 0, hR.below (Below.alloc (Below.refl _ _) (Nat.le_refl _) _), hl, hn, Int.le_refl _, Int.le_refl _, Nat.le_refl _, Blk.new w _ [.slice C n c, .int .i64 0, .int .u64 0]⟩
theorem below_new {w w' : World} {o : Obj} (hc : Ch (fun j => j = w.heap.size) (w.alloc o) w') : Below w.heap.size w w' :=
  Below.ch (Below.alloc (Below.refl _ _) (Nat.le_refl _) o) hc (by simp) (fun k h => by omega)
def RnsAt (w : World) (base g9 cp : Nat) (l : List Rn) : Prop := l.length ≤ cp ∧ l.length ≤ 20 ∧ (∀ r ∈ l, Rn.Ok r) ∧ w.ownsRow base 30 6 (.slice (some ⟨g9, 0, none⟩) l.length cp) l.length (rns l)
theorem RnsAt.on {w w' : World} {base g9 cp : Nat} {l : List Rn} (h : RnsAt w base g9 cp l) (hb : Below w.heap.size w w') : RnsAt w' base g9 cp l := ⟨h.1, h.2.1, h.2.2.1, own_below h.2.2.2 hb⟩
theorem RnsAt.ch {S : Nat → Prop} {w w' : World} {base g9 cp : Nat} {l : List Rn} (h : RnsAt w base g9 cp l) (hc : Ch S w w') (hS : ∀ j, S j → j < base) : RnsAt w' base g9 cp l :=
  ⟨h.1, h.2.1, h.2.2.1, own_ch h.2.2.2 hc (fun k hk h9 => by have := (h.2.2.2.lt k hk).1; have := hS k h9; omega)⟩
theorem RnsAt.le {w : World} {base base' g9 cp : Nat} {l : List Rn} (h : RnsAt w base g9 cp l) (hb : base' ≤ base) : RnsAt w base' g9 cp l := ⟨h.1, h.2.1, h.2.2.1, own_le h.2.2.2 hb⟩
theorem DrawAreRunners_any {C : Option Addr} {n c : Nat} {l : List Int} {w : World} (hR : Rd w w.heap.size 1 C n (bys l)) (hl : ∀ x ∈ l, 0 ≤ x ∧ x ≤ 255) (hn : n ≤ 65536) :
    Calls Try.prog 65 #[.slice C n c] w fun e w' => ∃ g9 cp l, e = .returned (.slice (some ⟨g9, 0, none⟩) (List.length l) cp) ∧ RnsAt w' w.heap.size g9 cp l ∧ Below w.heap.size w w' := by
  have K := cur_new (c := c) hR hl hn
  clear hR hl
  go_enter Try.func65, Try.ntmps65
  go_wp2_with fail
  refine (runners_any K (by omega)).mono ?_
  rintro e w1 ⟨g9, cp, l, rfl, h1, h2, h3, h4, _, hc⟩
  go_wp2_with fail
  go_ret
  exact ⟨g9, cp, l, rfl, ⟨h1, h2, h3, own_le h4 (by simp)⟩, below_new hc⟩
theorem DrawClubsOf_any {C : Option Addr} {n c : Nat} {l : List Int} {w : World} (hR : Rd w w.heap.size 1 C n (bys l)) (hl : ∀ x ∈ l, 0 ≤ x ∧ x ≤ 255) (hn : n ≤ 65536) :
    Calls Try.prog 43 #[.slice C n c] w fun e w' => ∃ g9 cp l, e = .returned (.slice (some ⟨g9, 0, none⟩) (List.length l) cp) ∧ RnsAt w' w.heap.size g9 cp l ∧ Below w.heap.size w w' := by
  go_enter Try.func43, Try.ntmps43
  go_wp2_with fail
  refine (DrawAreRunners_any hR hl hn).mono ?_
  rintro e w1 ⟨g9, cp, l, rfl, h1, hb⟩
  go_wp2_with fail
  go_ret
  exact ⟨g9, cp, l, rfl, h1, hb⟩
def memL : List ByteArray := [bsn [104, 105, 108, 108], bsn [102, 101, 110], bsn [111, 97, 107], bsn [110, 111, 110, 101]]
theorem memL_sz : ∀ s ∈ memL, s.size ≤ 20 := by decide
def lowL : List Int := [0, 6, 18, 36, 106, -1]
def higL : List Int := [0, 10, 60, -1, 121]
theorem lowL_bd : ∀ x ∈ lowL, -1 ≤ x ∧ x ≤ 200 := by decide
theorem higL_bd : ∀ x ∈ higL, -1 ≤ x ∧ x ≤ 200 := by decide
theorem DrawClubMembers_any {C : Option Addr} {n c : Nat} {l : List Int} {w : World} (hR : Rd w w.heap.size 1 C n (bys l)) (hl : ∀ x ∈ l, 0 ≤ x ∧ x ≤ 255) (hn : n ≤ 65536) :
    Calls Try.prog 45 #[.slice C n c] w fun e w' => ∃ g9 cp l s, e = .returned (.tuple #[.slice (some ⟨g9, 0, none⟩) (List.length l) cp, .string s]) ∧ s.size ≤ 20 ∧ RnsAt w' w.heap.size g9 cp l ∧ Below w.heap.size w w' := by
  have K := cur_new (c := c) hR hl hn
  clear hR hl
  go_enter Try.func45, Try.ntmps45
  go_wp2_with fail
  refine (runners_any K (by omega)).mono ?_
  rintro e w1 ⟨g9, cp, l, rfl, h1, h2, h3, h4, K1, hc⟩
  have HA : RnsAt w1 (w.heap.size + 1) g9 cp l := ⟨h1, h2, h3, own_le h4 (by simp)⟩
  have HB := below_new hc
  have hg1 := K1.lt.1
  clear K hc h4
  generalize hll : l.length = ll at *
  have HLL := Lib.hid hll
  clear hll
  go_wp2_with fail
  refine (of_any (xs := memL) (n := 4) (K1.alloc _) (by omega) (Blk.new w1 _ _) (by omega) rfl (by omega) (by omega)).mono ?_
  rintro e w2 ⟨s, hs, rfl, K2, hc2⟩
  have HA2 := ((HA.on (Below.alloc (Below.refl _ _) (Nat.le_refl _) _)).ch hc2 (fun j h => by omega)).le (Nat.le_succ w.heap.size)
  have HB2 := Below.ch (HB.alloc HB.size _) hc2 (by have := HB.size; simp; omega) (fun k h => by omega)
  have hsz := memL_sz s hs
  clear HA HB K1 hc2 hs
  go_wp2_with fail
  go_ret2
  exact ⟨g9, cp, l, s, by rw [HLL.out]; rfl, hsz, HA2, HB2⟩
theorem DrawRunnersAged_any {C : Option Addr} {n c : Nat} {l : List Int} {w : World} (hR : Rd w w.heap.size 1 C n (bys l)) (hl : ∀ x ∈ l, 0 ≤ x ∧ x ≤ 255) (hn : n ≤ 65536) :
    Calls Try.prog 47 #[.slice C n c] w fun e w' => ∃ g9 cp l a b, e = .returned (.tuple #[.slice (some ⟨g9, 0, none⟩) (List.length l) cp, .int .i64 a, .int .i64 b]) ∧ (-2 ≤ a ∧ a ≤ 400) ∧ (-2 ≤ b ∧ b ≤ 400) ∧ RnsAt w' w.heap.size g9 cp l ∧ Below w.heap.size w w' := by
  have K := cur_new (c := c) hR hl hn
  clear hR hl
  go_enter Try.func47, Try.ntmps47
  go_wp2_with fail
  refine (runners_any K (by omega)).mono ?_
  rintro e w1 ⟨g9, cp, l, rfl, h1, h2, h3, h4, K1, hc⟩
  have HA : RnsAt w1 (w.heap.size + 1) g9 cp l := ⟨h1, h2, h3, own_le h4 (by simp)⟩
  have HB := below_new hc
  have hg1 := K1.lt.1
  clear K hc h4
  generalize hll : l.length = ll at *
  have HLL := Lib.hid hll
  clear hll
  go_wp2_with fail
  refine (among_any (xs := lowL) (n := 6) (K1.alloc _) (by omega) (Blk.new w1 _ _) (by omega) rfl (by omega) (by omega)).mono ?_
  rintro e w2 ⟨a, ha, rfl, K2, hc2⟩
  have HA2 := (HA.on (Below.alloc (Below.refl _ _) (Nat.le_refl _) _)).ch hc2 (fun j h => by omega)
  have HB2 := Below.ch (HB.alloc HB.size _) hc2 (by have := HB.size; simp; omega) (fun k h => by omega)
  have ha9 := lowL_bd a ha
  have hg2 := K2.lt.1
  clear HA HB K1 hc2 ha
  go_wp2_with fail
  refine (among_any (xs := higL) (n := 5) (K2.alloc _) (by omega) (Blk.new w2 _ _) (by omega) rfl (by omega) (by omega)).mono ?_
  rintro e w3 ⟨b, hb, rfl, K3, hc3⟩
  have HA3 := ((HA2.on (Below.alloc (Below.refl _ _) (Nat.le_refl _) _)).ch hc3 (fun j h => by omega)).le (Nat.le_succ w.heap.size)
  have HB3 := Below.ch (HB2.alloc HB2.size _) hc3 (by have := HB2.size; simp; omega) (fun k h => by omega)
  have hb9 := higL_bd b hb
  have hp : IntKind.i64.wrap (a + b) = a + b := IntWalk.i64_in _ (by omega)
  clear HA2 HB2 K2 hc3 hb
  go_wp2_with fail
  go_ret3
  exact ⟨g9, cp, l, a, a + b, by rw [HLL.out]; rfl, by omega, by omega, HA3, HB3⟩
end Go.Proofs.Ytmcldakdefeepaa
