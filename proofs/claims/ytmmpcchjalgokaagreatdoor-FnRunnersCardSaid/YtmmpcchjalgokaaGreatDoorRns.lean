/- Slices of runners: where their cells lie; contracts of the law's helpers over them. -/
import Derived.Test.YtmmpcchjalgokaaGreatDoorOpenRunner
import Derived.Test.YtmmpcchjalgokaaGreatDoorRunner
import Derived.Test.YtmmpcchjalgokaaGreatDoorCh
import Derived.Test.YtmmpcchjalgokaaGreatDoorRg
namespace Go.Proofs.YtmmpcchjalgokaaGreatDoor
set_option linter.unusedVariables false
set_option linter.unusedSimpArgs false
open Go.RowKit
def rns (l : List Rn) : List Value := l.flatMap Rn.cells
theorem rns_len (l : List Rn) : (rns l).length = l.length * 6 := flatMap_len (s := 6) (fun _ => rfl) l
theorem rns_get {l : List Rn} {j i : Nat} (hj : j < l.length) (hi : i < 6) : (rns l)[j * 6 + i]? = (Rn.cells l[j])[i]? := flatMap_get (s := 6) (fun _ => rfl) l j i hj hi
theorem Rd.rlen {w : World} {B n : Nat} {A : Option Addr} {l : List Rn} (h : Rd w B 6 A n (rns l)) : l.length = n := by
  have h1 := h.1
  rw [rns_len] at h1
  omega
/-- The runner r lies at offset o of block b. -/
structure RnAt (w : World) (b o : Nat) (r : Rn) : Prop where
  c0 : w.cell? ⟨b, o, none⟩ = some (.int .i64 r.id)
  c1 : w.cell? ⟨b, o + 1, none⟩ = some (.string r.name)
  c2 : w.cell? ⟨b, o + 2, none⟩ = some (.string r.club)
  c3 : w.cell? ⟨b, o + 3, none⟩ = some (.int .i64 r.born)
  c4 : w.cell? ⟨b, o + 4, none⟩ = some (.bool r.woman)
  c5 : w.cell? ⟨b, o + 5, none⟩ = some (.int .i64 r.card)
theorem RnAt.below {w w' : World} {b o B : Nat} {r : Rn} (h : RnAt w b o r) (hb : Below B w w') (hlt : b < B) : RnAt w' b o r :=
  ⟨(hb.cell hlt).trans h.c0, (hb.cell hlt).trans h.c1, (hb.cell hlt).trans h.c2, (hb.cell hlt).trans h.c3, (hb.cell hlt).trans h.c4, (hb.cell hlt).trans h.c5⟩
theorem RnAt.blk {w : World} {g : Nat} {t : TypeId} {r : Rn} (h : Blk w g t r.cells) : RnAt w g 0 r := ⟨h.cell 0, h.cell 1, h.cell 2, h.cell 3, h.cell 4, h.cell 5⟩
theorem Rd.rn {w : World} {B n : Nat} {A : Option Addr} {l : List Rn} (h : Rd w B 6 A n (rns l)) (hn : 0 < n) :
    ∃ b off, A = some ⟨b, off, none⟩ ∧ b < B ∧ ∀ (j : Nat) (hj : j < l.length), RnAt w b (off + j * 6) l[j] := by
  obtain ⟨b, off, e, hb, hc⟩ := h.2 hn
  refine ⟨b, off, e, hb, fun j hj => ?_⟩
  have q : ∀ i, i < 6 → ∀ u, (Rn.cells l[j])[i]? = some u → w.cell? ⟨b, off + j * 6 + i, none⟩ = some u := fun i hi u hu => by
    rw [Nat.add_assoc]; exact hc _ _ ((rns_get hj hi).trans hu)
  exact ⟨q 0 (by omega) _ rfl, q 1 (by omega) _ rfl, q 2 (by omega) _ rfl, q 3 (by omega) _ rfl, q 4 (by omega) _ rfl, q 5 (by omega) _ rfl⟩
theorem Rd.taker {w : World} {B q j : Nat} {A : Option Addr} {l : List Rn} (h : Rd w B 6 A q (rns l)) (hj : j ≤ q) : Rd w B 6 A j (rns (l.take j)) := by
  have hl := h.rlen
  refine ⟨by rw [rns_len, List.length_take, Nat.min_eq_left (by omega)], fun h0 => ?_⟩
  obtain ⟨b, off, e, hb, hc⟩ := h.2 (by omega)
  refine ⟨b, off, e, hb, fun k u hu => hc k u ?_⟩
  have : rns l = rns (l.take j) ++ rns (l.drop j) := by unfold rns; rw [← List.flatMap_append, List.take_append_drop]
  rw [this, List.getElem?_append_left (List.getElem?_eq_some_iff.1 hu).1]
  exact hu
/-- One runner laid into its place. -/
def put6 (cs : List Value) (o : Nat) (r : Rn) : List Value := (((((cs.set o (.int .i64 r.id)).set (o + 1) (.string r.name)).set (o + 2) (.string r.club)).set (o + 3) (.int .i64 r.born)).set (o + 4) (.bool r.woman)).set (o + 5) (.int .i64 r.card)
theorem set_take' {α : Type} {l r : List α} {k : Nat} {x : α} (h : l.length = r.length) (hx : r[k]? = some x) (e : l.take k = r.take k) : (l.set k x).take (k + 1) = r.take (k + 1) := by
  obtain ⟨hk, rfl⟩ := List.getElem?_eq_some_iff.1 hx
  exact set_take h hk e
theorem put6_take {l : List Rn} {cs : List Value} {j : Nat} (hc : cs.length = l.length * 6) (hj : j < l.length) (ht : cs.take (j * 6) = (rns l).take (j * 6)) : (put6 cs (j * 6) l[j]).take ((j + 1) * 6) = (rns l).take ((j + 1) * 6) := by
  have hl := rns_len l
  unfold put6
  rw [show (j + 1) * 6 = j * 6 + 5 + 1 by omega]
  refine set_take' (by simp; omega) (rns_get hj (i := 5) (by omega)) ?_
  refine set_take' (by simp; omega) (rns_get hj (i := 4) (by omega)) ?_
  refine set_take' (by simp; omega) (rns_get hj (i := 3) (by omega)) ?_
  refine set_take' (by simp; omega) (rns_get hj (i := 2) (by omega)) ?_
  refine set_take' (by simp; omega) (rns_get hj (i := 1) (by omega)) ?_
  exact set_take' (by omega) (rns_get hj (i := 0) (by omega)) ht
theorem put6_len (cs : List Value) (o : Nat) (r : Rn) : (put6 cs o r).length = cs.length := by simp [put6]
theorem Blk.put6 {w : World} {g : Nat} {t : TypeId} {cs : List Value} (h : Blk w g t cs) (o : Nat) (r : Rn) : Blk (World.setCell (World.setCell (World.setCell (World.setCell (World.setCell (World.setCell w ⟨g, o, none⟩ (.int .i64 r.id)) ⟨g, o + 1, none⟩ (.string r.name)) ⟨g, o + 2, none⟩ (.string r.club)) ⟨g, o + 3, none⟩ (.int .i64 r.born)) ⟨g, o + 4, none⟩ (.bool r.woman)) ⟨g, o + 5, none⟩ (.int .i64 r.card)) g t (put6 cs o r) := (((((h.set_ o _).set_ (o + 1) _).set_ (o + 2) _).set_ (o + 3) _).set_ (o + 4) _).set_ (o + 5) _
theorem below_put6 {B g : Nat} {w0 w : World} (h : Below B w0 w) (hg : B ≤ g) (o : Nat) (r : Rn) : Below B w0 (World.setCell (World.setCell (World.setCell (World.setCell (World.setCell (World.setCell w ⟨g, o, none⟩ (.int .i64 r.id)) ⟨g, o + 1, none⟩ (.string r.name)) ⟨g, o + 2, none⟩ (.string r.club)) ⟨g, o + 3, none⟩ (.int .i64 r.born)) ⟨g, o + 4, none⟩ (.bool r.woman)) ⟨g, o + 5, none⟩ (.int .i64 r.card)) :=
  Below.setCell (Below.setCell (Below.setCell (Below.setCell (Below.setCell (Below.setCell h hg _) hg _) hg _) hg _) hg _) hg _
/-- make([]T, n) for elements of s cells. -/
theorem run_make_st {P : Program} (t e : TypeId) (z : Value) (s bytes : Nat) (ht : P.underlying t = some (.slice e)) (hinfo : (P.info? e).map (fun i => (i.zero, i.size, i.bytes)) = some (some z, s, bytes))
    (kl kc : IntKind) (n : Nat) (hbytes : bytes * n ≤ 281474976710656) (h63 : n ≤ 9223372036854775807) (w : World) :
    (Instr.makeSlice t (.int kl (n : Int)) (.int kc (n : Int))).run P w = .ok (.slice (some ⟨w.heap.size, 0, none⟩) n n) (w.alloc (.cells (madeCells z.cells (n * s)) e)) := by
  obtain ⟨i, hi, hzz⟩ := Option.map_eq_some_iff.1 hinfo
  simp only [Prod.mk.injEq] at hzz
  obtain ⟨hz, hs, hb⟩ := hzz
  have hb' : (i.bytes : Int) * (n : Int) ≤ 281474976710656 := by
    have h : ((i.bytes * n : Nat) : Int) ≤ 281474976710656 := by rw [hb]; omega
    rwa [Int.natCast_mul] at h
  have hr := run_make (P := P) w t e i z ht hi hz kl kc n n (by omega) (Int.le_refl _) hb' (by omega)
  simp only [Int.toNat_natCast, hs] at hr
  exact hr
def rsz (l : List Rn) : Nat := (l.map fun r => r.name.size + r.club.size).sum
theorem rsz_take {l : List Rn} {k : Nat} (hk : k < l.length) : rsz (l.take (k + 1)) = rsz (l.take k) + (l[k].name.size + l[k].club.size) := by
  unfold rsz
  rw [List.take_succ_eq_append_getElem hk, List.map_append, List.sum_append]
  congr 1
theorem rsz_le (l : List Rn) (k : Nat) : rsz (l.take k) ≤ rsz l := by
  have : rsz l = rsz (l.take k) + rsz (l.drop k) := by
    unfold rsz
    rw [← List.sum_append, ← List.map_append, List.take_append_drop]
  omega
def szR (n t : Nat) : Int := if 1048576 < n + t then -1 else 1048576 - (n : Int) - (t : Int)
theorem rn_info : (Tryz.prog.info? 41).map (fun i => (i.zero, i.size, i.bytes)) = some (some (.agg #[.int .i64 0, .string ByteArray.empty, .string ByteArray.empty, .int .i64 0, .bool false, .int .i64 0]), 6, 64) := by kernel_rfl
end Go.Proofs.YtmmpcchjalgokaaGreatDoor
