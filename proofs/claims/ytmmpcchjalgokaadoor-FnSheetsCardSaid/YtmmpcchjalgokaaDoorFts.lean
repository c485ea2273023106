/- Slices of features: where their cells lie; contracts of the law's helpers over them. -/
import Derived.Test.YtmmpcchjalgokaaDoorFtl
import Derived.Test.YtmmpcchjalgokaaDoorMkt
import Derived.Test.YtmmpcchjalgokaaDoorCh
import Derived.Test.YtmmpcchjalgokaaDoorRg
namespace Go.Proofs.YtmmpcchjalgokaaDoor
set_option linter.unusedVariables false
set_option linter.unusedSimpArgs false
open Go.RowKit
def fts (l : List Ft) : List Value := l.flatMap Ft.cells
theorem fts_len (l : List Ft) : (fts l).length = l.length * 5 := flatMap_len (s := 5) (fun _ => rfl) l
theorem fts_get {l : List Ft} {j i : Nat} (hj : j < l.length) (hi : i < 5) : (fts l)[j * 5 + i]? = (Ft.cells l[j])[i]? := flatMap_get (s := 5) (fun _ => rfl) l j i hj hi
theorem Rd.flen {w : World} {B n : Nat} {A : Option Addr} {l : List Ft} (h : Rd w B 5 A n (fts l)) : l.length = n := by
  have h1 := h.1
  rw [fts_len] at h1
  omega
/-- The feature f lies at offset o of block b. -/
structure FtAt (w : World) (b o : Nat) (r : Ft) : Prop where
  c0 : w.cell? ⟨b, o, none⟩ = some (.int .i64 r.code)
  c1 : w.cell? ⟨b, o + 1, none⟩ = some (.string r.which)
  c2 : w.cell? ⟨b, o + 2, none⟩ = some (.string r.what)
  c3 : w.cell? ⟨b, o + 3, none⟩ = some (.string r.look)
  c4 : w.cell? ⟨b, o + 4, none⟩ = some (.string r.side)
theorem FtAt.below {w w' : World} {b o B : Nat} {r : Ft} (h : FtAt w b o r) (hb : Below B w w') (hlt : b < B) : FtAt w' b o r :=
  ⟨(hb.cell hlt).trans h.c0, (hb.cell hlt).trans h.c1, (hb.cell hlt).trans h.c2, (hb.cell hlt).trans h.c3, (hb.cell hlt).trans h.c4⟩
theorem FtAt.blk {w : World} {g : Nat} {t : TypeId} {r : Ft} (h : Blk w g t r.cells) : FtAt w g 0 r := ⟨h.cell 0, h.cell 1, h.cell 2, h.cell 3, h.cell 4⟩
theorem Rd.ft {w : World} {B n : Nat} {A : Option Addr} {l : List Ft} (h : Rd w B 5 A n (fts l)) (hn : 0 < n) :
    ∃ b off, A = some ⟨b, off, none⟩ ∧ b < B ∧ ∀ (j : Nat) (hj : j < l.length), FtAt w b (off + j * 5) l[j] := by
  obtain ⟨b, off, e, hb, hc⟩ := h.2 hn
  refine ⟨b, off, e, hb, fun j hj => ?_⟩
  have q : ∀ i, i < 5 → ∀ u, (Ft.cells l[j])[i]? = some u → w.cell? ⟨b, off + j * 5 + i, none⟩ = some u := fun i hi u hu => by
    rw [Nat.add_assoc]; exact hc _ _ ((fts_get hj hi).trans hu)
  exact ⟨q 0 (by omega) _ rfl, q 1 (by omega) _ rfl, q 2 (by omega) _ rfl, q 3 (by omega) _ rfl, q 4 (by omega) _ rfl⟩
theorem Rd.takef {w : World} {B q j : Nat} {A : Option Addr} {l : List Ft} (h : Rd w B 5 A q (fts l)) (hj : j ≤ q) : Rd w B 5 A j (fts (l.take j)) := by
  have hl := h.flen
  refine ⟨by rw [fts_len, List.length_take, Nat.min_eq_left (by omega)], fun h0 => ?_⟩
  obtain ⟨b, off, e, hb, hc⟩ := h.2 (by omega)
  refine ⟨b, off, e, hb, fun k u hu => hc k u ?_⟩
  have : fts l = fts (l.take j) ++ fts (l.drop j) := by unfold fts; rw [← List.flatMap_append, List.take_append_drop]
  rw [this, List.getElem?_append_left (List.getElem?_eq_some_iff.1 hu).1]
  exact hu
/-- One feature laid into its place. -/
def putF (cs : List Value) (o : Nat) (r : Ft) : List Value := (((((cs.set (o) (.int .i64 r.code)).set (o + 1) (.string r.which)).set (o + 2) (.string r.what)).set (o + 3) (.string r.look)).set (o + 4) (.string r.side))
theorem set_take' {α : Type} {l r : List α} {k : Nat} {x : α} (h : l.length = r.length) (hx : r[k]? = some x) (e : l.take k = r.take k) : (l.set k x).take (k + 1) = r.take (k + 1) := by
  obtain ⟨hk, rfl⟩ := List.getElem?_eq_some_iff.1 hx
  exact set_take h hk e
theorem putF_take {l : List Ft} {cs : List Value} {j : Nat} (hc : cs.length = l.length * 5) (hj : j < l.length) (ht : cs.take (j * 5) = (fts l).take (j * 5)) : (putF cs (j * 5) l[j]).take ((j + 1) * 5) = (fts l).take ((j + 1) * 5) := by
  have hl := fts_len l
  unfold putF
  rw [show (j + 1) * 5 = j * 5 + 4 + 1 by omega]
  refine set_take' (by simp; omega) (fts_get hj (i := 4) (by omega)) ?_
  refine set_take' (by simp; omega) (fts_get hj (i := 3) (by omega)) ?_
  refine set_take' (by simp; omega) (fts_get hj (i := 2) (by omega)) ?_
  refine set_take' (by simp; omega) (fts_get hj (i := 1) (by omega)) ?_
  exact set_take' (by omega) (fts_get hj (i := 0) (by omega)) ht
theorem putF_len (cs : List Value) (o : Nat) (r : Ft) : (putF cs o r).length = cs.length := by simp [putF]
theorem Blk.putF {w : World} {g : Nat} {t : TypeId} {cs : List Value} (h : Blk w g t cs) (o : Nat) (r : Ft) : Blk (World.setCell (World.setCell (World.setCell (World.setCell (World.setCell (w) ⟨g, o, none⟩ (.int .i64 r.code)) ⟨g, o + 1, none⟩ (.string r.which)) ⟨g, o + 2, none⟩ (.string r.what)) ⟨g, o + 3, none⟩ (.string r.look)) ⟨g, o + 4, none⟩ (.string r.side)) g t (putF cs o r) := (((((h.set_ (o) _).set_ (o + 1) _).set_ (o + 2) _).set_ (o + 3) _).set_ (o + 4) _)
theorem below_putF {B g : Nat} {w0 w : World} (h : Below B w0 w) (hg : B ≤ g) (o : Nat) (r : Ft) : Below B w0 (World.setCell (World.setCell (World.setCell (World.setCell (World.setCell (w) ⟨g, o, none⟩ (.int .i64 r.code)) ⟨g, o + 1, none⟩ (.string r.which)) ⟨g, o + 2, none⟩ (.string r.what)) ⟨g, o + 3, none⟩ (.string r.look)) ⟨g, o + 4, none⟩ (.string r.side)) := (Below.setCell (Below.setCell (Below.setCell (Below.setCell (Below.setCell h hg _) hg _) hg _) hg _) hg _)
/-- make([]T, n) for elements of s cells. -/
theorem run_make_st {P : Program} (t e : TypeId) (z : Value) (s bytes : Nat) (ht : P.underlying t = some (.slice e)) (hinfo : (P.info? e).map (fun i => (i.zero, i.size, i.bytes)) = some (some z, s, bytes))
    (kl kc : IntKind) (n : Nat) (hbytes : bytes * n ≤ 281474976710656) (h63 : n ≤ 9223372036854775807) (w : World) :
    (Instr.makeSlice t (.int kl (n : Int)) (.int kc (n : Int))).run P w = .ok (.slice (some ⟨w.heap.size, 0, none⟩) n n) (w.alloc (.cells (madeCells z.cells (n * s)) e)) := by
  obtain ⟨i, hi, hzz⟩ := Option.map_eq_some_iff.1 hinfo
  simp only [Prod.mk.injEq] at hzz
  obtain ⟨hz, hs, hb⟩ := hzz
  have hb' : (i.bytes : Int) * (n : Int) ≤ 281474976710656 := by
    have h : ((i.bytes * n : Nat) : Int) ≤ 281474976710656 := by rw [hb]; omega
    rwa [Int.natCast_mul] at h
  have hr := run_make (P := P) w t e i z ht hi hz kl kc n n (by omega) (Int.le_refl _) hb' (by omega)
  simp only [Int.toNat_natCast, hs] at hr
  exact hr
def fsz1 (r : Ft) : Nat := r.which.size + r.what.size + r.look.size + r.side.size
def fsz (l : List Ft) : Nat := (l.map fsz1).sum
theorem fsz_take {l : List Ft} {k : Nat} (hk : k < l.length) : fsz (l.take (k + 1)) = fsz (l.take k) + fsz1 l[k] := by
  unfold fsz
  rw [List.take_succ_eq_append_getElem hk, List.map_append, List.sum_append]
  congr 1
theorem fsz_le (l : List Ft) (k : Nat) : fsz (l.take k) ≤ fsz l := by
  have : fsz l = fsz (l.take k) + fsz (l.drop k) := by
    unfold fsz
    rw [← List.sum_append, ← List.map_append, List.take_append_drop]
  omega
def szR (n t : Nat) : Int := if 1048576 < n + t then -1 else 1048576 - (n : Int) - (t : Int)
theorem ft_info : (Tryd.prog.info? 23).map (fun i => (i.zero, i.size, i.bytes)) = some (some (.agg #[.int .i64 0, .string ByteArray.empty, .string ByteArray.empty, .string ByteArray.empty, .string ByteArray.empty]), 5, 72) := by kernel_rfl
theorem stored_any {w : World} {base n c g i size : Nat} {t : TypeId} {xs : List Value} (h : w.ownsRow base t size (.slice (some ⟨g, 0, none⟩) n c) n xs) (hi : i < n * size) (u : Value) :
    (∃ v, w.cell? ⟨g, i, none⟩ = some v) ∧ w.frozen? ⟨g, i, none⟩ = false ∧ (∃ ys, (w.setCell ⟨g, i, none⟩ u).ownsRow base t size (.slice (some ⟨g, 0, none⟩) n c) n ys) ∧ w.grownBy (w.setCell ⟨g, i, none⟩ u) (some g) := by
  have hc := h.cellAt i hi
  have hl := h.1
  rw [List.getElem?_eq_getElem (by omega)] at hc
  obtain ⟨o, gr⟩ := h.stored i u
  exact ⟨⟨_, hc⟩, h.frozenAt i, ⟨_, o⟩, gr⟩
end Go.Proofs.YtmmpcchjalgokaaDoor
