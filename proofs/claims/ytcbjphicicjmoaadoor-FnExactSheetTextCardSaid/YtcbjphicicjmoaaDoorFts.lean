/- Slices of features: where their cells lie; contracts of the law's helpers over them. -/
import Derived.Test.YtcbjphicicjmoaaDoorFtl
import Derived.Test.YtcbjphicicjmoaaDoorMkt
import Derived.Test.YtcbjphicicjmoaaDoorCh
import Derived.Test.YtcbjphicicjmoaaDoorRg
namespace Go.Proofs.YtcbjphicicjmoaaDoor
set_option linter.unusedVariables false
set_option linter.unusedSimpArgs false
open Go.RowKit
def fts (l : List Ft) : List Value := l.flatMap Ft.cells
theorem fts_len (l : List Ft) : (fts l).length = l.length * 5 := flatMap_len (s := 5) (fun _ => rfl) l
theorem fts_get {l : List Ft} {j i : Nat} (hj : j < l.length) (hi : i < 5) : (fts l)[j * 5 + i]? = (Ft.cells l[j])[i]? := flatMap_get (s := 5) (fun _ => rfl) l j i hj hi
theorem Rd.flen {w : World} {B n : Nat} {A : Option Addr} {l : List Ft} (h : Rd w B 5 A n (fts l)) : l.length = n := by
  have h1 := h.1
  rw [fts_len] at h1
  omega
/-- The feature f lies at offset o of block b. -/
structure FtAt (w : World) (b o : Nat) (r : Ft) : Prop where
  c0 : w.cell? ⟨b, o, none⟩ = some (.int .i64 r.code)
  c1 : w.cell? ⟨b, o + 1, none⟩ = some (.string r.which)
  c2 : w.cell? ⟨b, o + 2, none⟩ = some (.string r.what)
  c3 : w.cell? ⟨b, o + 3, none⟩ = some (.string r.look)
  c4 : w.cell? ⟨b, o + 4, none⟩ = some (.string r.side)
theorem FtAt.below {w w' : World} {b o B : Nat} {r : Ft} (h : FtAt w b o r) (hb : Below B w w') (hlt : b < B) : FtAt w' b o r :=
  ⟨(hb.cell hlt).trans h.c0, (hb.cell hlt).trans h.c1, (hb.cell hlt).trans h.c2, (hb.cell hlt).trans h.c3, (hb.cell hlt).trans h.c4⟩
theorem FtAt.blk {w : World} {g : Nat} {t : TypeId} {r : Ft} (h : Blk w g t r.cells) : FtAt w g 0 r := ⟨h.cell 0, h.cell 1, h.cell 2, h.cell 3, h.cell 4⟩
theorem Rd.ft {w : World} {B n : Nat} {A : Option Addr} {l : List Ft} (h : Rd w B 5 A n (fts l)) (hn : 0 < n) :
    ∃ b off, A = some ⟨b, off, none⟩ ∧ b < B ∧ ∀ (j : Nat) (hj : j < l.length), FtAt w b (off + j * 5) l[j] := by
  obtain ⟨b, off, e, hb, hc⟩ := h.2 hn
  refine ⟨b, off, e, hb, fun j hj => ?_⟩
  have q : ∀ i, i < 5 → ∀ u, (Ft.cells l[j])[i]? = some u → w.cell? ⟨b, off + j * 5 + i, none⟩ = some u := fun i hi u hu => by
    rw [Nat.add_assoc]; exact hc _ _ ((fts_get hj hi).trans hu)
  exact ⟨q 0 (by omega) _ rfl, q 1 (by omega) _ rfl, q 2 (by omega) _ rfl, q 3 (by omega) _ rfl, q 4 (by omega) _ rfl⟩
theorem Rd.takef {w : World} {B q j : Nat} {A : Option Addr} {l : List Ft} (h : Rd w B 5 A q (fts l)) (hj : j ≤ q) : Rd w B 5 A j (fts (l.take j)) := by
  have hl := h.flen
  refine ⟨by rw [fts_len, List.length_take, Nat.min_eq_left (by omega)], fun h0 => ?_⟩
  obtain ⟨b, off, e, hb, hc⟩ := h.2 (by omega)
  refine ⟨b, off, e, hb, fun k u hu => hc k u ?_⟩
  have : fts l = fts (l.take j) ++ fts (l.drop j) := by unfold fts; rw [← List.flatMap_append, List.take_append_drop]
  rw [this, List.getElem?_append_left (List.getElem?_eq_some_iff.1 hu).1]
  exact hu
/-- One feature laid into its place. -/
def putF (cs : List Value) (o : Nat) (r : Ft) : List Value := (((((cs.set (o) (.int .i64 r.code)).set (o + 1) (.string r.which)).set (o + 2) (.string r.what)).set (o + 3) (.string r.look)).set (o + 4) (.string r.side))
theorem set_take' {α : Type} {l r : List α} {k : Nat} {x : α} (h : l.length = r.length) (hx : r[k]? = some x) (e : l.take k = r.take k) : (l.set k x).take (k + 1) = r.take (k + 1) := by
  obtain ⟨hk, rfl⟩ := List.getElem?_eq_some_iff.1 hx
  exact set_take h hk e
theorem putF_take {l : List Ft} {cs : List Value} {j : Nat} (hc : cs.length = l.length * 5) (hj : j < l.length) (ht : cs.take (j * 5) = (fts l).take (j * 5)) : (putF cs (j * 5) l[j]).take ((j + 1) * 5) = (fts l).take ((j + 1) * 5) := by
  have hl := fts_len l
  unfold putF
  rw [show (j + 1) * 5 = j * 5 + 4 + 1 by omega]
  refine set_take' (by simp; omega) (fts_get hj (i := 4) (by omega)) ?_
  refine set_take' (by simp; omega) (fts_get hj (i := 3) (by omega)) ?_
  refine set_take' (by simp; omega) (fts_get hj (i := 2) (by omega)) ?_
  refine set_take' (by simp; omega) (fts_get hj (i := 1) (by omega)) ?_
  exact set_take' (by omega) (fts_get hj (i := 0) (by omega)) ht
theorem putF_len (cs : List Value) (o : Nat) (r : Ft) : (putF cs o r).length = cs.length := by simp [putF]
theorem Blk.putF {w : World} {g : Nat} {t : TypeId} {cs : List Value} (h : Blk w g t cs) (o : Nat) (r : Ft) : Blk (World.setCell (World.setCell (World.setCell (World.setCell (World.setCell (w) ⟨g, o, none⟩ (.int .i64 r.code)) ⟨g, o + 1, none⟩ (.string r.which)) ⟨g, o + 2, none⟩ (.string r.what)) ⟨g, o + 3, none⟩ (.string r.look)) ⟨g, o + 4, none⟩ (.string r.side)) g t (putF cs o r) := (((((h.set_ (o) _).set_ (o + 1) _).set_ (o + 2) _).set_ (o + 3) _).set_ (o + 4) _)
theorem below_putF {B g : Nat} {w0 w : World} (h : Below B w0 w) (hg : B ≤ g) (o : Nat) (r : Ft) : Below B w0 (World.setCell (World.setCell (World.setCell (World.setCell (World.setCell (w) ⟨g, o, none⟩ (.int .i64 r.code)) ⟨g, o + 1, none⟩ (.string r.which)) ⟨g, o + 2, none⟩ (.string r.what)) ⟨g, o + 3, none⟩ (.string r.look)) ⟨g, o + 4, none⟩ (.string r.side)) := (Below.setCell (Below.setCell (Below.setCell (Below.setCell (Below.setCell h hg _) hg _) hg _) hg _) hg _)
/-- make([]T, n) for elements of s cells. -/
theorem run_make_st {P : Program} (t e : TypeId) (z : Value) (s bytes : Nat) (ht : P.underlying t = some (.slice e)) (hinfo : (P.info? e).map (fun i => (i.zero, i.size, i.bytes)) = some (some z, s, bytes))
    (kl kc : IntKind) (n : Nat) (hbytes : bytes * n ≤ 281474976710656) (h63 : n ≤ 9223372036854775807) (w : World) :
    (Instr.makeSlice t (.int kl (n : Int)) (.int kc (n : Int))).run P w = .ok (.slice (some ⟨w.heap.size, 0, none⟩) n n) (w.alloc (.cells (madeCells z.cells (n * s)) e)) := by
  obtain ⟨i, hi, hzz⟩ := Option.map_eq_some_iff.1 hinfo
  simp only [Prod.mk.injEq] at hzz
  obtain ⟨hz, hs, hb⟩ := hzz
  have hb' : (i.bytes : Int) * (n : Int) ≤ 281474976710656 := by
    have h : ((i.bytes * n : Nat) : Int) ≤ 281474976710656 := by rw [hb]; omega
    rwa [Int.natCast_mul] at h
  have hr := run_make (P := P) w t e i z ht hi hz kl kc n n (by omega) (Int.le_refl _) hb' (by omega)
  simp only [Int.toNat_natCast, hs] at hr
  exact hr
def fsz1 (r : Ft) : Nat := r.which.size + r.what.size + r.look.size + r.side.size
def fsz (l : List Ft) : Nat := (l.map fsz1).sum
theorem fsz_take {l : List Ft} {k : Nat} (hk : k < l.length) : fsz (l.take (k + 1)) = fsz (l.take k) + fsz1 l[k] := by
  unfold fsz
  rw [List.take_succ_eq_append_getElem hk, List.map_append, List.sum_append]
  congr 1
theorem fsz_le (l : List Ft) (k : Nat) : fsz (l.take k) ≤ fsz l := by
  have : fsz l = fsz (l.take k) + fsz (l.drop k) := by
    unfold fsz
    rw [← List.sum_append, ← List.map_append, List.take_append_drop]
  omega
def szR (n t : Nat) : Int := if 1048576 < n + t then -1 else 1048576 - (n : Int) - (t : Int)
set_option maxHeartbeats 1000000 in
theorem szFeatureS_any {A : Option Addr} {n c : Nat} {l : List Ft} {w : World} (hA : Rd w w.heap.size 5 A n (fts l)) (hn : n ≤ maxLen) (hs : ∀ r ∈ l, Ft.Ok r) :
    Calls Tryd.prog 17 #[.slice A n c, .int .i64 1048576] w fun e w' => e = .returned (.int .i64 (szR n (fsz l))) ∧ Below w.heap.size w w' := by
  unfold maxLen at hn
  have HX := Lib.hid hA.flen
  have HS := Lib.hid hs
  clear hs
  have hw : IntKind.i64.wrap (1048576 - (n : Int)) = 1048576 - (n : Int) := IntWalk.i64_in _ (by omega)
  by_cases h : 1048576 < n
  · have h9 : ((1048576 : Int) - (n : Int)) < 0 := by omega
    have HR : Hid (szR n (fsz l) = -1) := by show _ = _; unfold szR; rw [if_pos (by omega)]
    go_enter Tryd.func17, Tryd.ntmps17
    go_wp2_with fail
    go_ret
    exact ⟨ret_int HR.out.symm, Below.refl _ _⟩
  · have h9 : ¬ ((1048576 : Int) - (n : Int)) < 0 := by omega
    have h8 : decide (((1048576 : Int) - (n : Int)) < 0) = false := by simp; omega
    go_enter Tryd.func17, Tryd.ntmps17
    go_wp2_with fail
    go_loopw [1, 5] (fun q i wr => ∃ k : Nat, k ≤ n ∧ i = .int .i64 k ∧ n + fsz (l.take k) ≤ 1048576 ∧ q = .int .i64 (1048576 - (n : Int) - (fsz (l.take k) : Int)) ∧ Below w.heap.size w wr) (fun _ i _ => n - (intOf i).toNat)
    case atStart => exact ⟨0, Nat.zero_le _, rfl, by simp [fsz]; omega, by simp [fsz], Below.refl _ _⟩
    case round =>
      obtain ⟨k, hk, rfl, hle, rfl, G⟩ := hrel
      by_cases hlt : k < n
      · obtain ⟨b, off, rfl, hbb, hca⟩ := hA.ft (show 0 < n by omega)
        have kx : k < l.length := by rw [HX.out]; exact hlt
        obtain ⟨c0, c1, c2, c3, c4⟩ := (hca k kx).below G hbb
        have HT := Lib.hid (fsz_take kx)
        have hrs := HS.out l[k] (List.getElem_mem kx)
        have hle2 := Lib.hid (fsz_le l (k + 1))
        have HF1 := Lib.hid (show fsz1 l[k] = l[k].which.size + l[k].what.size + l[k].look.size + l[k].side.size from rfl)
        generalize hr : l[k] = r at *
        clear hca hr
        go_wp2_with fail
        refine (szFeature_any r (1048576 - (n : Int) - (fsz (l.take k) : Int)) _ hrs (by omega) (by omega)).mono ?_
        rintro e w1 ⟨rfl, hb⟩
        clear c0 c1 c2 c3 c4
        replace G := G.trans (hb.mono G.size)
        by_cases hbig : (1048576 - (n : Int) - (fsz (l.take k) : Int)) < ((r.which.size : Int) + r.what.size + r.look.size + r.side.size)
        · have HR : Hid (szR n (fsz l) = -1) := by
            show _ = _
            have h1 := HT.out
            have h3 := HF1.out
            have h2 := hle2.out
            unfold szR
            rw [if_pos (by omega)]
          rw [if_pos (by omega)]
          go_wp2_with fail
          go_ret
          exact ⟨ret_int HR.out.symm, G⟩
        · rw [if_neg (by omega)]
          have hnn : ¬ (1048576 - (n : Int) - (fsz (l.take k) : Int) - ((r.which.size : Int) + r.what.size + r.look.size + r.side.size)) < 0 := by omega
          have hnd : decide ((1048576 - (n : Int) - (fsz (l.take k) : Int) - ((r.which.size : Int) + r.what.size + r.look.size + r.side.size)) < 0) = false := by simp; omega
          go_wp2_with fail
          go_roundw
          case rel => exact ⟨k + 1, by omega, by go_num, by have := HT.out; have := HF1.out; omega, by congr 1; have := HT.out; have := HF1.out; omega, G⟩
          case measure => simp [intOf]; omega
      · have hkn : k = n := by omega
        have HR : Hid (szR n (fsz l) = 1048576 - (n : Int) - (fsz (l.take k) : Int)) := by
          show _ = _
          have e : l.take k = l := List.take_of_length_le (by rw [HX.out]; omega)
          rw [e] at hle ⊢
          unfold szR
          rw [if_neg (by omega)]
        clear hkn
        go_wp2_with fail
        go_ret
        exact ⟨ret_int HR.out.symm, G⟩
theorem ft_info : (Tryd.prog.info? 23).map (fun i => (i.zero, i.size, i.bytes)) = some (some (.agg #[.int .i64 0, .string ByteArray.empty, .string ByteArray.empty, .string ByteArray.empty, .string ByteArray.empty]), 5, 72) := by kernel_rfl
set_option maxHeartbeats 1000000 in
theorem toFeatureS_b {A : Option Addr} {n c : Nat} {l : List Ft} {w : World} (hA : Rd w w.heap.size 5 A n (fts l)) (hn : n ≤ 1048576) :
    Calls Tryd.prog 19 #[.slice A n c] w fun e w' => ∃ g, e = .returned (.slice (some ⟨g, 0, none⟩) n n) ∧ Blk w' g 23 (fts l) ∧ w.heap.size ≤ g ∧ Below w.heap.size w w' := by
  have HX := Lib.hid hA.flen
  have hmk := run_make_st (P := Tryd.prog) 40 23 (.agg #[.int .i64 0, .string ByteArray.empty, .string ByteArray.empty, .string ByteArray.empty, .string ByteArray.empty]) 5 72 Tryd.underlying40 ft_info .i64 .i64 n (by omega) (by omega)
  go_enter Tryd.func19, Tryd.ntmps19
  go_wp2_with fail
  go_loopw [4] (fun i wr => ∃ k : Nat, k ≤ n ∧ i = .int .i64 k ∧ (∃ cs : List Value, Blk wr w.heap.size 23 cs ∧ cs.length = n * 5 ∧ cs.take (k * 5) = (fts l).take (k * 5)) ∧ Below w.heap.size w wr) (fun i _ => n - (intOf i).toNat)
  case atStart => exact ⟨0, Nat.zero_le _, rfl, ⟨_, Blk.new w 23 (madeCells #[.int .i64 0, .string ByteArray.empty, .string ByteArray.empty, .string ByteArray.empty, .string ByteArray.empty] (n * 5)).toList, by simp [size_madeCells], by simp⟩, (by repeat (first | exact Below.refl _ _ | refine below_drewN ?_ _ | refine Below.drew ?_ | refine Below.alloc ?_ (by first | omega | (simp; done) | (simp; omega)) _ | refine Below.setCell ?_ (by first | omega | (simp; done) | (simp; omega)) _))⟩
  case round =>
    obtain ⟨k, hk, rfl, ⟨cs, O, hcl, ht⟩, G⟩ := hrel
    have HT := Lib.hid ht
    have HC := Lib.hid hcl
    clear ht hcl
    by_cases hlt : k < n
    · obtain ⟨b, off, rfl, hbb, hca⟩ := hA.ft (show 0 < n by omega)
      have kx : k < l.length := by rw [HX.out]; exact hlt
      obtain ⟨c0, c1, c2, c3, c4⟩ := (hca k kx).below G hbb
      have HPT := Lib.hid (putF_take (l := l) (cs := cs) (j := k) (by rw [HC.out, HX.out]) kx HT.out)
      generalize hr : l[k] = r at *
      clear hca hr
      go_wp2_with fail
      refine (toFeature_b r _).mono ?_
      rintro e w1 ⟨rfl, hb⟩
      replace O := O.on hb
      replace G := G.trans (hb.mono G.size)
      clear c0 c1 c2 c3 c4 hb
      have lc : k * 5 + 4 < cs.length := by have := HC.out; omega
      have d0 : w1.cell? ⟨w.heap.size, k * 5, none⟩ = some cs[k * 5] := by rw [O.cell]; simp
      have d1 : w1.cell? ⟨w.heap.size, k * 5 + 1, none⟩ = some cs[k * 5 + 1] := by rw [O.cell]; simp
      have d2 : w1.cell? ⟨w.heap.size, k * 5 + 2, none⟩ = some cs[k * 5 + 2] := by rw [O.cell]; simp
      have d3 : w1.cell? ⟨w.heap.size, k * 5 + 3, none⟩ = some cs[k * 5 + 3] := by rw [O.cell]; simp
      have d4 : w1.cell? ⟨w.heap.size, k * 5 + 4, none⟩ = some cs[k * 5 + 4] := by rw [O.cell]; simp
      have f0 := O.frozen (k * 5)
      have f1 := O.frozen (k * 5 + 1)
      have f2 := O.frozen (k * 5 + 2)
      have f3 := O.frozen (k * 5 + 3)
      have f4 := O.frozen (k * 5 + 4)
      go_wp2_with fail
      go_roundw
      case rel => exact ⟨k + 1, by omega, by go_num, ⟨putF cs (k * 5) r, O.putF (k * 5) r, (putF_len _ _ _).trans HC.out, HPT.out⟩, below_putF G (Nat.le_refl _) (k * 5) r⟩
      case measure => simp [intOf]; omega
    · go_wp2_with fail
      go_ret
      have e : cs = fts l := by
        have := HT.out
        rwa [List.take_of_length_le (by rw [HC.out]; omega), List.take_of_length_le (by rw [fts_len, HX.out]; omega)] at this
      subst e
      exact ⟨_, rfl, O, Nat.le_refl _, G⟩
theorem eqFeatureS_b {A B : Option Addr} {n c d : Nat} {l : List Ft} {w : World} (hA : Rd w w.heap.size 5 A n (fts l)) (hB : Rd w w.heap.size 5 B n (fts l)) (hn : n ≤ 1048576) :
    Calls Tryd.prog 21 #[.slice A n c, .slice B n d] w fun e w' => e = .returned (.bool true) ∧ Below w.heap.size w w' := by
  have HX := Lib.hid hA.flen
  have hne : ((n : Int) != (n : Int)) = false := by simp
  go_enter Tryd.func21, Tryd.ntmps21
  go_wp2_with fail
  go_loopw [5] (fun i wr => ∃ k : Nat, k ≤ n ∧ i = .int .i64 k ∧ Below w.heap.size w wr) (fun i _ => n - (intOf i).toNat)
  case atStart => exact ⟨0, Nat.zero_le _, rfl, Below.refl _ _⟩
  case round =>
    obtain ⟨k, hk, rfl, G⟩ := hrel
    by_cases hlt : k < n
    · obtain ⟨b, off, rfl, hbb, hca⟩ := hA.ft (show 0 < n by omega)
      obtain ⟨b2, off2, rfl, hbb2, hca2⟩ := hB.ft (show 0 < n by omega)
      have kx : k < l.length := by rw [HX.out]; exact hlt
      have c1 := hca k kx
      have c2 := hca2 k kx
      generalize hr : l[k] = r at *
      clear hca hca2 hr
      go_wp2_with fail
      refine wp_region_held_drew (S := fun w' => Below w.heap.size w w') (by kernel_rfl) ?_ (fun hHeld => ?_)
      · (try dsimp only)
        first | exact G.drew | exact hHeld.trans (hb6.mono hHeld.size)
      refine rgTake (i := 0) (d := 17) (v := ?_) rfl rfl (by kernel_rfl) (by kernel_rfl) (by kernel_rfl) (fun _ _ _ h => h) (by rfl) ?_ (by assumption) ?_
      rotate_left
      · ((intro w hSw); (try dsimp only at hSw); go_simp; (try with_reducible rfl))
      try simp only [Act.put, List.setIfInBounds_toArray, List.set_cons_zero, List.set_cons_succ]
      refine rgTake (i := 1) (d := 18) (v := ?_) rfl rfl (by kernel_rfl) (by kernel_rfl) (by kernel_rfl) (fun _ _ _ h => h) (by rfl) ?_ (by assumption) ?_
      rotate_left
      · ((intro w hSw); (try dsimp only at hSw); go_simp; (try with_reducible rfl))
      try simp only [Act.put, List.setIfInBounds_toArray, List.set_cons_zero, List.set_cons_succ]
      refine rgTake (i := 2) (d := 19) (v := ?_) rfl rfl (by kernel_rfl) (by kernel_rfl) (by kernel_rfl) (fun _ _ _ h => h) (by rfl) ?_ (by assumption) ?_
      rotate_left
      · ((intro w hSw); (try dsimp only at hSw); go_simp; (try with_reducible rfl))
      try simp only [Act.put, List.setIfInBounds_toArray, List.set_cons_zero, List.set_cons_succ]
      refine rgTake (i := 3) (d := 20) (v := ?_) rfl rfl (by kernel_rfl) (by kernel_rfl) (by kernel_rfl) (fun _ _ _ h => h) (by rfl) ?_ (by assumption) ?_
      rotate_left
      · ((intro w hSw); (try dsimp only at hSw); (obtain ⟨z0, z1, z2, z3, z4⟩ := c1.below hSw hbb; obtain ⟨y0, y1, y2, y3, y4⟩ := c2.below hSw hbb2); go_simp; (try with_reducible rfl))
      try simp only [Act.put, List.setIfInBounds_toArray, List.set_cons_zero, List.set_cons_succ]
      refine rgTake (i := 4) (d := 21) (v := ?_) rfl rfl (by kernel_rfl) (by kernel_rfl) (by kernel_rfl) (fun _ _ _ h => h) (by rfl) ?_ (by assumption) ?_
      rotate_left
      · ((intro w hSw); (try dsimp only at hSw); go_simp; (try with_reducible rfl))
      try simp only [Act.put, List.setIfInBounds_toArray, List.set_cons_zero, List.set_cons_succ]
      refine rgTake (i := 5) (d := 22) (v := ?_) rfl rfl (by kernel_rfl) (by kernel_rfl) (by kernel_rfl) (fun _ _ _ h => h) (by rfl) ?_ (by assumption) ?_
      rotate_left
      · ((intro w hSw); (try dsimp only at hSw); go_simp; (try with_reducible rfl))
      try simp only [Act.put, List.setIfInBounds_toArray, List.set_cons_zero, List.set_cons_succ]
      refine rgTake (i := 6) (d := 23) (v := ?_) rfl rfl (by kernel_rfl) (by kernel_rfl) (by kernel_rfl) (fun _ _ _ h => h) (by rfl) ?_ (by assumption) ?_
      rotate_left
      · ((intro w hSw); (try dsimp only at hSw); go_simp; (try with_reducible rfl))
      try simp only [Act.put, List.setIfInBounds_toArray, List.set_cons_zero, List.set_cons_succ]
      refine rgTake (i := 7) (d := 24) (v := ?_) rfl rfl (by kernel_rfl) (by kernel_rfl) (by kernel_rfl) (fun _ _ _ h => h) (by rfl) ?_ (by assumption) ?_
      rotate_left
      · ((intro w hSw); (try dsimp only at hSw); (obtain ⟨z0, z1, z2, z3, z4⟩ := c1.below hSw hbb; obtain ⟨y0, y1, y2, y3, y4⟩ := c2.below hSw hbb2); go_simp; (try with_reducible rfl))
      try simp only [Act.put, List.setIfInBounds_toArray, List.set_cons_zero, List.set_cons_succ]
      refine wpAnyH_ready (rs := [8]) (by kernel_rfl) (by simp) ?_
      refine AllReadyH.cons rfl (fun K hK => ?_) AllReadyH.nil
      go_simp
      refine (eqFeature_same r _).mono ?_; rintro e wy ⟨rfl, hb6⟩
      go_wp2_with fail
      refine hK.out _ _ ?_ (fun hHeld => ?_)
      · (try dsimp only)
        first | exact G.drew | exact hHeld.trans (hb6.mono hHeld.size)
      clear hK K
      try simp only [Act.put, List.setIfInBounds_toArray, List.set_cons_zero, List.set_cons_succ]
      refine rgTake (i := 9) (d := 26) (v := ?_) rfl rfl (by kernel_rfl) (by kernel_rfl) (by kernel_rfl) (fun _ _ _ h => h) (by rfl) ?_ (by assumption) ?_
      rotate_left
      · ((intro w hSw); (try dsimp only at hSw); go_simp; (try with_reducible rfl))
      try simp only [Act.put, List.setIfInBounds_toArray, List.set_cons_zero, List.set_cons_succ]
      refine wpAnyH_done (by kernel_rfl) ?_ _
      go_wp2_with fail
      go_roundw
      case rel => exact ⟨k + 1, by omega, by go_num, hHeld⟩
      case measure => simp [intOf]; omega
    · go_wp2_with fail
      go_ret
      exact ⟨rfl, G⟩
end Go.Proofs.YtcbjphicicjmoaaDoor
