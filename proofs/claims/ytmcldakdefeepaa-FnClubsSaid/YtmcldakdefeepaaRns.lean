/- Slices of runners: where their cells lie; contracts of the law's helpers over them. -/
import Derived.Test.YtmcldakdefeepaaOpenRunner
import Derived.Test.YtmcldakdefeepaaRunner
import Derived.Test.YtmcldakdefeepaaCh
import Derived.Test.YtmcldakdefeepaaRg
namespace Go.Proofs.Ytmcldakdefeepaa
set_option linter.unusedVariables false
set_option linter.unusedSimpArgs false
open Go.RowKit
def rns (l : List Rn) : List Value := l.flatMap Rn.cells
theorem rns_len (l : List Rn) : (rns l).length = l.length * 6 := flatMap_len (s := 6) (fun _ => rfl) l
theorem rns_get {l : List Rn} {j i : Nat} (hj : j < l.length) (hi : i < 6) : (rns l)[j * 6 + i]? = (Rn.cells l[j])[i]? := flatMap_get (s := 6) (fun _ => rfl) l j i hj hi
theorem Rd.rlen {w : World} {B n : Nat} {A : Option Addr} {l : List Rn} (h : Rd w B 6 A n (rns l)) : l.length = n := by
  have h1 := h.1
  rw [rns_len] at h1
  omega
/-- The runner r lies at offset o of block b. -/
structure RnAt (w : World) (b o : Nat) (r : Rn) : Prop where
  c0 : w.cell? ⟨b, o, none⟩ = some (.int .i64 r.id)
  c1 : w.cell? ⟨b, o + 1, none⟩ = some (.string r.name)
  c2 : w.cell? ⟨b, o + 2, none⟩ = some (.string r.club)
  c3 : w.cell? ⟨b, o + 3, none⟩ = some (.int .i64 r.born)
  c4 : w.cell? ⟨b, o + 4, none⟩ = some (.bool r.woman)
  c5 : w.cell? ⟨b, o + 5, none⟩ = some (.int .i64 r.card)
theorem RnAt.below {w w' : World} {b o B : Nat} {r : Rn} (h : RnAt w b o r) (hb : Below B w w') (hlt : b < B) : RnAt w' b o r :=
  ⟨(hb.cell hlt).trans h.c0, (hb.cell hlt).trans h.c1, (hb.cell hlt).trans h.c2, (hb.cell hlt).trans h.c3, (hb.cell hlt).trans h.c4, (hb.cell hlt).trans h.c5⟩
theorem RnAt.blk {w : World} {g : Nat} {t : TypeId} {r : Rn} (h : Blk w g t r.cells) : RnAt w g 0 r := ⟨h.cell 0, h.cell 1, h.cell 2, h.cell 3, h.cell 4, h.cell 5⟩
theorem Rd.rn {w : World} {B n : Nat} {A : Option Addr} {l : List Rn} (h : Rd w B 6 A n (rns l)) (hn : 0 < n) :
    ∃ b off, A = some ⟨b, off, none⟩ ∧ b < B ∧ ∀ (j : Nat) (hj : j < l.length), RnAt w b (off + j * 6) l[j] := by
  obtain ⟨b, off, e, hb, hc⟩ := h.2 hn
  refine ⟨b, off, e, hb, fun j hj => ?_⟩
  have q : ∀ i, i < 6 → ∀ u, (Rn.cells l[j])[i]? = some u → w.cell? ⟨b, off + j * 6 + i, none⟩ = some u := fun i hi u hu => by
    rw [Nat.add_assoc]; exact hc _ _ ((rns_get hj hi).trans hu)
  exact ⟨q 0 (by omega) _ rfl, q 1 (by omega) _ rfl, q 2 (by omega) _ rfl, q 3 (by omega) _ rfl, q 4 (by omega) _ rfl, q 5 (by omega) _ rfl⟩
theorem Rd.taker {w : World} {B q j : Nat} {A : Option Addr} {l : List Rn} (h : Rd w B 6 A q (rns l)) (hj : j ≤ q) : Rd w B 6 A j (rns (l.take j)) := by
  have hl := h.rlen
  refine ⟨by rw [rns_len, List.length_take, Nat.min_eq_left (by omega)], fun h0 => ?_⟩
  obtain ⟨b, off, e, hb, hc⟩ := h.2 (by omega)
  refine ⟨b, off, e, hb, fun k u hu => hc k u ?_⟩
  have : rns l = rns (l.take j) ++ rns (l.drop j) := by unfold rns; rw [← List.flatMap_append, List.take_append_drop]
  rw [this, List.getElem?_append_left (List.getElem?_eq_some_iff.1 hu).1]
  exact hu
/-- One runner laid into its place. -/
def put6 (cs : List Value) (o : Nat) (r : Rn) : List Value := (((((cs.set o (.int .i64 r.id)).set (o + 1) (.string r.name)).set (o + 2) (.string r.club)).set (o + 3) (.int .i64 r.born)).set (o + 4) (.bool r.woman)).set (o + 5) (.int .i64 r.card)
theorem set_take' {α : Type} {l r : List α} {k : Nat} {x : α} (h : l.length = r.length) (hx : r[k]? = some x) (e : l.take k = r.take k) : (l.set k x).take (k + 1) = r.take (k + 1) := by
  obtain ⟨hk, rfl⟩ := List.getElem?_eq_some_iff.1 hx
  exact set_take h hk e
theorem put6_take {l : List Rn} {cs : List Value} {j : Nat} (hc : cs.length = l.length * 6) (hj : j < l.length) (ht : cs.take (j * 6) = (rns l).take (j * 6)) : (put6 cs (j * 6) l[j]).take ((j + 1) * 6) = (rns l).take ((j + 1) * 6) := by
  have hl := rns_len l
  unfold put6
  rw [show (j + 1) * 6 = j * 6 + 5 + 1 by omega]
  refine set_take' (by simp; omega) (rns_get hj (i := 5) (by omega)) ?_
  refine set_take' (by simp; omega) (rns_get hj (i := 4) (by omega)) ?_
  refine set_take' (by simp; omega) (rns_get hj (i := 3) (by omega)) ?_
  refine set_take' (by simp; omega) (rns_get hj (i := 2) (by omega)) ?_
  refine set_take' (by simp; omega) (rns_get hj (i := 1) (by omega)) ?_
  exact set_take' (by omega) (rns_get hj (i := 0) (by omega)) ht
theorem put6_len (cs : List Value) (o : Nat) (r : Rn) : (put6 cs o r).length = cs.length := by simp [put6]
theorem Blk.put6 {w : World} {g : Nat} {t : TypeId} {cs : List Value} (h : Blk w g t cs) (o : Nat) (r : Rn) : Blk (World.setCell (World.setCell (World.setCell (World.setCell (World.setCell (World.setCell w ⟨g, o, none⟩ (.int .i64 r.id)) ⟨g, o + 1, none⟩ (.string r.name)) ⟨g, o + 2, none⟩ (.string r.club)) ⟨g, o + 3, none⟩ (.int .i64 r.born)) ⟨g, o + 4, none⟩ (.bool r.woman)) ⟨g, o + 5, none⟩ (.int .i64 r.card)) g t (put6 cs o r) := (((((h.set_ o _).set_ (o + 1) _).set_ (o + 2) _).set_ (o + 3) _).set_ (o + 4) _).set_ (o + 5) _
theorem below_put6 {B g : Nat} {w0 w : World} (h : Below B w0 w) (hg : B ≤ g) (o : Nat) (r : Rn) : Below B w0 (World.setCell (World.setCell (World.setCell (World.setCell (World.setCell (World.setCell w ⟨g, o, none⟩ (.int .i64 r.id)) ⟨g, o + 1, none⟩ (.string r.name)) ⟨g, o + 2, none⟩ (.string r.club)) ⟨g, o + 3, none⟩ (.int .i64 r.born)) ⟨g, o + 4, none⟩ (.bool r.woman)) ⟨g, o + 5, none⟩ (.int .i64 r.card)) :=
  Below.setCell (Below.setCell (Below.setCell (Below.setCell (Below.setCell (Below.setCell h hg _) hg _) hg _) hg _) hg _) hg _
/-- make([]T, n) for elements of s cells. -/
theorem run_make_st {P : Program} (t e : TypeId) (z : Value) (s bytes : Nat) (ht : P.underlying t = some (.slice e)) (hinfo : (P.info? e).map (fun i => (i.zero, i.size, i.bytes)) = some (some z, s, bytes))
    (kl kc : IntKind) (n : Nat) (hbytes : bytes * n ≤ 281474976710656) (h63 : n ≤ 9223372036854775807) (w : World) :
    (Instr.makeSlice t (.int kl (n : Int)) (.int kc (n : Int))).run P w = .ok (.slice (some ⟨w.heap.size, 0, none⟩) n n) (w.alloc (.cells (madeCells z.cells (n * s)) e)) := by
  obtain ⟨i, hi, hzz⟩ := Option.map_eq_some_iff.1 hinfo
  simp only [Prod.mk.injEq] at hzz
  obtain ⟨hz, hs, hb⟩ := hzz
  have hb' : (i.bytes : Int) * (n : Int) ≤ 281474976710656 := by
    have h : ((i.bytes * n : Nat) : Int) ≤ 281474976710656 := by rw [hb]; omega
    rwa [Int.natCast_mul] at h
  have hr := run_make (P := P) w t e i z ht hi hz kl kc n n (by omega) (Int.le_refl _) hb' (by omega)
  simp only [Int.toNat_natCast, hs] at hr
  exact hr
def rsz (l : List Rn) : Nat := (l.map fun r => r.name.size + r.club.size).sum
theorem rsz_take {l : List Rn} {k : Nat} (hk : k < l.length) : rsz (l.take (k + 1)) = rsz (l.take k) + (l[k].name.size + l[k].club.size) := by
  unfold rsz
  rw [List.take_succ_eq_append_getElem hk, List.map_append, List.sum_append]
  congr 1
theorem rsz_le (l : List Rn) (k : Nat) : rsz (l.take k) ≤ rsz l := by
  have : rsz l = rsz (l.take k) + rsz (l.drop k) := by
    unfold rsz
    rw [← List.sum_append, ← List.map_append, List.take_append_drop]
  omega
def szR (n t : Nat) : Int := if 1048576 < n + t then -1 else 1048576 - (n : Int) - (t : Int)
set_option maxHeartbeats 1000000 in
theorem szRunnerS_any {A : Option Addr} {n c : Nat} {l : List Rn} {w : World} (hA : Rd w w.heap.size 6 A n (rns l)) (hn : n ≤ maxLen) (hs : ∀ r ∈ l, r.name.size ≤ maxLen ∧ r.club.size ≤ maxLen) :
    Calls Try.prog 12 #[.slice A n c, .int .i64 1048576] w fun e w' => e = .returned (.int .i64 (szR n (rsz l))) ∧ Below w.heap.size w w' := by
  unfold maxLen at hn
  have HX := Lib.hid hA.rlen
  have HS := Lib.hid hs
  clear hs
  have hw : IntKind.i64.wrap (1048576 - (n : Int)) = 1048576 - (n : Int) := IntWalk.i64_in _ (by omega)
  by_cases h : 1048576 < n
  · have h9 : ((1048576 : Int) - (n : Int)) < 0 := by omega
    have HR : Hid (szR n (rsz l) = -1) := by show _ = _; unfold szR; rw [if_pos (by omega)]
    go_enter Try.func12, Try.ntmps12
    go_wp2_with fail
    go_ret
    exact ⟨ret_int HR.out.symm, Below.refl _ _⟩
  · have h9 : ¬ ((1048576 : Int) - (n : Int)) < 0 := by omega
    have h8 : decide (((1048576 : Int) - (n : Int)) < 0) = false := by simp; omega
    go_enter Try.func12, Try.ntmps12
    go_wp2_with fail
    go_loopw [1, 5] (fun q i wr => ∃ k : Nat, k ≤ n ∧ i = .int .i64 k ∧ n + rsz (l.take k) ≤ 1048576 ∧ q = .int .i64 (1048576 - (n : Int) - (rsz (l.take k) : Int)) ∧ Below w.heap.size w wr) (fun _ i _ => n - (intOf i).toNat)
    case atStart => exact ⟨0, Nat.zero_le _, rfl, by simp [rsz]; omega, by simp [rsz], Below.refl _ _⟩
    case round =>
      obtain ⟨k, hk, rfl, hle, rfl, G⟩ := hrel
      by_cases hlt : k < n
      · obtain ⟨b, off, rfl, hbb, hca⟩ := hA.rn (show 0 < n by omega)
        have kx : k < l.length := by rw [HX.out]; exact hlt
        obtain ⟨c0, c1, c2, c3, c4, c5⟩ := (hca k kx).below G hbb
        have HT := Lib.hid (rsz_take kx)
        have hrs := HS.out l[k] (List.getElem_mem kx)
        have hle2 := Lib.hid (rsz_le l (k + 1))
        generalize hr : l[k] = r at *
        clear hca hr
        go_wp2_with fail
        refine (szRunner_any r (1048576 - (n : Int) - (rsz (l.take k) : Int)) _ hrs.1 hrs.2 (by omega) (by omega)).mono ?_
        rintro e w1 ⟨rfl, hb⟩
        clear c0 c1 c2 c3 c4 c5
        replace G := G.trans (hb.mono G.size)
        by_cases hbig : (1048576 - (n : Int) - (rsz (l.take k) : Int)) < (r.name.size + r.club.size : Nat)
        · have HR : Hid (szR n (rsz l) = -1) := by
            show _ = _
            have h1 := HT.out
            have h2 := hle2.out
            unfold szR
            rw [if_pos (by omega)]
          rw [if_pos (by omega)]
          go_wp2_with fail
          go_ret
          exact ⟨ret_int HR.out.symm, G⟩
        · rw [if_neg (by omega)]
          have hnn : ¬ (1048576 - (n : Int) - (rsz (l.take k) : Int) - (r.name.size : Int) - (r.club.size : Int)) < 0 := by omega
          have hnd : decide ((1048576 - (n : Int) - (rsz (l.take k) : Int) - (r.name.size : Int) - (r.club.size : Int)) < 0) = false := by simp; omega
          go_wp2_with fail
          go_roundw
          case rel => exact ⟨k + 1, by omega, by go_num, by have := HT.out; omega, by congr 1; have := HT.out; omega, G⟩
          case measure => simp [intOf]; omega
      · have hkn : k = n := by omega
        have HR : Hid (szR n (rsz l) = 1048576 - (n : Int) - (rsz (l.take k) : Int)) := by
          show _ = _
          have e : l.take k = l := List.take_of_length_le (by rw [HX.out]; omega)
          rw [e] at hle ⊢
          unfold szR
          rw [if_neg (by omega)]
        clear hkn
        go_wp2_with fail
        go_ret
        exact ⟨ret_int HR.out.symm, G⟩
theorem rn_info : (Try.prog.info? 30).map (fun i => (i.zero, i.size, i.bytes)) = some (some (.agg #[.int .i64 0, .string ByteArray.empty, .string ByteArray.empty, .int .i64 0, .bool false, .int .i64 0]), 6, 64) := by kernel_rfl
set_option maxHeartbeats 1000000 in
theorem toRunnerS_b {A : Option Addr} {n c : Nat} {l : List Rn} {w : World} (hA : Rd w w.heap.size 6 A n (rns l)) (hn : n ≤ 1048576) :
    Calls Try.prog 14 #[.slice A n c] w fun e w' => ∃ g, e = .returned (.slice (some ⟨g, 0, none⟩) n n) ∧ Blk w' g 30 (rns l) ∧ w.heap.size ≤ g ∧ Below w.heap.size w w' := by
  have HX := Lib.hid hA.rlen
  have hmk := run_make_st (P := Try.prog) 25 30 (.agg #[.int .i64 0, .string ByteArray.empty, .string ByteArray.empty, .int .i64 0, .bool false, .int .i64 0]) 6 64 Try.underlying25 rn_info .i64 .i64 n (by omega) (by omega)
  go_enter Try.func14, Try.ntmps14
  go_wp2_with fail
  go_loopw [4] (fun i wr => ∃ k : Nat, k ≤ n ∧ i = .int .i64 k ∧ (∃ cs : List Value, Blk wr w.heap.size 30 cs ∧ cs.length = n * 6 ∧ cs.take (k * 6) = (rns l).take (k * 6)) ∧ Below w.heap.size w wr) (fun i _ => n - (intOf i).toNat)
  case atStart => exact ⟨0, Nat.zero_le _, rfl, ⟨_, Blk.new w 30 (madeCells #[.int .i64 0, .string ByteArray.empty, .string ByteArray.empty, .int .i64 0, .bool false, .int .i64 0] (n * 6)).toList, by simp [size_madeCells], by simp⟩, (by repeat (first | exact Below.refl _ _ | refine below_drewN ?_ _ | refine Below.drew ?_ | refine Below.alloc ?_ (by first | omega | (simp; done) | (simp; omega)) _ | refine Below.setCell ?_ (by first | omega | (simp; done) | (simp; omega)) _))⟩
  case round =>
    obtain ⟨k, hk, rfl, ⟨cs, O, hcl, ht⟩, G⟩ := hrel
    have HT := Lib.hid ht
    have HC := Lib.hid hcl
    clear ht hcl
    by_cases hlt : k < n
    · obtain ⟨b, off, rfl, hbb, hca⟩ := hA.rn (show 0 < n by omega)
      have kx : k < l.length := by rw [HX.out]; exact hlt
      obtain ⟨c0, c1, c2, c3, c4, c5⟩ := (hca k kx).below G hbb
      have HPT := Lib.hid (put6_take (l := l) (cs := cs) (j := k) (by rw [HC.out, HX.out]) kx HT.out)
      generalize hr : l[k] = r at *
      clear hca hr
      go_wp2_with fail
      refine (toRunner_any r _).mono ?_
      rintro e w1 ⟨rfl, hw⟩
      have hb : Below wr.heap.size wr w1 := by rw [hw]; exact (by repeat (first | exact Below.refl _ _ | refine below_drewN ?_ _ | refine Below.drew ?_ | refine Below.alloc ?_ (by first | omega | (simp; done) | (simp; omega)) _ | refine Below.setCell ?_ (by first | omega | (simp; done) | (simp; omega)) _))
      clear hw
      replace O := O.on hb
      replace G := G.trans (hb.mono G.size)
      clear c0 c1 c2 c3 c4 c5 hb
      have lc : k * 6 + 5 < cs.length := by have := HC.out; omega
      have d0 : w1.cell? ⟨w.heap.size, k * 6, none⟩ = some cs[k * 6] := by rw [O.cell]; simp
      have d1 : w1.cell? ⟨w.heap.size, k * 6 + 1, none⟩ = some cs[k * 6 + 1] := by rw [O.cell]; simp
      have d2 : w1.cell? ⟨w.heap.size, k * 6 + 2, none⟩ = some cs[k * 6 + 2] := by rw [O.cell]; simp
      have d3 : w1.cell? ⟨w.heap.size, k * 6 + 3, none⟩ = some cs[k * 6 + 3] := by rw [O.cell]; simp
      have d4 : w1.cell? ⟨w.heap.size, k * 6 + 4, none⟩ = some cs[k * 6 + 4] := by rw [O.cell]; simp
      have d5 : w1.cell? ⟨w.heap.size, k * 6 + 5, none⟩ = some cs[k * 6 + 5] := by rw [O.cell]; simp
      have f0 := O.frozen (k * 6)
      have f1 := O.frozen (k * 6 + 1)
      have f2 := O.frozen (k * 6 + 2)
      have f3 := O.frozen (k * 6 + 3)
      have f4 := O.frozen (k * 6 + 4)
      have f5 := O.frozen (k * 6 + 5)
      go_wp2_with fail
      go_roundw
      case rel => exact ⟨k + 1, by omega, by go_num, ⟨put6 cs (k * 6) r, O.put6 (k * 6) r, (put6_len _ _ _).trans HC.out, HPT.out⟩, below_put6 G (Nat.le_refl _) (k * 6) r⟩
      case measure => simp [intOf]; omega
    · go_wp2_with fail
      go_ret
      have e : cs = rns l := by
        have := HT.out
        rwa [List.take_of_length_le (by rw [HC.out]; omega), List.take_of_length_le (by rw [rns_len, HX.out]; omega)] at this
      subst e
      exact ⟨_, rfl, O, Nat.le_refl _, G⟩
set_option maxHeartbeats 1000000 in
theorem eqRunner_same (r : Rn) (w : World) : Calls Try.prog 19 #[.agg #[.int .i64 r.id, .string r.name, .string r.club, .int .i64 r.born, .bool r.woman, .int .i64 r.card], .agg #[.int .i64 r.id, .string r.name, .string r.club, .int .i64 r.born, .bool r.woman, .int .i64 r.card]] w fun e w' => e = .returned (.bool true) ∧ Below w.heap.size w w' := by
  have n0 : (r.id != r.id) = false := by simp
  have n3 : (r.born != r.born) = false := by simp
  have n4 : (r.woman != r.woman) = false := by simp
  have n5 : (r.card != r.card) = false := by simp
  go_enter Try.func19, Try.ntmps19
  go_wp2_with fail
  go_ret
  exact ⟨rfl, (by repeat (first | exact Below.refl _ _ | refine below_drewN ?_ _ | refine Below.drew ?_ | refine Below.alloc ?_ (by first | omega | (simp; done) | (simp; omega)) _ | refine Below.setCell ?_ (by first | omega | (simp; done) | (simp; omega)) _))⟩
theorem eqRunnerS_b {A B : Option Addr} {n c d : Nat} {l : List Rn} {w : World} (hA : Rd w w.heap.size 6 A n (rns l)) (hB : Rd w w.heap.size 6 B n (rns l)) (hn : n ≤ 1048576) :
    Calls Try.prog 16 #[.slice A n c, .slice B n d] w fun e w' => e = .returned (.bool true) ∧ Below w.heap.size w w' := by
  have HX := Lib.hid hA.rlen
  have hne : ((n : Int) != (n : Int)) = false := by simp
  go_enter Try.func16, Try.ntmps16
  go_wp2_with fail
  go_loopw [5] (fun i wr => ∃ k : Nat, k ≤ n ∧ i = .int .i64 k ∧ Below w.heap.size w wr) (fun i _ => n - (intOf i).toNat)
  case atStart => exact ⟨0, Nat.zero_le _, rfl, Below.refl _ _⟩
  case round =>
    obtain ⟨k, hk, rfl, G⟩ := hrel
    by_cases hlt : k < n
    · obtain ⟨b, off, rfl, hbb, hca⟩ := hA.rn (show 0 < n by omega)
      obtain ⟨b2, off2, rfl, hbb2, hca2⟩ := hB.rn (show 0 < n by omega)
      have kx : k < l.length := by rw [HX.out]; exact hlt
      have c1 := hca k kx
      have c2 := hca2 k kx
      generalize hr : l[k] = r at *
      clear hca hca2 hr
      go_wp2_with fail
      refine wp_region_held_drew (S := fun w' => Below w.heap.size w w') (by kernel_rfl) ?_ (fun hHeld => ?_)
      · (try dsimp only)
        first | exact G.drew | exact hHeld.trans (hb6.mono hHeld.size)
      refine rgTake (i := 0) (d := 17) (v := ?_) rfl rfl (by kernel_rfl) (by kernel_rfl) (by kernel_rfl) (fun _ _ _ h => h) (by rfl) ?_ (by assumption) ?_
      rotate_left
      · ((intro w hSw); (try dsimp only at hSw); go_simp; (try with_reducible rfl))
      try simp only [Act.put, List.setIfInBounds_toArray, List.set_cons_zero, List.set_cons_succ]
      refine rgTake (i := 1) (d := 18) (v := ?_) rfl rfl (by kernel_rfl) (by kernel_rfl) (by kernel_rfl) (fun _ _ _ h => h) (by rfl) ?_ (by assumption) ?_
      rotate_left
      · ((intro w hSw); (try dsimp only at hSw); go_simp; (try with_reducible rfl))
      try simp only [Act.put, List.setIfInBounds_toArray, List.set_cons_zero, List.set_cons_succ]
      refine rgTake (i := 2) (d := 19) (v := ?_) rfl rfl (by kernel_rfl) (by kernel_rfl) (by kernel_rfl) (fun _ _ _ h => h) (by rfl) ?_ (by assumption) ?_
      rotate_left
      · ((intro w hSw); (try dsimp only at hSw); go_simp; (try with_reducible rfl))
      try simp only [Act.put, List.setIfInBounds_toArray, List.set_cons_zero, List.set_cons_succ]
      refine rgTake (i := 3) (d := 20) (v := ?_) rfl rfl (by kernel_rfl) (by kernel_rfl) (by kernel_rfl) (fun _ _ _ h => h) (by rfl) ?_ (by assumption) ?_
      rotate_left
      · ((intro w hSw); (try dsimp only at hSw); (obtain ⟨z0, z1, z2, z3, z4, z5⟩ := c1.below hSw hbb; obtain ⟨y0, y1, y2, y3, y4, y5⟩ := c2.below hSw hbb2); go_simp; (try with_reducible rfl))
      try simp only [Act.put, List.setIfInBounds_toArray, List.set_cons_zero, List.set_cons_succ]
      refine rgTake (i := 4) (d := 21) (v := ?_) rfl rfl (by kernel_rfl) (by kernel_rfl) (by kernel_rfl) (fun _ _ _ h => h) (by rfl) ?_ (by assumption) ?_
      rotate_left
      · ((intro w hSw); (try dsimp only at hSw); go_simp; (try with_reducible rfl))
      try simp only [Act.put, List.setIfInBounds_toArray, List.set_cons_zero, List.set_cons_succ]
      refine rgTake (i := 5) (d := 22) (v := ?_) rfl rfl (by kernel_rfl) (by kernel_rfl) (by kernel_rfl) (fun _ _ _ h => h) (by rfl) ?_ (by assumption) ?_
      rotate_left
      · ((intro w hSw); (try dsimp only at hSw); go_simp; (try with_reducible rfl))
      try simp only [Act.put, List.setIfInBounds_toArray, List.set_cons_zero, List.set_cons_succ]
      refine rgTake (i := 6) (d := 23) (v := ?_) rfl rfl (by kernel_rfl) (by kernel_rfl) (by kernel_rfl) (fun _ _ _ h => h) (by rfl) ?_ (by assumption) ?_
      rotate_left
      · ((intro w hSw); (try dsimp only at hSw); go_simp; (try with_reducible rfl))
      try simp only [Act.put, List.setIfInBounds_toArray, List.set_cons_zero, List.set_cons_succ]
      refine rgTake (i := 7) (d := 24) (v := ?_) rfl rfl (by kernel_rfl) (by kernel_rfl) (by kernel_rfl) (fun _ _ _ h => h) (by rfl) ?_ (by assumption) ?_
      rotate_left
      · ((intro w hSw); (try dsimp only at hSw); (obtain ⟨z0, z1, z2, z3, z4, z5⟩ := c1.below hSw hbb; obtain ⟨y0, y1, y2, y3, y4, y5⟩ := c2.below hSw hbb2); go_simp; (try with_reducible rfl))
      try simp only [Act.put, List.setIfInBounds_toArray, List.set_cons_zero, List.set_cons_succ]
      refine wpAnyH_ready (rs := [8]) (by kernel_rfl) (by simp) ?_
      refine AllReadyH.cons rfl (fun K hK => ?_) AllReadyH.nil
      go_simp
      refine (eqRunner_same r _).mono ?_; rintro e wy ⟨rfl, hb6⟩
      go_wp2_with fail
      refine hK.out _ _ ?_ (fun hHeld => ?_)
      · (try dsimp only)
        first | exact G.drew | exact hHeld.trans (hb6.mono hHeld.size)
      clear hK K
      try simp only [Act.put, List.setIfInBounds_toArray, List.set_cons_zero, List.set_cons_succ]
      refine rgTake (i := 9) (d := 26) (v := ?_) rfl rfl (by kernel_rfl) (by kernel_rfl) (by kernel_rfl) (fun _ _ _ h => h) (by rfl) ?_ (by assumption) ?_
      rotate_left
      · ((intro w hSw); (try dsimp only at hSw); go_simp; (try with_reducible rfl))
      try simp only [Act.put, List.setIfInBounds_toArray, List.set_cons_zero, List.set_cons_succ]
      refine wpAnyH_done (by kernel_rfl) ?_ _
      go_wp2_with fail
      go_roundw
      case rel => exact ⟨k + 1, by omega, by go_num, hHeld⟩
      case measure => simp [intOf]; omega
    · go_wp2_with fail
      go_ret
      exact ⟨rfl, G⟩
end Go.Proofs.Ytmcldakdefeepaa
