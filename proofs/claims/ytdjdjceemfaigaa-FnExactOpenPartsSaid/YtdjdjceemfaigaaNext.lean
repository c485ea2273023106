/- Contracts: the cells next to a cell, by the program and by the reference. -/
import Derived.Test.YtdjdjceemfaigaaNextMath
import Derived.Test.YtdjdjceemfaigaaCh
import Derived.Deep.DeepCutAuto
namespace Go.Proofs.Ytdjdjceemfaigaa
set_option linter.unusedVariables false
set_option linter.unusedSimpArgs false
open Go.RowKit
theorem cast_snoc (l : List Nat) (k : Nat) : cast l ++ [(k : Int)] = cast (l ++ [k]) := by simp [cast]
/-- The first j of a filter over a range. -/
theorem range_filter_succ (p : Nat → Bool) (j : Nat) : (List.range (j + 1)).filter p = (List.range j).filter p ++ (if p j then [j] else []) := by
  rw [List.range_succ, List.filter_append]
  cases h : p j <;> simp [h]
def nextP (m : Mp) (c : Int) (k : Nat) : Bool := openAt m k && decide (gapV m.wd c k = 1)
set_option maxHeartbeats 2000000 in
theorem cellsNextTo_any {m : Mp} {v : Value} {c : Int} {w : World} (hv : MapIn w m v) (V : Valid m) (hc : 0 ≤ c) (hc2 : c < m.co.length) :
    Calls Try.prog 18 #[v, .int .i64 c] w fun e w' => ∃ A cp, e = .returned (.slice A (nextI m c).length cp) ∧ w'.ownsRow w.heap.size 3 1 (.slice A (nextI m c).length cp) (nextI m c).length (ints (nextI m c)) ∧ Below w.heap.size w w' := by
  have hv' := hv
  obtain ⟨A, n, cp, B, k, d, rfl, h1, h2, h3, h4⟩ := hv
  obtain ⟨i0, hi0, hz0, hz1, hz2⟩ := info_parts int_info
  have HL := Lib.hid h2.len
  have hk36 : k ≤ 36 := by have := V.n36; have := h2.len; omega
  have hw1 := V.w1
  have hw6 := V.w6
  have hck : c < (k : Int) := by have := HL.out; omega
  have HE : Hid (nextI m c = cast ((List.range k).filter (nextP m c))) := by
    show nextI m c = _
    unfold nextI nextN nextP
    rw [HL.out, Int.toNat_of_nonneg hc]
  go_enter Try.func18, Try.ntmps18
  go_wp2_with fail
  go_loopw [5, 12] (fun o i wr => ∃ j : Nat, j ≤ k ∧ i = .int .i64 j ∧ wr.ownsRow (w.heap.size + 1) 3 1 o ((List.range j).filter (nextP m c)).length (ints (cast ((List.range j).filter (nextP m c)))) ∧ Blk wr w.heap.size 29 [.int .i64 m.wd, .int .i64 m.ht, .slice A n cp, .slice B k d] ∧ Below w.heap.size w wr) (fun _ i _ => k - (intOf i).toNat)
  case atStart =>
    refine ⟨0, Nat.zero_le _, rfl, ?_, ?_, (by repeat (first | exact Below.refl _ _ | refine below_drewN ?_ _ | refine Below.drew ?_ | refine Below.alloc ?_ (by first | omega | (simp; done) | (simp; omega)) _ | refine Below.setCell ?_ (by first | omega | (simp; done) | (simp; omega)) _))⟩
    · have := World.ownsRow_lit (base := w.heap.size + 1) (size := 1) (e := 3) (w.alloc (.cells #[.int .i64 m.wd, .int .i64 m.ht, .slice A n cp, .slice B k d] 29)) #[] 0 (by simp) (by simp) rfl
      simpa [ints, cast] using this
    · exact (Blk.new w 29 [.int .i64 m.wd, .int .i64 m.ht, .slice A n cp, .slice B k d]).alloc _
  case round =>
    obtain ⟨j, hj, rfl, hown, K, hbel⟩ := hrel
    obtain ⟨k0, k1, k2, k3⟩ := blk4 K
    have hlj : ((List.range j).filter (nextP m c)).length ≤ j := by have := List.length_filter_le (nextP m c) (List.range j); simpa using this
    by_cases hlt : j < k
    · obtain ⟨y, oy, rfl, _, hy⟩ := Rd.int (Rd.on h2 hbel) hlt
      have kj : j < m.co.length := by rw [HL.out]; exact hlt
      have c3 := hy j kj
      rw [← coA_nat] at c3
      clear hy
      have HS := Lib.hid (range_filter_succ (nextP m c) j)
      by_cases hpos : 0 < coA m j
      · by_cases hg : gapV m.wd c j = 1
        · have hp : nextP m c j = true := by unfold nextP openAt; simp [hpos, hg]
          have hge : (gapV m.wd c j == 1) = true := by simp [hg]
          have HG := Lib.hid hp
          clear hg hp
          generalize coA m j = cj at *
          go_wp2_with fail
          refine (gapOf_any (m := m) (by exact hv'.on hbel) hw1 hw6 hc (by omega) (by omega) (by omega)).mono ?_
          rintro e w1 ⟨rfl, hb1⟩
          have hown1 := own_below hown hb1
          have K1 := K.on hb1
          have hk1 := K1.lt
          have hbelx := hbel.trans (hb1.mono hbel.size)
          clear hown K hbel hb1 k0 k1 k2 k3
          go_wp2_with (at_builtin; refine wpList_append_own _ rfl _ _ 22 rfl (w.heap.size + 1) 3 i0 (.int .i64 0) 1 8 Try.underlying22 hi0 hz0 hz1 hz2 rfl (by decide) _ _ _ rfl (hown1.alloc _) ⟨w1.heap.size, 0, none⟩ 1 1 [.int .i64 ((j : Int))] rfl rfl ?c1 ?c2 ?c3 ?c4 ?c5 ?_)
          case c1 => exact cell_one_new (w1) _ _
          case c2 => intro u hu; simp at hu; subst hu; rfl
          case c3 => simp only [maxLen]; omega
          case c4 => omega
          case c5 => simp; omega
          intro v2 w2 own1 grow1 _
          have bel1 : Below w.heap.size w w2 := (Below.alloc (hbelx) (by have := (hbelx).size; omega) _).grown grow1 (by have := (hbelx).size; simp; omega) (fun j hj => by have := (hown1.lt j hj).1; omega)
          have e1 : ints (cast ((List.range j).filter (nextP m c))) ++ [Value.int .i64 ((j : Int))] = ints (cast ((List.range j).filter (nextP m c)) ++ [(j : Int)]) := by simp [ints]
          rw [e1] at own1
          clear e1
          rw [cast_snoc] at own1
          have K2 := K1.alloc (.cells #[.int .i64 (j : Int)] 3) |>.grown grow1 (by
            intro h; have := (hown1.lt _ h.symm).1; omega)
          have hlf : ((List.range (j + 1)).filter (nextP m c)) = (List.range j).filter (nextP m c) ++ [j] := by rw [HS.out, HG.out]; rfl
          have HF := Lib.hid hlf
          clear hown1 K1 grow1 hbelx hlf
          go_wp2_with fail
          go_roundw
          case rel => exact ⟨j + 1, by omega, by go_num, by rw [HF.out, List.length_append]; exact own1, K2, bel1⟩
          case measure => simp [intOf]; omega
        · have hp : nextP m c j = false := by unfold nextP openAt; simp [hg]
          have hge : (gapV m.wd c j == 1) = false := by simp [hg]
          have HG := Lib.hid hp
          clear hg hp
          generalize coA m j = cj at *
          go_wp2_with fail
          refine (gapOf_any (m := m) (by exact hv'.on hbel) hw1 hw6 hc (by omega) (by omega) (by omega)).mono ?_
          rintro e w1 ⟨rfl, hb1⟩
          have hown1 := own_below hown hb1
          have K1 := K.on hb1
          have hbelx := hbel.trans (hb1.mono hbel.size)
          have hlf : ((List.range (j + 1)).filter (nextP m c)) = (List.range j).filter (nextP m c) := by rw [HS.out, HG.out]; simp
          have HF := Lib.hid hlf
          clear hown K hbel hb1 k0 k1 k2 k3 hlf
          go_wp2_with fail
          go_roundw
          case rel => exact ⟨j + 1, by omega, by go_num, by rw [HF.out]; exact hown1, K1, hbelx⟩
          case measure => simp [intOf]; omega
      · have hp : nextP m c j = false := by unfold nextP openAt; simp [hpos]
        have hpd : decide (0 < coA m j) = false := by simpa using hpos
        have hlf : ((List.range (j + 1)).filter (nextP m c)) = (List.range j).filter (nextP m c) := by rw [HS.out, hp]; simp
        have HF := Lib.hid hlf
        clear hp hlf
        generalize coA m j = cj at *
        go_wp2_with fail
        go_roundw
        case rel => exact ⟨j + 1, by omega, by go_num, by rw [HF.out]; exact hown, K, hbel⟩
        case measure => simp [intOf]; omega
    · have hjk : j = k := by omega
      have HJ := Lib.hid hjk
      clear hjk
      obtain ⟨A', c', rfl⟩ := own_form hown
      go_wp2_with fail
      go_ret
      have hjk := HJ.out
      subst hjk
      rw [HE.out, cast_len]
      exact ⟨A', c', rfl, own_le hown (by omega), hbel⟩
end Go.Proofs.Ytdjdjceemfaigaa
