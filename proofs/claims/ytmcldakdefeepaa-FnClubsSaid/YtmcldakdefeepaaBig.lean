/- Contracts: BiggestClub, the program's and the reference's. -/
import Derived.Test.YtmcldakdefeepaaClu
namespace Go.Proofs.Ytmcldakdefeepaa
set_option linter.unusedVariables false
set_option linter.unusedSimpArgs false
open Go.RowKit
def cntC (l : List Rn) (c : ByteArray) : Nat := (idsL l (fun r => cmB r.club c) l.length).length
theorem cntC_le (l : List Rn) (c : ByteArray) : cntC l c ≤ l.length := idsL_len l _ _
def bigStep (l : List Rn) (s : ByteArray × Nat) (c : ByteArray) : ByteArray × Nat := if s.2 < cntC l c then (c, cntC l c) else s
def bigK (l : List Rn) (k : Nat) : ByteArray × Nat := ((cluB l).take k).foldl (bigStep l) (ByteArray.empty, 0)
theorem bigK_succ {l : List Rn} {k : Nat} (hk : k < (cluB l).length) : bigK l (k + 1) = bigStep l (bigK l k) (cluB l)[k] := by
  unfold bigK
  rw [List.take_succ_eq_append_getElem hk, List.foldl_append]; rfl
theorem bigStep_le (l : List Rn) (s : ByteArray × Nat) (c : ByteArray) (h : s.2 ≤ l.length) : (bigStep l s c).2 ≤ l.length := by
  unfold bigStep
  split
  · exact cntC_le l c
  · exact h
theorem bigF_le (l : List Rn) : ∀ (cs : List ByteArray) (s : ByteArray × Nat), s.2 ≤ l.length → (cs.foldl (bigStep l) s).2 ≤ l.length
  | [], _, h => h
  | c :: cs, s, h => bigF_le l cs _ (bigStep_le l s c h)
theorem bigK_le (l : List Rn) (k : Nat) : (bigK l k).2 ≤ l.length := bigF_le l _ _ (Nat.zero_le _)
def bigOk (l : List Rn) : Bool := okRns l && !decide (l.length = 0)
def bigC (l : List Rn) : ByteArray := if bigOk l = true then (bigK l (cluB l).length).1 else ByteArray.empty
def bigM (l : List Rn) : Int := if bigOk l = true then ((bigK l (cluB l).length).2 : Int) else 0
set_option maxHeartbeats 1000000 in
theorem Big1 {l : List Rn} {s : ByteArray} {g1 : Nat} {w : World} (K1 : Blk w g1 9 [.string s]) :
    FnPredR Try.prog 64 #[.pointer (some ⟨g1, 0, none⟩)] (fun r => cmB r.club s) l w := by
  intro r hr W hb
  have c1 : W.cell? ⟨g1, 0, none⟩ = some (.string s) := (K1.on hb).cell 0
  have l1 := (K1.on hb).lt
  go_enter Try.func64, Try.ntmps64
  go_wp2_with fail
  go_ret
  exact ⟨rfl, (by repeat (first | exact Below.refl _ _ | refine below_drewN ?_ _ | refine Below.drew ?_ | refine Below.alloc ?_ (by first | omega | (simp; done) | (simp; omega)) _ | refine Below.setCell ?_ (by first | omega | (simp; done) | (simp; omega)) _))⟩
set_option maxRecDepth 100000 in
set_option maxHeartbeats 4000000 in
theorem BiggestClub_impl {bl off q cq : Nat} {l : List Rn} {w : World} (hR : Rd w w.heap.size 6 (some ⟨bl, off, none⟩) q (rns l)) (hq : q ≤ 1048576) (hqc : q ≤ cq) (hs : ∀ r ∈ l, r.name.size ≤ maxLen ∧ r.club.size ≤ maxLen) :
    Calls Try.prog 36 #[.slice (some ⟨bl, off, none⟩) q cq] w fun e w' => e = .returned (.tuple #[.string (bigC l), .int .i64 (bigM l), .bool (bigOk l)]) ∧ Below w.heap.size w w' := by
  have HSZ := Lib.hid hs
  have HQ := Lib.hid hR.rlen
  clear hs
  have G := Below.refl w.heap.size w
  have NEG : bigOk l = false → bigC l = ByteArray.empty ∧ bigM l = 0 := fun h => by unfold bigC bigM; rw [h]; exact ⟨rfl, rfl⟩
  have POS : bigOk l = true → bigC l = (bigK l (cluB l).length).1 ∧ bigM l = ((bigK l (cluB l).length).2 : Int) := fun h => by unfold bigC bigM; rw [h]; exact ⟨rfl, rfl⟩
  cases hok : okRns l
  · have e1 : bigOk l = false := by unfold bigOk; rw [hok]; rfl
    obtain ⟨e2, e3⟩ := NEG e1
    rw [e1, e2, e3]; clear e1 e2 e3 NEG POS
    have HOK := Lib.hid hok
    clear hok
    go_enter Try.func36, Try.ntmps36
    go_wp2_with fail
    refine (AreRunners_impl (hR.on G) hq hqc HSZ.out).mono ?_
    rintro e w1 ⟨rfl, hb⟩
    replace G := G.trans (hb.mono G.size)
    clear hb
    rw [HOK.out]
    go_wp2_with fail
    go_ret3
    exact ⟨rfl, G⟩
  · have HOK := Lib.hid hok
    by_cases hq0 : q = 0
    · have e1 : bigOk l = false := by unfold bigOk; rw [HQ.out, hq0]; simp
      obtain ⟨e2, e3⟩ := NEG e1
      rw [e1, e2, e3]; clear e1 e2 e3 NEG POS
      clear hok
      subst hq0
      go_enter Try.func36, Try.ntmps36
      go_wp2_with fail
      refine (AreRunners_impl (hR.on G) hq hqc HSZ.out).mono ?_
      rintro e w1 ⟨rfl, hb⟩
      replace G := G.trans (hb.mono G.size)
      clear hb
      rw [HOK.out]
      go_wp2_with fail
      go_ret3
      exact ⟨rfl, G⟩
    · have e1 : bigOk l = true := by unfold bigOk; rw [hok, HQ.out]; simp [hq0]
      obtain ⟨e2, e3⟩ := POS e1
      have E1 := Lib.hid e1
      have E2 := Lib.hid e2
      have E3 := Lib.hid e3
      have h10 : q ≤ 10 := by have := (okRns_iff hok).1; have := HQ.out; omega
      have hqi : ((q : Int) == 0) = false := by simp; omega
      clear hok NEG POS e1 e2 e3
      have e64 := enters_of (P := Try.prog) Try.func64 (by kernel_rfl) rfl
      go_enter Try.func36, Try.ntmps36
      go_wp2_with fail
      refine (AreRunners_impl (hR.on G) hq hqc HSZ.out).mono ?_
      rintro e w1 ⟨rfl, hb⟩
      replace G := G.trans (hb.mono G.size)
      clear hb
      rw [HOK.out]
      go_wp2_with fail
      refine (clubsOf_any (hR.on G) h10).mono ?_
      rintro e w9 ⟨A, cp, rfl, O9, hb⟩
      have O8 := own_le O9 G.size
      replace G := G.trans (hb.mono G.size)
      clear hb O9
      have hnl := cluB_len l
      generalize hn : (cluB l).length = n at *
      have HN := Lib.hid hn
      have hn10 : n ≤ 10 := by have := HQ.out; omega
      clear hn hnl hqi
      go_wp2_with fail
      go_loopw [5, 6, 21] (fun b m i wr => ∃ k : Nat, k ≤ n ∧ i = .int .i64 k ∧ b = .string (bigK l k).1 ∧ m = .int .i64 ((bigK l k).2 : Int) ∧ wr.ownsRow w.heap.size 9 1 (.slice A n cp) n (strs (cluB l)) ∧ Below w.heap.size w wr) (fun _ _ i _ => n - (intOf i).toNat)
      case atStart => exact ⟨0, Nat.zero_le _, rfl, rfl, rfl, O8, G⟩
      clear O8 G
      case round =>
        obtain ⟨k, hk, rfl, rfl, rfl, O, G⟩ := hrel
        by_cases hlt : k < n
        · obtain ⟨g, rfl, hg, hglt⟩ := own_at O (show 0 < n by omega)
          have kX : k < (cluB l).length := by rw [HN.out]; exact hlt
          have cell := own_scell O kX
          have hST := bigK_succ kX
          unfold bigStep at hST
          have hble := bigK_le l k
          have hct := cntC_le l (cluB l)[k]
          generalize (cluB l)[k] = c at *
          have HB0 : Hid (∀ p : Prop, p = p) := (show ∀ p : Prop, p = p from fun _ => rfl)
          generalize hb0 : (bigK l k).1 = b0 at *
          generalize hm0 : (bigK l k).2 = m0 at *
          have hpair : bigK l k = (b0, m0) := by rw [← hb0, ← hm0]
          rw [hpair] at hST
          have HCT : Hid (cntC l c = (idsL l (fun r => cmB r.club c) l.length).length) := (show _ = _ from rfl)
          have HST := Lib.hid hST
          have hm0q : m0 ≤ 10 := by rw [HQ.out] at hble; omega
          have hctq : cntC l c ≤ 10 := by rw [HQ.out] at hct; omega
          clear hST hb0 hm0 hpair hble hct HB0 kX
          have K1 := Blk.new wr 9 [.string c]
          have G1 : Below w.heap.size w (wr.alloc (.cells #[.string c] 9)) := G.alloc G.size _
          have O1 := O.alloc (.cells #[.string c] 9)
          clear O G
          go_wp2_with fail
          refine (idsOf_any e64 (Big1 K1) (hR.on G1) h10).mono ?_
          rintro e w7 ⟨A7, c7, rfl, O7, hb⟩
          rw [← HCT.out]
          have K2 := K1.on hb
          have O := own_below O1 hb
          have G := G1.trans (hb.mono G1.size)
          have k0 : w7.cell? ⟨wr.heap.size, 0, none⟩ = some (.string c) := K2.cell 0
          have k1 := K2.lt
          clear O7 hb K1 K2 O1 G1 cell
          by_cases hgt : m0 < cntC l c
          · have HS2 : Hid (bigK l (k + 1) = (c, cntC l c)) := by show _ = _; rw [HST.out, if_pos hgt]
            have hgi : (m0 : Int) < (cntC l c : Int) := by omega
            go_wp2_with fail
            go_roundw
            case rel => exact ⟨k + 1, by omega, by go_num, by rw [HS2.out], by rw [HS2.out], O, G⟩
            case measure => simp [intOf]; omega
          · have HS2 : Hid (bigK l (k + 1) = (b0, m0)) := by show _ = _; rw [HST.out, if_neg hgt]
            have hgi : ¬ (m0 : Int) < (cntC l c : Int) := by omega
            have hgd : decide ((m0 : Int) < (cntC l c : Int)) = false := by simp; omega
            go_wp2_with fail
            go_roundw
            case rel => exact ⟨k + 1, by omega, by go_num, by rw [HS2.out], by rw [HS2.out], O, G⟩
            case measure => simp [intOf]; omega
        · obtain rfl : k = n := by omega
          go_wp2_with fail
          go_ret3
          rw [E1.out, E2.out, E3.out]
          exact ⟨rfl, G⟩
set_option maxRecDepth 100000 in
set_option maxHeartbeats 4000000 in
theorem BiggestClub_spec {bl off q cq : Nat} {l : List Rn} {w : World} (hR : Rd w w.heap.size 6 (some ⟨bl, off, none⟩) q (rns l)) (hq : q ≤ 1048576) (hqc : q ≤ cq) (hs : ∀ r ∈ l, r.name.size ≤ maxLen ∧ r.club.size ≤ maxLen) :
    Calls Try.prog 35 #[.slice (some ⟨bl, off, none⟩) q cq] w fun e w' => e = .returned (.tuple #[.string (bigC l), .int .i64 (bigM l), .bool (bigOk l)]) ∧ Below w.heap.size w w' := by
  have HSZ := Lib.hid hs
  have HQ := Lib.hid hR.rlen
  clear hs
  have G := Below.refl w.heap.size w
  have NEG : bigOk l = false → bigC l = ByteArray.empty ∧ bigM l = 0 := fun h => by unfold bigC bigM; rw [h]; exact ⟨rfl, rfl⟩
  have POS : bigOk l = true → bigC l = (bigK l (cluB l).length).1 ∧ bigM l = ((bigK l (cluB l).length).2 : Int) := fun h => by unfold bigC bigM; rw [h]; exact ⟨rfl, rfl⟩
  cases hok : okRns l
  · have e1 : bigOk l = false := by unfold bigOk; rw [hok]; rfl
    obtain ⟨e2, e3⟩ := NEG e1
    rw [e1, e2, e3]; clear e1 e2 e3 NEG POS
    have HOK := Lib.hid hok
    clear hok
    go_enter Try.func35, Try.ntmps35
    go_wp2_with fail
    refine (l5Good_any (hR.on G) hq hqc HSZ.out).mono ?_
    rintro e w1 ⟨rfl, hb⟩
    replace G := G.trans (hb.mono G.size)
    clear hb
    rw [HOK.out]
    go_wp2_with fail
    go_ret3
    exact ⟨rfl, G⟩
  · have HOK := Lib.hid hok
    by_cases hq0 : q = 0
    · have e1 : bigOk l = false := by unfold bigOk; rw [HQ.out, hq0]; simp
      obtain ⟨e2, e3⟩ := NEG e1
      rw [e1, e2, e3]; clear e1 e2 e3 NEG POS
      clear hok
      subst hq0
      go_enter Try.func35, Try.ntmps35
      go_wp2_with fail
      refine (l5Good_any (hR.on G) hq hqc HSZ.out).mono ?_
      rintro e w1 ⟨rfl, hb⟩
      replace G := G.trans (hb.mono G.size)
      clear hb
      rw [HOK.out]
      go_wp2_with fail
      go_ret3
      exact ⟨rfl, G⟩
    · have e1 : bigOk l = true := by unfold bigOk; rw [hok, HQ.out]; simp [hq0]
      obtain ⟨e2, e3⟩ := POS e1
      have E1 := Lib.hid e1
      have E2 := Lib.hid e2
      have E3 := Lib.hid e3
      have h10 : q ≤ 10 := by have := (okRns_iff hok).1; have := HQ.out; omega
      have hqi : ((q : Int) == 0) = false := by simp; omega
      clear hok NEG POS e1 e2 e3
      go_enter Try.func35, Try.ntmps35
      go_wp2_with fail
      refine (l5Good_any (hR.on G) hq hqc HSZ.out).mono ?_
      rintro e w1 ⟨rfl, hb⟩
      replace G := G.trans (hb.mono G.size)
      clear hb
      rw [HOK.out]
      go_wp2_with fail
      refine (l5Clubs_any (hR.on G) h10).mono ?_
      rintro e w9 ⟨A, cp, rfl, O9, hb⟩
      have O8 := own_le O9 G.size
      replace G := G.trans (hb.mono G.size)
      clear hb O9
      have hnl := cluB_len l
      generalize hn : (cluB l).length = n at *
      have HN := Lib.hid hn
      have hn10 : n ≤ 10 := by have := HQ.out; omega
      clear hn hnl hqi
      go_wp2_with fail
      go_loopw [5, 6, 8] (fun b m i wr => ∃ k : Nat, k ≤ n ∧ i = .int .i64 k ∧ b = .string (bigK l k).1 ∧ m = .int .i64 ((bigK l k).2 : Int) ∧ wr.ownsRow w.heap.size 9 1 (.slice A n cp) n (strs (cluB l)) ∧ Below w.heap.size w wr) (fun _ _ i _ => n - (intOf i).toNat)
      case atStart => exact ⟨0, Nat.zero_le _, rfl, rfl, rfl, O8, G⟩
      clear O8 G
      case round =>
        obtain ⟨k, hk, rfl, rfl, rfl, O, G⟩ := hrel
        by_cases hlt : k < n
        · obtain ⟨g, rfl, hg, hglt⟩ := own_at O (show 0 < n by omega)
          have kX : k < (cluB l).length := by rw [HN.out]; exact hlt
          have cell := own_scell O kX
          have hST := bigK_succ kX
          unfold bigStep at hST
          have hble := bigK_le l k
          have hct := cntC_le l (cluB l)[k]
          generalize (cluB l)[k] = c at *
          have HB0 : Hid (∀ p : Prop, p = p) := (show ∀ p : Prop, p = p from fun _ => rfl)
          generalize hb0 : (bigK l k).1 = b0 at *
          generalize hm0 : (bigK l k).2 = m0 at *
          have hpair : bigK l k = (b0, m0) := by rw [← hb0, ← hm0]
          rw [hpair] at hST
          have HCT : Hid (cntC l c = (idsL l (fun r => cmB r.club c) l.length).length) := (show _ = _ from rfl)
          have HST := Lib.hid hST
          have hm0q : m0 ≤ 10 := by rw [HQ.out] at hble; omega
          have hctq : cntC l c ≤ 10 := by rw [HQ.out] at hct; omega
          clear hST hb0 hm0 hpair hble hct HB0 kX
          go_wp2_with fail
          refine (l5Members_any (hR.on G) h10).mono ?_
          rintro e w7 ⟨A7, c7, rfl, O7, hb⟩
          rw [← HCT.out]
          replace O := own_below O hb
          replace G := G.trans (hb.mono G.size)
          have cell2 := (hb.cell (p := ⟨g, k, none⟩) hglt).trans cell
          clear O7 hb cell
          by_cases hgt : m0 < cntC l c
          · have HS2 : Hid (bigK l (k + 1) = (c, cntC l c)) := by show _ = _; rw [HST.out, if_pos hgt]
            have hgi : (m0 : Int) < (cntC l c : Int) := by omega
            go_wp2_with fail
            go_roundw
            case rel => exact ⟨k + 1, by omega, by go_num, by rw [HS2.out], by rw [HS2.out], O, G⟩
            case measure => simp [intOf]; omega
          · have HS2 : Hid (bigK l (k + 1) = (b0, m0)) := by show _ = _; rw [HST.out, if_neg hgt]
            have hgi : ¬ (m0 : Int) < (cntC l c : Int) := by omega
            have hgd : decide ((m0 : Int) < (cntC l c : Int)) = false := by simp; omega
            go_wp2_with fail
            go_roundw
            case rel => exact ⟨k + 1, by omega, by go_num, by rw [HS2.out], by rw [HS2.out], O, G⟩
            case measure => simp [intOf]; omega
        · obtain rfl : k = n := by omega
          go_wp2_with fail
          go_ret3
          rw [E1.out, E2.out, E3.out]
          exact ⟨rfl, G⟩
end Go.Proofs.Ytmcldakdefeepaa
