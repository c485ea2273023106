/- The walk of FnClubs. -/
import Derived.Test.YtmcldakdefeepaaDrc
import Derived.Test.YtmcldakdefeepaaRcm
import Derived.Test.YtmcldakdefeepaaFncP
import Derived.Test.YtmcldakdefeepaaClu
namespace Go.Proofs.Ytmcldakdefeepaa
set_option linter.unusedVariables false
set_option linter.unusedSimpArgs false
open Go.RowKit
theorem cmR_cnt {l : List Rn} {c : ByteArray} (h : okRns l = true) : (cmR l c).length = cntC l c := by unfold cmR cntC; rw [if_pos h]
def sumK (l : List Rn) (j : Nat) : Nat := (((coR l).take j).map (cntC l)).sum
theorem sumK_succ {l : List Rn} {j : Nat} (hj : j < (coR l).length) : sumK l (j + 1) = sumK l j + cntC l (coR l)[j] := by
  unfold sumK
  rw [List.take_succ_eq_append_getElem hj, List.map_append, List.sum_append]
  simp
theorem sumK_all {l : List Rn} (h : okRns l = true) : sumK l (coR l).length = l.length := by
  unfold sumK
  rw [List.take_length]
  unfold coR
  rw [if_pos h]
  exact clubs_sum l
theorem sumK_le {l : List Rn} (h : okRns l = true) (j : Nat) (hj : j ≤ (coR l).length) : sumK l j ≤ l.length := by
  rw [← sumK_all h]
  unfold sumK
  rw [List.take_length]
  conv => rhs; rw [← List.take_append_drop j (coR l), List.map_append, List.sum_append]
  omega
theorem coR_ok {l : List Rn} {j : Nat} (hj : j < (coR l).length) : okRns l = true := by
  cases h : okRns l
  · unfold coR at hj; rw [h] at hj; simp at hj
  · rfl
theorem mem_facts {l : List Rn} {j : Nat} (hj : j < (coR l).length) : okRns l = true ∧ 0 < cntC l (coR l)[j] ∧ (cntC l (coR l)[j] : Int) ≤ bigM l ∧ (((coR l)[j].toList == (bigC l).toList) = true → (cntC l (coR l)[j] : Int) = bigM l) := by
  have hok := coR_ok hj
  have hm := List.getElem_mem hj
  generalize (coR l)[j] = c at *
  have e : coR l = cluB l := by unfold coR; rw [if_pos hok]
  rw [e] at hm
  have h1 := clubs_pos hm
  have h2 := clubs_le hm
  have h3 := cntC_le l c
  have hb : bigOk l = true := by
    unfold bigOk
    rw [hok, show decide (l.length = 0) = false by simp; intro h; subst h; simp at h3; omega]
    rfl
  have hM : bigM l = ((bigK l (cluB l).length).2 : Int) := by unfold bigM; rw [if_pos hb]
  have hC : bigC l = (bigK l (cluB l).length).1 := by unfold bigC; rw [if_pos hb]
  refine ⟨hok, h1, by rw [hM]; omega, fun h => ?_⟩
  have h4 : key c = key (bigC l) := by
    have := (eqS_key c (bigC l)).symm.trans h
    simpa using this
  rw [hC] at h4
  rw [hM, clubs_most hm h4]
theorem ra_all {l : List Rn} (h : okRns l = true) : raOk l 0 120 = true ∧ (raR l 0 120).length = l.length := by
  have h1 : raOk l 0 120 = true := by unfold raOk; rw [h]; rfl
  refine ⟨h1, ?_⟩
  unfold raR idsL
  rw [if_pos h1, List.take_length, List.length_map, List.filter_eq_self.2]
  intro r hr
  have := rnsAt_born (okRns_iff h).2 r hr
  unfold raB
  exact insideB_iff.2 (by omega)
set_option maxRecDepth 100000 in
set_option maxHeartbeats 4000000 in
theorem law_Clubs {R0 : Option Addr} {q0 c0 : Nat} {a0 : List Int} (w : World) (ha0 : q0 ≤ maxLen ∧ c0 ≤ maxLen ∧ a0.length = q0 ∧ Rd w w.heap.size 1 R0 q0 (a0.flatMap fun b => [Value.int .u8 b]) ∧ ∀ x ∈ a0, 0 ≤ x ∧ x ≤ 255) :
    Calls Try.prog 11 #[.slice R0 q0 c0] w fun e w' => e = .returned (.bool true) ∧ Below w.heap.size w w' := by
  obtain ⟨m0, _, _, hR0, hl0⟩ := ha0
  have hR : Rd w w.heap.size 1 R0 q0 (bys a0) := hR0
  have HL := Lib.hid hl0
  clear hR0 hl0
  by_cases hbig : (65536 : Int) < (q0 : Int)
  · have hd : decide ((65536 : Int) < (q0 : Int)) = true := by simpa using hbig
    go_enter Try.func11, Try.ntmps11
    go_wp2_with fail
    refine (rBig_any m0).mono ?_
    rintro e w1 ⟨rfl, G⟩
    rw [hd]
    go_wp2_with fail
    go_ret
    exact ⟨rfl, G⟩
  have hd : decide ((65536 : Int) < (q0 : Int)) = false := by simpa using hbig
  go_enter Try.func11, Try.ntmps11
  go_wp2_with fail
  refine (rBig_any m0).mono ?_
  rintro e w1 ⟨rfl, G⟩
  rw [hd]
  go_wp2_with fail
  refine (DrawClubsOf_any (hR.on G) HL.out (by omega)).mono ?_
  rintro e w2 ⟨g9, cp, l, rfl, ⟨hcp, h20, hok, O0⟩, hb⟩
  have O := own_le O0 (base' := w.heap.size) G.size
  replace G := G.trans (hb.mono G.size)
  have HS : Hid (∀ r ∈ l, r.name.size ≤ maxLen ∧ r.club.size ≤ maxLen) := (show ∀ r ∈ l, _ from fun r h => ⟨(hok r h).2.1, (hok r h).2.2.1⟩)
  clear hb O0 hok
  generalize hll : l.length = ll at *
  have HLL := Lib.hid hll
  clear hll
  go_wp2_with fail
  refine (ClubsOf_impl (Rd.of_own O) (by omega) hcp HS.out).mono ?_
  rintro e w3 ⟨A1, c1, rfl, P0, hb⟩
  have P := own_le P0 (base' := w.heap.size) G.size
  replace O := own_below O hb
  replace G := G.trans (hb.mono G.size)
  clear hb P0
  go_wp2_with fail
  refine (ClubsOf_spec (Rd.of_own O) (by omega) hcp HS.out).mono ?_
  rintro e w4 ⟨A2, c2, rfl, Q0, hb⟩
  replace O := own_below O hb
  replace P := own_below P hb
  replace G := G.trans (hb.mono G.size)
  clear hb
  have okne : (okRns l != okRns l) = false := by simp
  go_wp2_with fail
  refine (rTexts_b (Rd.of_own P) (Rd.of_own Q0) (by have := coR_b l; simp only [maxLen]; omega)).mono ?_
  rintro e w5 ⟨rfl, hb⟩
  replace O := own_below O hb
  replace P := own_below P hb
  replace G := G.trans (hb.mono G.size)
  clear hb Q0
  go_wp2_with fail
  refine (BiggestClub_impl (Rd.of_own O) (by omega) hcp HS.out).mono ?_
  rintro e w6 ⟨rfl, hb⟩
  replace O := own_below O hb
  replace P := own_below P hb
  replace G := G.trans (hb.mono G.size)
  clear hb
  go_wp2_with fail
  refine (BiggestClub_spec (Rd.of_own O) (by omega) hcp HS.out).mono ?_
  rintro e w7 ⟨rfl, hb⟩
  replace O := own_below O hb
  replace P := own_below P hb
  replace G := G.trans (hb.mono G.size)
  clear hb
  have v1 : ((bigC l).toList != (bigC l).toList) = false := by simp
  have v2 : (bigM l != bigM l) = false := by simp
  have v3 : (bigOk l != bigOk l) = false := by simp
  have HB9 := Lib.hid (coR_b l)
  go_wp2_with fail
  go_loopw [14, 15] (fun nn i wr => ∃ j : Nat, j ≤ (coR l).length ∧ i = .int .i64 j ∧ nn = .int .i64 (sumK l j) ∧ wr.ownsRow w.heap.size 30 6 (.slice (some ⟨g9, 0, none⟩) ll cp) ll (rns l) ∧ wr.ownsRow w.heap.size 9 1 (.slice A1 (coR l).length c1) (coR l).length (strs (coR l)) ∧ Below w.heap.size w wr) (fun _ i _ => (coR l).length - (intOf i).toNat)
  case atStart => exact ⟨0, Nat.zero_le _, rfl, rfl, O, P, G⟩
  clear O P G
  case round =>
    obtain ⟨j, hj, rfl, rfl, O, P, G⟩ := hrel
    by_cases hlt : j < (coR l).length
    · obtain ⟨hok, m1, m2, m3⟩ := mem_facts hlt
      obtain ⟨bl, off, rfl, hbl, hca⟩ := (Rd.of_own P).2 (by omega)
      have cz := hca j (.string (coR l)[j]) (by simp [strs, hlt])
      have HSU := Lib.hid (sumK_succ hlt)
      have HLE := Lib.hid (sumK_le hok (j + 1) hlt)
      have HCN := Lib.hid (cmR_cnt (c := (coR l)[j]) hok)
      have HOK := Lib.hid hok
      have HLT := Lib.hid (show j + 1 ≤ (coR l).length from hlt)
      have hj1 : j < 1000 := by have := HB9.out; omega
      generalize hcc : (coR l)[j] = c at *
      clear hca hcc hok
      generalize hcm : cntC l c = cm at *
      clear hcm
      have hm0 : ¬ (cm : Int) = 0 := by omega
      have hm0b : ((cm : Int) == 0) = false := by simp; omega
      have hm2 : ¬ bigM l < (cm : Int) := by omega
      have hm2d : decide (bigM l < (cm : Int)) = false := by simp; omega
      have hsu : (sumK l j : Int) + cm ≤ 20 := by have h1 := HSU.out; have h2 := HLE.out; rw [HLL.out] at h2; omega
      have hp1 : IntKind.i64.wrap ((sumK l j : Int) + cm) = (sumK l j : Int) + cm := IntWalk.i64_in _ (by omega)
      cases hse : (c.toList == (bigC l).toList)
      · go_wp2_with fail
        have HCM := ClubMembers_impl (s := c) (Rd.of_own O) (by omega) hcp HS.out
        rw [HOK.out, HCN.out] at HCM
        refine HCM.mono ?_
        rintro e w8 ⟨A3, c3, rfl, M, hb⟩
        clear HCM
        replace cz := (hb.cell (p := ⟨bl, off + j, none⟩) hbl).trans cz
        replace O := own_below O hb
        replace P := own_below P hb
        replace G := G.trans (hb.mono G.size)
        clear hb M
        go_wp2_with fail
        go_roundw
        case rel => exact ⟨j + 1, HLT.out, by go_num, (by rw [HSU.out]; simp <;> omega), O, P, G⟩
        case measure => have hl9 := HLT.out; simp [intOf]; omega
      · have hmm := m3 hse
        have hmmb : ((cm : Int) != bigM l) = false := by simp [hmm]
        go_wp2_with fail
        have HCM := ClubMembers_impl (s := c) (Rd.of_own O) (by omega) hcp HS.out
        rw [HOK.out, HCN.out] at HCM
        refine HCM.mono ?_
        rintro e w8 ⟨A3, c3, rfl, M, hb⟩
        clear HCM
        replace cz := (hb.cell (p := ⟨bl, off + j, none⟩) hbl).trans cz
        replace O := own_below O hb
        replace P := own_below P hb
        replace G := G.trans (hb.mono G.size)
        clear hb M
        go_wp2_with fail
        go_roundw
        case rel => exact ⟨j + 1, HLT.out, by go_num, (by rw [HSU.out]; simp <;> omega), O, P, G⟩
        case measure => have hl9 := HLT.out; simp [intOf]; omega
    · have hje : j = (coR l).length := by omega
      cases hok : okRns l
      · clear hje O P
        go_wp2_with fail
        refine (DrawClubMembers_any (hR.on G) HL.out (by omega)).mono ?_
        rintro e w10 ⟨g8, cp2, l2, s2, rfl, hs2, ⟨hcp2, h202, hok2, O0⟩, hb⟩
        have O := own_le O0 (base' := w.heap.size) G.size
        replace G := G.trans (hb.mono G.size)
        have HS2 : Hid (∀ r ∈ l2, r.name.size ≤ maxLen ∧ r.club.size ≤ maxLen) := (show ∀ r ∈ l2, _ from fun r h => ⟨(hok2 r h).2.1, (hok2 r h).2.2.1⟩)
        clear hb O0 hok2
        generalize hll2 : l2.length = ll2 at *
        clear hll2
        go_wp2_with fail
        refine (ClubMembers_impl (Rd.of_own O) (by omega) hcp2 HS2.out).mono ?_
        rintro e w11 ⟨A5, c5, rfl, P0, hb⟩
        have P := own_le P0 (base' := w.heap.size) G.size
        replace O := own_below O hb
        replace G := G.trans (hb.mono G.size)
        clear hb P0
        go_wp2_with fail
        refine (ClubMembers_spec (Rd.of_own O) (by omega) hcp2 HS2.out).mono ?_
        rintro e w12 ⟨A6, c6, rfl, Q0, hb⟩
        replace P := own_below P hb
        replace G := G.trans (hb.mono G.size)
        have okne2 : (okRns l2 != okRns l2) = false := by simp
        clear hb O
        go_wp2_with fail
        refine (rInts_b (Rd.of_own P) (Rd.of_own Q0) (by have := cmR_b l2 s2; simp only [maxLen]; omega)).mono ?_
        rintro e w13 ⟨rfl, hb⟩
        replace G := G.trans (hb.mono G.size)
        clear hb P Q0
        go_wp2_with fail
        refine (DrawRunnersAged_any (hR.on G) HL.out (by omega)).mono ?_
        rintro e w14 ⟨g7, cp3, l3, lo, hi, rfl, hlo, hhi, ⟨hcp3, h203, hok3, O0⟩, hb⟩
        have O := own_le O0 (base' := w.heap.size) G.size
        replace G := G.trans (hb.mono G.size)
        have HS3 : Hid (∀ r ∈ l3, r.name.size ≤ maxLen ∧ r.club.size ≤ maxLen) := (show ∀ r ∈ l3, _ from fun r h => ⟨(hok3 r h).2.1, (hok3 r h).2.2.1⟩)
        clear hb O0 hok3
        generalize hll3 : l3.length = ll3 at *
        clear hll3
        go_wp2_with fail
        refine (RunnersAged_impl (Rd.of_own O) (by omega) hcp3 HS3.out).mono ?_
        rintro e w15 ⟨A7, c7, rfl, P0, hb⟩
        have P := own_le P0 (base' := w.heap.size) G.size
        replace O := own_below O hb
        replace G := G.trans (hb.mono G.size)
        clear hb P0
        go_wp2_with fail
        refine (RunnersAged_spec (Rd.of_own O) (by omega) hcp3 HS3.out).mono ?_
        rintro e w16 ⟨A8, c8, rfl, Q0, hb⟩
        replace P := own_below P hb
        replace G := G.trans (hb.mono G.size)
        have okne3 : (raOk l3 lo hi == raOk l3 lo hi) = true := by simp
        clear hb O
        go_wp2_with fail
        refine (rInts_b (Rd.of_own P) (Rd.of_own Q0) (by have := raR_b l3 lo hi; simp only [maxLen]; omega)).mono ?_
        rintro e w17 ⟨rfl, hb⟩
        replace G := G.trans (hb.mono G.size)
        clear hb P Q0
        go_wp2_with fail
        go_ret
        exact ⟨rfl, G⟩
      · have hS : ((sumK l j : Nat) : Int) = (ll : Int) := by rw [hje, sumK_all hok, HLL.out]
        have HRA := RunnersAged_impl (lo := 0) (hi := 120) (Rd.of_own O) (by omega) hcp HS.out
        rw [(ra_all hok).1, (ra_all hok).2, HLL.out] at HRA
        have hne9 : ((ll : Int) != (ll : Int)) = false := by simp
        rw [hS]
        clear hje hS O P
        go_wp2_with fail
        refine HRA.mono ?_
        rintro e w8 ⟨A3, c3, rfl, M, hb⟩
        replace G := G.trans (hb.mono G.size)
        clear hb M HRA
        go_wp2_with fail
        refine (DrawClubMembers_any (hR.on G) HL.out (by omega)).mono ?_
        rintro e w10 ⟨g8, cp2, l2, s2, rfl, hs2, ⟨hcp2, h202, hok2, O0⟩, hb⟩
        have O := own_le O0 (base' := w.heap.size) G.size
        replace G := G.trans (hb.mono G.size)
        have HS2 : Hid (∀ r ∈ l2, r.name.size ≤ maxLen ∧ r.club.size ≤ maxLen) := (show ∀ r ∈ l2, _ from fun r h => ⟨(hok2 r h).2.1, (hok2 r h).2.2.1⟩)
        clear hb O0 hok2
        generalize hll2 : l2.length = ll2 at *
        clear hll2
        go_wp2_with fail
        refine (ClubMembers_impl (Rd.of_own O) (by omega) hcp2 HS2.out).mono ?_
        rintro e w11 ⟨A5, c5, rfl, P0, hb⟩
        have P := own_le P0 (base' := w.heap.size) G.size
        replace O := own_below O hb
        replace G := G.trans (hb.mono G.size)
        clear hb P0
        go_wp2_with fail
        refine (ClubMembers_spec (Rd.of_own O) (by omega) hcp2 HS2.out).mono ?_
        rintro e w12 ⟨A6, c6, rfl, Q0, hb⟩
        replace P := own_below P hb
        replace G := G.trans (hb.mono G.size)
        have okne2 : (okRns l2 != okRns l2) = false := by simp
        clear hb O
        go_wp2_with fail
        refine (rInts_b (Rd.of_own P) (Rd.of_own Q0) (by have := cmR_b l2 s2; simp only [maxLen]; omega)).mono ?_
        rintro e w13 ⟨rfl, hb⟩
        replace G := G.trans (hb.mono G.size)
        clear hb P Q0
        go_wp2_with fail
        refine (DrawRunnersAged_any (hR.on G) HL.out (by omega)).mono ?_
        rintro e w14 ⟨g7, cp3, l3, lo, hi, rfl, hlo, hhi, ⟨hcp3, h203, hok3, O0⟩, hb⟩
        have O := own_le O0 (base' := w.heap.size) G.size
        replace G := G.trans (hb.mono G.size)
        have HS3 : Hid (∀ r ∈ l3, r.name.size ≤ maxLen ∧ r.club.size ≤ maxLen) := (show ∀ r ∈ l3, _ from fun r h => ⟨(hok3 r h).2.1, (hok3 r h).2.2.1⟩)
        clear hb O0 hok3
        generalize hll3 : l3.length = ll3 at *
        clear hll3
        go_wp2_with fail
        refine (RunnersAged_impl (Rd.of_own O) (by omega) hcp3 HS3.out).mono ?_
        rintro e w15 ⟨A7, c7, rfl, P0, hb⟩
        have P := own_le P0 (base' := w.heap.size) G.size
        replace O := own_below O hb
        replace G := G.trans (hb.mono G.size)
        clear hb P0
        go_wp2_with fail
        refine (RunnersAged_spec (Rd.of_own O) (by omega) hcp3 HS3.out).mono ?_
        rintro e w16 ⟨A8, c8, rfl, Q0, hb⟩
        replace P := own_below P hb
        replace G := G.trans (hb.mono G.size)
        have okne3 : (raOk l3 lo hi == raOk l3 lo hi) = true := by simp
        clear hb O
        go_wp2_with fail
        refine (rInts_b (Rd.of_own P) (Rd.of_own Q0) (by have := raR_b l3 lo hi; simp only [maxLen]; omega)).mono ?_
        rintro e w17 ⟨rfl, hb⟩
        replace G := G.trans (hb.mono G.size)
        clear hb P Q0
        go_wp2_with fail
        go_ret
        exact ⟨rfl, G⟩
end Go.Proofs.Ytmcldakdefeepaa
