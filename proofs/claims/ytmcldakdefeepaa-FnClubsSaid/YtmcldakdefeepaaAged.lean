/- Contracts: RunnersAged and ClubMembers, the program's and the reference's. -/
import Derived.Test.YtmcldakdefeepaaIds
namespace Go.Proofs.Ytmcldakdefeepaa
set_option linter.unusedVariables false
set_option linter.unusedSimpArgs false
open Go.RowKit
theorem insideB_eq (x a b : Int) : insideB x a b = (decide (a ≤ x) && decide (x ≤ b)) := by
  cases h : insideB x a b
  · symm
    cases h2 : (decide (a ≤ x) && decide (x ≤ b))
    · rfl
    · simp only [Bool.and_eq_true, decide_eq_true_eq] at h2
      rw [insideB_iff.2 h2] at h; cases h
  · have := insideB_iff.1 h
    simp [this.1, this.2]
theorem ageB_in (lo hi : Int) : ageB lo hi = (insideB hi 0 120 && insideB lo 0 hi) := by
  rw [insideB_eq, insideB_eq]
  unfold ageB
  rw [Bool.eq_iff_iff]
  simp only [Bool.and_eq_true, decide_eq_true_eq]
  omega
def cmB (c d : ByteArray) : Bool := c.toList == d.toList
def cmR (l : List Rn) (s : ByteArray) : List Int := if okRns l = true then idsL l (fun r => cmB r.club s) l.length else []
theorem cmR_b (l : List Rn) (s : ByteArray) : (cmR l s).length ≤ 1000 := by
  unfold cmR
  split
  · next h =>
    have h1 := (okRns_iff h).1
    have h2 := idsL_len l (fun r => cmB r.club s) l.length
    omega
  · simp
set_option maxRecDepth 100000 in
set_option maxHeartbeats 2000000 in
theorem RunnersAged_impl {R : Option Addr} {q cq : Nat} {l : List Rn} {lo hi : Int} {w : World} (hR : Rd w w.heap.size 6 R q (rns l)) (hq : q ≤ 1048576) (hqc : q ≤ cq) (hs : ∀ r ∈ l, r.name.size ≤ maxLen ∧ r.club.size ≤ maxLen) :
    Calls Try.prog 21 #[.slice R q cq, .int .i64 lo, .int .i64 hi] w fun e w' => ∃ A cp, e = .returned (.tuple #[.slice A (raR l lo hi).length cp, .bool (raOk l lo hi)]) ∧ w'.ownsRow w.heap.size 3 1 (.slice A (raR l lo hi).length cp) (raR l lo hi).length (ints (raR l lo hi)) ∧ Below w.heap.size w w' := by
  have HSZ := Lib.hid hs
  clear hs
  have e55 := enters_of (P := Try.prog) Try.func55 (by kernel_rfl) rfl
  have hsz : (w.alloc (.cells #[.int .i64 lo] 3)).heap.size = w.heap.size + 1 := by simp
  have K1 := (Blk.new w 3 [.int .i64 lo]).alloc (.cells #[.int .i64 hi] 3)
  have K2 := Blk.new (w.alloc (.cells #[.int .i64 lo] 3)) 3 [.int .i64 hi]
  rw [hsz] at K2
  have G : Below w.heap.size w ((w.alloc (.cells #[.int .i64 lo] 3)).alloc (.cells #[.int .i64 hi] 3)) := (by repeat (first | exact Below.refl _ _ | refine below_drewN ?_ _ | refine Below.drew ?_ | refine Below.alloc ?_ (by first | omega | (simp; done) | (simp; omega)) _ | refine Below.setCell ?_ (by first | omega | (simp; done) | (simp; omega)) _))
  clear hsz
  cases hok : okRns l
  · have e1 : raOk l lo hi = false := by unfold raOk; rw [hok]; rfl
    have e2 : raR l lo hi = [] := by unfold raR; rw [e1]; rfl
    rw [e1, e2]; clear e1 e2
    have HOK := Lib.hid hok
    clear hok
    go_enter Try.func21, Try.ntmps21
    go_wp2_with fail
    refine (AreRunners_impl (hR.on G) hq hqc HSZ.out).mono ?_
    rintro e w1 ⟨rfl, hb⟩
    replace G := G.trans (hb.mono G.size)
    clear hb
    rw [HOK.out]
    go_wp2_with fail
    go_ret2
    exact ⟨none, 0, rfl, World.ownsRow_nil _ _ _ _, G⟩
  · have HOK := Lib.hid hok
    cases hag : ageB lo hi
    · have e1 : raOk l lo hi = false := by unfold raOk; rw [hok, hag]; rfl
      have e2 : raR l lo hi = [] := by unfold raR; rw [e1]; rfl
      rw [e1, e2]; clear e1 e2
      have HAG := Lib.hid hag
      clear hok hag
      go_enter Try.func21, Try.ntmps21
      go_wp2_with fail
      refine (AreRunners_impl (hR.on G) hq hqc HSZ.out).mono ?_
      rintro e w1 ⟨rfl, hb⟩
      replace K1 := K1.on hb
      replace K2 := K2.on hb
      replace G := G.trans (hb.mono G.size)
      clear hb
      rw [HOK.out]
      have k1 := K1.cell 0
      have k2 := K2.cell 0
      simp only [List.getElem?_cons_zero] at k1 k2
      have l1 := K1.lt
      have l2 := K2.lt
      go_wp2_with fail
      refine (areAges_any lo hi _).mono ?_
      rintro e w2 ⟨rfl, rfl⟩
      rw [HAG.out]
      go_wp2_with fail
      go_ret2
      exact ⟨none, 0, rfl, World.ownsRow_nil _ _ _ _, G⟩
    · have e1 : raOk l lo hi = true := by unfold raOk; rw [hok, hag]; rfl
      have e2 : raR l lo hi = idsL l (fun r => raB r.born lo hi) l.length := by unfold raR; rw [e1]; rfl
      rw [e1, e2]; clear e1 e2
      have HAG := Lib.hid hag
      obtain ⟨h10', hat⟩ := okRns_iff hok
      have h10 : q ≤ 10 := by have := hR.rlen; omega
      have HB := Lib.hid (rnsAt_born hat)
      clear hok hag hat h10'
      go_enter Try.func21, Try.ntmps21
      go_wp2_with fail
      refine (AreRunners_impl (hR.on G) hq hqc HSZ.out).mono ?_
      rintro e w1 ⟨rfl, hb⟩
      replace K1 := K1.on hb
      replace K2 := K2.on hb
      replace G := G.trans (hb.mono G.size)
      clear hb
      rw [HOK.out]
      have k1 := K1.cell 0
      have k2 := K2.cell 0
      simp only [List.getElem?_cons_zero] at k1 k2
      have l1 := K1.lt
      have l2 := K2.lt
      go_wp2_with fail
      refine (areAges_any lo hi _).mono ?_
      rintro e w2 ⟨rfl, rfl⟩
      rw [HAG.out]
      go_wp2_with fail
      refine (idsOf_any e55 (Aged1 HB.out K1 K2) (hR.on G) h10).mono ?_
      rintro e w9 ⟨A, cp, rfl, O9, hb⟩
      have O8 := own_le O9 G.size
      replace G := G.trans (hb.mono G.size)
      clear hb O9
      go_wp2_with fail
      go_ret2
      exact ⟨A, cp, rfl, O8, G⟩
set_option maxRecDepth 100000 in
set_option maxHeartbeats 2000000 in
theorem RunnersAged_spec {R : Option Addr} {q cq : Nat} {l : List Rn} {lo hi : Int} {w : World} (hR : Rd w w.heap.size 6 R q (rns l)) (hq : q ≤ 1048576) (hqc : q ≤ cq) (hs : ∀ r ∈ l, r.name.size ≤ maxLen ∧ r.club.size ≤ maxLen) :
    Calls Try.prog 20 #[.slice R q cq, .int .i64 lo, .int .i64 hi] w fun e w' => ∃ A cp, e = .returned (.tuple #[.slice A (raR l lo hi).length cp, .bool (raOk l lo hi)]) ∧ w'.ownsRow w.heap.size 3 1 (.slice A (raR l lo hi).length cp) (raR l lo hi).length (ints (raR l lo hi)) ∧ Below w.heap.size w w' := by
  have HSZ := Lib.hid hs
  have HQ := Lib.hid hR.rlen
  clear hs
  obtain ⟨i0, hi0, hz0, hz1, hz2⟩ := info_parts int_info
  have G : Below w.heap.size w (w.alloc (.cells #[] 3)) := (by repeat (first | exact Below.refl _ _ | refine below_drewN ?_ _ | refine Below.drew ?_ | refine Below.alloc ?_ (by first | omega | (simp; done) | (simp; omega)) _ | refine Below.setCell ?_ (by first | omega | (simp; done) | (simp; omega)) _))
  have OW := World.ownsRow_lit (base := w.heap.size) (size := 1) (e := 3) w #[] 0 (Nat.le_refl _) (by simp) rfl
  cases hok : okRns l
  · have e1 : raOk l lo hi = false := by unfold raOk; rw [hok]; rfl
    have e2 : raR l lo hi = [] := by unfold raR; rw [e1]; rfl
    rw [e1, e2]; clear e1 e2
    have HOK := Lib.hid hok
    clear hok
    go_enter Try.func20, Try.ntmps20
    go_wp2_with fail
    refine (l5Good_any (hR.on G) hq hqc HSZ.out).mono ?_
    rintro e w1 ⟨rfl, hb⟩
    replace OW := own_below OW hb
    replace G := G.trans (hb.mono G.size)
    clear hb
    rw [HOK.out]
    go_wp2_with fail
    go_ret2
    exact ⟨_, _, rfl, OW, G⟩
  · have HOK := Lib.hid hok
    cases ha : insideB hi 0 120
    · have e1 : raOk l lo hi = false := by unfold raOk; rw [ageB_in, ha]; simp
      have e2 : raR l lo hi = [] := by unfold raR; rw [e1]; rfl
      rw [e1, e2]; clear e1 e2
      have HA := Lib.hid ha
      clear hok ha
      go_enter Try.func20, Try.ntmps20
      go_wp2_with fail
      refine (l5Good_any (hR.on G) hq hqc HSZ.out).mono ?_
      rintro e w1 ⟨rfl, hb⟩
      replace OW := own_below OW hb
      replace G := G.trans (hb.mono G.size)
      clear hb
      rw [HOK.out]
      go_wp2_with fail
      refine (l1In_any _ _ _ _).mono ?_
      rintro e w2 ⟨rfl, rfl⟩
      rw [HA.out]
      go_wp2_with fail
      go_ret2
      exact ⟨_, _, rfl, OW, G⟩
    · have HA := Lib.hid ha
      cases hb : insideB lo 0 hi
      · have e1 : raOk l lo hi = false := by unfold raOk; rw [ageB_in, hb]; simp
        have e2 : raR l lo hi = [] := by unfold raR; rw [e1]; rfl
        rw [e1, e2]; clear e1 e2
        have HB := Lib.hid hb
        clear hok ha hb
        go_enter Try.func20, Try.ntmps20
        go_wp2_with fail
        refine (l5Good_any (hR.on G) hq hqc HSZ.out).mono ?_
        rintro e w1 ⟨rfl, hb⟩
        replace OW := own_below OW hb
        replace G := G.trans (hb.mono G.size)
        clear hb
        rw [HOK.out]
        go_wp2_with fail
        refine (l1In_any _ _ _ _).mono ?_
        rintro e w2 ⟨rfl, rfl⟩
        rw [HA.out]
        go_wp2_with fail
        refine (l1In_any _ _ _ _).mono ?_
        rintro e w3 ⟨rfl, rfl⟩
        rw [HB.out]
        go_wp2_with fail
        go_ret2
        exact ⟨_, _, rfl, OW, G⟩
      · have HB := Lib.hid hb
        have e1 : raOk l lo hi = true := by unfold raOk; rw [ageB_in, hok, ha, hb]; rfl
        have e2 : raR l lo hi = idsL l (fun r => raB r.born lo hi) l.length := by unfold raR; rw [e1]; rfl
        rw [e1, e2]; clear e1 e2
        obtain ⟨h10', hat⟩ := okRns_iff hok
        have h10 : q ≤ 10 := by have := hR.rlen; omega
        have HBO := rnsAt_born hat
        clear hok ha hb hat h10'
        go_enter Try.func20, Try.ntmps20
        go_wp2_with fail
        refine (l5Good_any (hR.on G) hq hqc HSZ.out).mono ?_
        rintro e w1 ⟨rfl, hb⟩
        replace OW := own_below OW hb
        replace G := G.trans (hb.mono G.size)
        clear hb
        rw [HOK.out]
        go_wp2_with fail
        refine (l1In_any _ _ _ _).mono ?_
        rintro e w2 ⟨rfl, rfl⟩
        rw [HA.out]
        go_wp2_with fail
        refine (l1In_any _ _ _ _).mono ?_
        rintro e w3 ⟨rfl, rfl⟩
        rw [HB.out]
        go_wp2_with fail
        go_loopw [8, 9] (fun o i wr => ∃ j : Nat, j ≤ q ∧ i = .int .i64 j ∧ wr.ownsRow w.heap.size 3 1 o (idsL l (fun r => raB r.born lo hi) j).length (ints (idsL l (fun r => raB r.born lo hi) j)) ∧ Below w.heap.size w wr) (fun _ i _ => q - (intOf i).toNat)
        case atStart => exact ⟨0, Nat.zero_le _, rfl, by simpa [ints, idsL] using OW, G⟩
        clear OW G
        case round =>
          obtain ⟨j, hj, rfl, hown, G⟩ := hrel
          by_cases hlt : j < q
          · obtain ⟨b, off, rfl, hbb, hca⟩ := hR.rn (show 0 < q by omega)
            have kx : j < l.length := by rw [HQ.out]; exact hlt
            have CK := hca j kx
            obtain ⟨c0, c1, c2, c3, c4, c5⟩ := CK.below G hbb
            have HS := Lib.hid (idsL_succ (p := fun r => raB r.born lo hi) kx)
            have HM := Lib.hid (HBO l[j] (List.getElem_mem kx))
            have hlj := idsL_len l (fun r => raB r.born lo hi) j
            generalize hr : l[j] = r at *
            clear hca hr
            cases hch : raB r.born lo hi
            · have HF : Hid (idsL l (fun r => raB r.born lo hi) (j + 1) = idsL l (fun r => raB r.born lo hi) j) := by show _ = _; rw [HS.out, hch]; simp
              have HCH := Lib.hid hch
              clear hch
              have p1 : IntKind.i64.wrap (2026 - r.born) = 2026 - r.born := IntWalk.i64_in _ (by have := HM.out; omega)
              go_wp2_with fail
              refine (l1In_any _ _ _ _).mono ?_
              rintro e w4 ⟨rfl, rfl⟩
              rw [show insideB (2026 - r.born) lo hi = raB r.born lo hi from rfl, HCH.out]
              go_wp2_with fail
              go_roundw
              case rel => exact ⟨j + 1, by omega, by go_num, by rw [HF.out]; exact hown, G⟩
              case measure => simp [intOf]; omega
            · have HF : Hid (idsL l (fun r => raB r.born lo hi) (j + 1) = idsL l (fun r => raB r.born lo hi) j ++ [r.id]) := by show _ = _; rw [HS.out, hch]; simp
              have HCH := Lib.hid hch
              clear hch
              have p1 : IntKind.i64.wrap (2026 - r.born) = 2026 - r.born := IntWalk.i64_in _ (by have := HM.out; omega)
              go_wp2_with fail
              refine (l1In_any _ _ _ _).mono ?_
              rintro e w4 ⟨rfl, rfl⟩
              rw [show insideB (2026 - r.born) lo hi = raB r.born lo hi from rfl, HCH.out]
              go_wp2_with (at_builtin; refine wpList_append_own _ rfl _ _ 35 rfl w.heap.size 3 i0 (.int .i64 0) 1 8 Try.underlying35 hi0 hz0 hz1 hz2 rfl (by decide) _ _ _ rfl (hown.alloc _) ⟨wr.heap.size, 0, none⟩ 1 1 [.int .i64 r.id] rfl rfl ?c1 ?c2 ?c3 ?c4 (by have := G.size; simp; omega) ?_)
              case c1 => exact cell_one_new _ _ _
              case c2 => intro u hu; simp at hu; subst hu; rfl
              case c3 => simp only [maxLen]; omega
              case c4 => omega
              intro v9 w9 own1 grow1 _
              have bel1 : Below w.heap.size w w9 := (G.alloc G.size _).grown grow1 (by have := G.size; simp; omega) (fun k hk => (hown.lt k hk).1)
              have e1 : ints (idsL l (fun r => raB r.born lo hi) j) ++ [Value.int .i64 r.id] = ints (idsL l (fun r => raB r.born lo hi) j ++ [r.id]) := by simp [ints]
              rw [e1] at own1
              clear e1 hown G grow1 c0 c1 c2 c3 c4 c5
              go_wp2_with fail
              go_roundw
              case rel => exact ⟨j + 1, by omega, by go_num, by rw [HF.out, List.length_append]; exact own1, bel1⟩
              case measure => simp [intOf]; omega
          · have hjq : j = q := by omega
            have HJ := Lib.hid hjq
            clear hjq
            obtain ⟨A', c', rfl⟩ := own_form hown
            go_wp2_with fail
            go_ret2
            rw [HQ.out, ← HJ.out]
            exact ⟨A', c', rfl, hown, G⟩
set_option maxHeartbeats 1000000 in
theorem Club1 {l : List Rn} {s : ByteArray} {g1 : Nat} {w : World} (K1 : Blk w g1 9 [.string s]) :
    FnPredR Try.prog 58 #[.pointer (some ⟨g1, 0, none⟩)] (fun r => cmB r.club s) l w := by
  intro r hr W hb
  have c1 : W.cell? ⟨g1, 0, none⟩ = some (.string s) := (K1.on hb).cell 0
  have l1 := (K1.on hb).lt
  go_enter Try.func58, Try.ntmps58
  go_wp2_with fail
  go_ret
  exact ⟨rfl, (by repeat (first | exact Below.refl _ _ | refine below_drewN ?_ _ | refine Below.drew ?_ | refine Below.alloc ?_ (by first | omega | (simp; done) | (simp; omega)) _ | refine Below.setCell ?_ (by first | omega | (simp; done) | (simp; omega)) _))⟩
set_option maxRecDepth 100000 in
set_option maxHeartbeats 2000000 in
theorem ClubMembers_impl {R : Option Addr} {q cq : Nat} {l : List Rn} {s : ByteArray} {w : World} (hR : Rd w w.heap.size 6 R q (rns l)) (hq : q ≤ 1048576) (hqc : q ≤ cq) (hs : ∀ r ∈ l, r.name.size ≤ maxLen ∧ r.club.size ≤ maxLen) :
    Calls Try.prog 27 #[.slice R q cq, .string s] w fun e w' => ∃ A cp, e = .returned (.tuple #[.slice A (cmR l s).length cp, .bool (okRns l)]) ∧ w'.ownsRow w.heap.size 3 1 (.slice A (cmR l s).length cp) (cmR l s).length (ints (cmR l s)) ∧ Below w.heap.size w w' := by
  have HSZ := Lib.hid hs
  clear hs
  have e55 := enters_of (P := Try.prog) Try.func58 (by kernel_rfl) rfl
  have K1 := Blk.new w 9 [.string s]
  have G : Below w.heap.size w (w.alloc (.cells #[.string s] 9)) := (by repeat (first | exact Below.refl _ _ | refine below_drewN ?_ _ | refine Below.drew ?_ | refine Below.alloc ?_ (by first | omega | (simp; done) | (simp; omega)) _ | refine Below.setCell ?_ (by first | omega | (simp; done) | (simp; omega)) _))
  cases hok : okRns l
  · have e2 : cmR l s = [] := by unfold cmR; rw [hok]; rfl
    rw [e2]; clear e2
    have HOK := Lib.hid hok
    clear hok
    go_enter Try.func27, Try.ntmps27
    go_wp2_with fail
    refine (AreRunners_impl (hR.on G) hq hqc HSZ.out).mono ?_
    rintro e w1 ⟨rfl, hb⟩
    replace G := G.trans (hb.mono G.size)
    clear hb
    rw [HOK.out]
    go_wp2_with fail
    go_ret2
    exact ⟨none, 0, rfl, World.ownsRow_nil _ _ _ _, G⟩
  · have HOK := Lib.hid hok
    have e2 : cmR l s = idsL l (fun r => cmB r.club s) l.length := by unfold cmR; rw [hok]; rfl
    rw [e2]; clear e2
    have h10' := (okRns_iff hok).1
    have h10 : q ≤ 10 := by have := hR.rlen; omega
    clear hok h10'
    go_enter Try.func27, Try.ntmps27
    go_wp2_with fail
    refine (AreRunners_impl (hR.on G) hq hqc HSZ.out).mono ?_
    rintro e w1 ⟨rfl, hb⟩
    replace K1 := K1.on hb
    replace G := G.trans (hb.mono G.size)
    clear hb
    rw [HOK.out]
    go_wp2_with fail
    refine (idsOf_any e55 (Club1 K1) (hR.on G) h10).mono ?_
    rintro e w9 ⟨A, cp, rfl, O9, hb⟩
    have O8 := own_le O9 G.size
    replace G := G.trans (hb.mono G.size)
    clear hb O9
    go_wp2_with fail
    go_ret2
    exact ⟨A, cp, rfl, O8, G⟩
set_option maxRecDepth 100000 in
set_option maxHeartbeats 2000000 in
theorem l5Members_any {R : Option Addr} {q cq : Nat} {l : List Rn} {s : ByteArray} {w : World} (hR : Rd w w.heap.size 6 R q (rns l)) (h10 : q ≤ 10) :
    Calls Try.prog 57 #[.slice R q cq, .string s] w fun e w' => ∃ A cp, e = .returned (.slice A (idsL l (fun r => cmB r.club s) l.length).length cp) ∧ w'.ownsRow w.heap.size 3 1 (.slice A (idsL l (fun r => cmB r.club s) l.length).length cp) (idsL l (fun r => cmB r.club s) l.length).length (ints (idsL l (fun r => cmB r.club s) l.length)) ∧ Below w.heap.size w w' := by
  have HQ := Lib.hid hR.rlen
  obtain ⟨i0, hi0, hz0, hz1, hz2⟩ := info_parts int_info
  have G : Below w.heap.size w (w.alloc (.cells #[] 3)) := (by repeat (first | exact Below.refl _ _ | refine below_drewN ?_ _ | refine Below.drew ?_ | refine Below.alloc ?_ (by first | omega | (simp; done) | (simp; omega)) _ | refine Below.setCell ?_ (by first | omega | (simp; done) | (simp; omega)) _))
  have OW := World.ownsRow_lit (base := w.heap.size) (size := 1) (e := 3) w #[] 0 (Nat.le_refl _) (by simp) rfl
  go_enter Try.func57, Try.ntmps57
  go_wp2_with fail
  go_loopw [5, 6] (fun o i wr => ∃ j : Nat, j ≤ q ∧ i = .int .i64 j ∧ wr.ownsRow w.heap.size 3 1 o (idsL l (fun r => cmB r.club s) j).length (ints (idsL l (fun r => cmB r.club s) j)) ∧ Below w.heap.size w wr) (fun _ i _ => q - (intOf i).toNat)
  case atStart => exact ⟨0, Nat.zero_le _, rfl, by simpa [ints, idsL] using OW, G⟩
  clear OW G
  case round =>
    obtain ⟨j, hj, rfl, hown, G⟩ := hrel
    by_cases hlt : j < q
    · obtain ⟨b, off, rfl, hbb, hca⟩ := hR.rn (show 0 < q by omega)
      have kx : j < l.length := by rw [HQ.out]; exact hlt
      have CK := hca j kx
      obtain ⟨c0, c1, c2, c3, c4, c5⟩ := CK.below G hbb
      have HS := Lib.hid (idsL_succ (p := fun r => cmB r.club s) kx)
      have hlj := idsL_len l (fun r => cmB r.club s) j
      generalize hr : l[j] = r at *
      clear hca hr
      cases hch : cmB r.club s
      · have HF : Hid (idsL l (fun r => cmB r.club s) (j + 1) = idsL l (fun r => cmB r.club s) j) := by show _ = _; rw [HS.out, hch]; simp
        have HCH := Lib.hid hch
        clear hch
        have hq9 : (r.club.toList == s.toList) = false := HCH.out
        go_wp2_with fail
        go_roundw
        case rel => exact ⟨j + 1, by omega, by go_num, by rw [HF.out]; exact hown, G⟩
        case measure => simp [intOf]; omega
      · have HF : Hid (idsL l (fun r => cmB r.club s) (j + 1) = idsL l (fun r => cmB r.club s) j ++ [r.id]) := by show _ = _; rw [HS.out, hch]; simp
        have HCH := Lib.hid hch
        clear hch
        have hq9 : (r.club.toList == s.toList) = true := HCH.out
        go_wp2_with (at_builtin; refine wpList_append_own _ rfl _ _ 35 rfl w.heap.size 3 i0 (.int .i64 0) 1 8 Try.underlying35 hi0 hz0 hz1 hz2 rfl (by decide) _ _ _ rfl (hown.alloc _) ⟨wr.heap.size, 0, none⟩ 1 1 [.int .i64 r.id] rfl rfl ?c1 ?c2 ?c3 ?c4 (by have := G.size; simp; omega) ?_)
        case c1 => exact cell_one_new _ _ _
        case c2 => intro u hu; simp at hu; subst hu; rfl
        case c3 => simp only [maxLen]; omega
        case c4 => omega
        intro v9 w9 own1 grow1 _
        have bel1 : Below w.heap.size w w9 := (G.alloc G.size _).grown grow1 (by have := G.size; simp; omega) (fun k hk => (hown.lt k hk).1)
        have e1 : ints (idsL l (fun r => cmB r.club s) j) ++ [Value.int .i64 r.id] = ints (idsL l (fun r => cmB r.club s) j ++ [r.id]) := by simp [ints]
        rw [e1] at own1
        clear e1 hown G grow1 c0 c1 c2 c3 c4 c5
        go_wp2_with fail
        go_roundw
        case rel => exact ⟨j + 1, by omega, by go_num, by rw [HF.out, List.length_append]; exact own1, bel1⟩
        case measure => simp [intOf]; omega
    · have hjq : j = q := by omega
      have HJ := Lib.hid hjq
      clear hjq
      obtain ⟨A', c', rfl⟩ := own_form hown
      go_wp2_with fail
      go_ret
      rw [HQ.out, ← HJ.out]
      exact ⟨A', c', rfl, hown, G⟩
set_option maxRecDepth 100000 in
set_option maxHeartbeats 2000000 in
theorem ClubMembers_spec {R : Option Addr} {q cq : Nat} {l : List Rn} {s : ByteArray} {w : World} (hR : Rd w w.heap.size 6 R q (rns l)) (hq : q ≤ 1048576) (hqc : q ≤ cq) (hs : ∀ r ∈ l, r.name.size ≤ maxLen ∧ r.club.size ≤ maxLen) :
    Calls Try.prog 26 #[.slice R q cq, .string s] w fun e w' => ∃ A cp, e = .returned (.tuple #[.slice A (cmR l s).length cp, .bool (okRns l)]) ∧ w'.ownsRow w.heap.size 3 1 (.slice A (cmR l s).length cp) (cmR l s).length (ints (cmR l s)) ∧ Below w.heap.size w w' := by
  have HSZ := Lib.hid hs
  have HQ := Lib.hid hR.rlen
  clear hs
  have G := Below.refl w.heap.size w
  cases hok : okRns l
  · have e2 : cmR l s = [] := by unfold cmR; rw [hok]; rfl
    rw [e2]; clear e2
    have HOK := Lib.hid hok
    clear hok
    go_enter Try.func26, Try.ntmps26
    go_wp2_with fail
    refine (l5Good_any (hR.on G) hq hqc HSZ.out).mono ?_
    rintro e w1 ⟨rfl, hb⟩
    replace G := G.trans (hb.mono G.size)
    clear hb
    rw [HOK.out]
    have OW := World.ownsRow_lit (base := w.heap.size) (size := 1) (e := 3) w1 #[] 0 G.size (by simp) rfl
    have G2 := G.alloc G.size (.cells #[] 3)
    go_wp2_with fail
    go_ret2
    exact ⟨_, _, rfl, OW, G2⟩
  · have HOK := Lib.hid hok
    have e2 : cmR l s = idsL l (fun r => cmB r.club s) l.length := by unfold cmR; rw [hok]; rfl
    rw [e2]; clear e2
    have h10' := (okRns_iff hok).1
    have h10 : q ≤ 10 := by have := hR.rlen; omega
    clear hok h10'
    go_enter Try.func26, Try.ntmps26
    go_wp2_with fail
    refine (l5Good_any (hR.on G) hq hqc HSZ.out).mono ?_
    rintro e w1 ⟨rfl, hb⟩
    replace G := G.trans (hb.mono G.size)
    clear hb
    rw [HOK.out]
    go_wp2_with fail
    refine (l5Members_any (hR.on G) h10).mono ?_
    rintro e w9 ⟨A, cp, rfl, O9, hb⟩
    have O8 := own_le O9 G.size
    replace G := G.trans (hb.mono G.size)
    clear hb O9
    go_wp2_with fail
    go_ret2
    exact ⟨A, cp, rfl, O8, G⟩
end Go.Proofs.Ytmcldakdefeepaa
