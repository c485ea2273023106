/- The walk of FnRunners. -/
import Derived.Test.YtmmpcchjalgokaaGreatDoorDrr
import Derived.Test.YtmmpcchjalgokaaGreatDoorRcm
import Derived.Test.YtmmpcchjalgokaaGreatDoorRnp
import Derived.Test.YtmmpcchjalgokaaGreatDoorPrs
namespace Go.Proofs.YtmmpcchjalgokaaGreatDoor
set_option linter.unusedVariables false
set_option linter.unusedSimpArgs false
open Go.RowKit
set_option maxHeartbeats 1000000 in
theorem rRunners_same {A B : Option Addr} {n c d b1 b2 : Nat} {l : List Rn} {w : World} (hA : Rd w b1 6 A n (rns l)) (hB : Rd w b2 6 B n (rns l)) (hn : n ≤ maxLen) :
    Calls Tryz.prog 29 #[.slice A n c, .slice B n d] w fun e w' => e = .returned (.bool true) ∧ ∃ k, w' = w.drewN k := by
  unfold maxLen at hn
  have HX := Lib.hid hA.rlen
  have hne : ((n : Int) != (n : Int)) = false := by simp
  go_enter Tryz.func29, Tryz.ntmps29
  go_wp2
  go_loopw [5] (fun i wr => ∃ k : Nat, k ≤ n ∧ i = .int .i64 k ∧ ∃ q, wr = w.drewN q) (fun i _ => n - (intOf i).toNat)
  case atStart => exact ⟨0, Nat.zero_le _, rfl, 0, rfl⟩
  case round =>
    obtain ⟨k, hk, rfl, q, rfl⟩ := hrel
    by_cases hlt : k < n
    · obtain ⟨b, off, rfl, _, hca⟩ := hA.rn (by omega)
      obtain ⟨b', off', rfl, _, hcb⟩ := hB.rn (by omega)
      have kx : k < l.length := by rw [HX.out]; exact hlt
      have ha := hca k kx
      have hb := hcb k kx
      generalize l[k] = r at *
      obtain ⟨a0, a1, a2, a3, a4, a5⟩ := ha
      obtain ⟨c0, c1, c2, c3, c4, c5⟩ := hb
      clear hca hcb
      go_wp2
      go_quiet (fail)
      go_wp2
      go_roundw
      case rel => exact ⟨k + 1, by omega, by go_num, q + nq, by first | rfl | exact World.drewN_drewN _ _ _⟩
      case measure => simp [intOf]; omega
    · go_wp2
      go_ret
      exact ⟨rfl, _, rfl⟩
theorem rRunners_b {A B : Option Addr} {n c d b1 b2 : Nat} {l : List Rn} {w : World} (hA : Rd w b1 6 A n (rns l)) (hB : Rd w b2 6 B n (rns l)) (hn : n ≤ maxLen) :
    Calls Tryz.prog 29 #[.slice A n c, .slice B n d] w fun e w' => e = .returned (.bool true) ∧ Below w.heap.size w w' :=
  (rRunners_same hA hB hn).mono fun e w' ⟨he, k, hk⟩ => ⟨he, by rw [hk]; exact below_drewN (Below.refl _ _) k⟩
def Szd (l : List Rn) : Prop := ∀ r ∈ l, r.name.size ≤ maxLen ∧ r.club.size ≤ maxLen
theorem swR_sz {l : List Rn} {a b : Int} (hs : Szd l) : Szd (swR l a b) := by
  unfold swR
  split
  · next h =>
    unfold swOk at h
    simp only [Bool.and_eq_true, decide_eq_true_eq] at h
    have ha := ix_lt h.2.1
    have hb := ix_lt h.2.2.1
    intro r hr
    unfold swL at hr
    have h1 : ∀ k, k < l.length → ∀ c, (withC (rnA l k) c).name.size ≤ maxLen ∧ (withC (rnA l k) c).club.size ≤ maxLen := fun k hk c => by
      rw [rnA_get hk]
      have h9 := hs _ (List.getElem_mem hk)
      exact ⟨h9.1, h9.2⟩
    rcases List.mem_or_eq_of_mem_set hr with h9 | h9
    · rcases List.mem_or_eq_of_mem_set h9 with h8 | h8
      · exact hs r h8
      · rw [h8]; exact h1 _ ha _
    · rw [h9]; exact h1 _ hb _
  · intro r hr; cases hr
theorem adR_sz {l : List Rn} {x : Rn} (hs : Szd l) (hx : x.name.size ≤ maxLen ∧ x.club.size ≤ maxLen) : Szd (adR l x) := by
  unfold adR
  split
  · exact adL_size hs hx
  · intro r hr; cases hr
theorem rt_back {r : Rn} (h : rnOk r = true) : prOk (rtV r) = true ∧ prV (rtV r) = r := by
  have e : rtV r = rtB r := by unfold rtV; rw [if_pos h]
  rw [e]; exact pr_some h rfl
set_option maxRecDepth 100000 in
set_option maxHeartbeats 8000000 in
theorem law_Runners {R0 : Option Addr} {q0 c0 : Nat} {a0 : List Int} (w : World) (ha0 : q0 ≤ maxLen ∧ c0 ≤ maxLen ∧ a0.length = q0 ∧ Rd w w.heap.size 1 R0 q0 (a0.flatMap fun b => [Value.int .u8 b]) ∧ ∀ x ∈ a0, 0 ≤ x ∧ x ≤ 255) (TY : Tab w ∧ Syn w) (M : Mxl w) :
    Calls Tryz.prog 4 #[.slice R0 q0 c0] w fun e w' => e = .returned (.bool true) ∧ Below w.heap.size w w' := by
  obtain ⟨m0, _, _, hR0, hl0⟩ := ha0
  obtain ⟨T, Y⟩ := TY
  have hR : Rd w w.heap.size 1 R0 q0 (bys a0) := hR0
  have HL := Lib.hid hl0
  clear hR0 hl0
  by_cases hbig : (65536 : Int) < (q0 : Int)
  · have hd : decide ((65536 : Int) < (q0 : Int)) = true := by simpa using hbig
    go_enter Tryz.func4, Tryz.ntmps4
    go_wp2_with fail
    refine (rBig_any m0).mono ?_
    rintro e w1 ⟨rfl, G⟩
    rw [hd]
    go_wp2_with fail
    go_ret
    exact ⟨rfl, G⟩
  have hd : decide ((65536 : Int) < (q0 : Int)) = false := by simpa using hbig
  go_enter Tryz.func4, Tryz.ntmps4
  go_wp2_with fail
  refine (rBig_any m0).mono ?_
  rintro e w1 ⟨rfl, G⟩
  rw [hd]
  go_wp2_with fail
  refine (DrawRunnerText_any (hR.on G) HL.out (by omega)).mono ?_
  rintro e w2 ⟨r, hr, rfl, hb⟩
  replace G := G.trans (hb.mono G.size)
  clear hb
  have B := Blk.new w2 41 r.cells
  replace G := G.alloc G.size (.cells r.cells.toArray 41)
  obtain ⟨b0, b1, b2, b3, b4, b5⟩ := blk6 B
  go_wp2_with fail
  refine (RunnerText_impl r hr (T.on G)).mono ?_
  rintro e w3 ⟨rfl, hb⟩
  replace B := B.on hb
  replace G := G.trans (hb.mono G.size)
  clear hb b0 b1 b2 b3 b4 b5
  obtain ⟨b0, b1, b2, b3, b4, b5⟩ := blk6 B
  have v1 : ((rtV r).toList != (rtV r).toList) = false := by simp
  have v2 : (rnOk r != rnOk r) = false := by simp
  go_wp2_with fail
  refine (RunnerText_spec r hr).mono ?_
  rintro e w4 ⟨rfl, hb⟩
  replace B := B.on hb
  replace G := G.trans (hb.mono G.size)
  clear hb b0 b1 b2 b3 b4 b5
  obtain ⟨b0, b1, b2, b3, b4, b5⟩ := blk6 B
  go_wp2_with fail
  refine (IsRunner_impl r _ hr.2.1 hr.2.2.1).mono ?_
  rintro e w5 ⟨rfl, hb⟩
  replace B := B.on hb
  replace G := G.trans (hb.mono G.size)
  clear hb b0 b1 b2 b3 b4 b5
  obtain ⟨b0, b1, b2, b3, b4, b5⟩ := blk6 B
  have HRT : Hid (rnOk r = true → prOk (rtV r) = true ∧ prV (rtV r) = r) := (fun h => rt_back h : rnOk r = true → prOk (rtV r) = true ∧ prV (rtV r) = r)
  have hsz := rtV_size r
  have HPI := fun (W : World) (t : Tab W) (y : Syn W) (m : Mxl W) => ParseRunner_impl (s := rtV r) (w := W) (by omega) t y m
  generalize prV (rtV r) = R at *
  generalize prOk (rtV r) = ok9 at *
  have HPH := Lib.hid HPI
  clear HPI v1 v2
  go_wp2_with fail
  refine (HPH.out _ (T.on G) (Y.on G) (M.on G)).mono ?_
  rintro e w6 ⟨rfl, hb⟩
  replace B := B.on hb
  replace G := G.trans (hb.mono G.size)
  clear hb b0 b1 b2 b3 b4 b5
  obtain ⟨b0, b1, b2, b3, b4, b5⟩ := blk6 B
  clear HPH
  have B8 := Blk.new w6 41 [.int .i64 R.id, .string R.name, .string R.club, .int .i64 R.born, .bool R.woman, .int .i64 R.card]
  replace B := B.alloc (.cells #[.int .i64 R.id, .string R.name, .string R.club, .int .i64 R.born, .bool R.woman, .int .i64 R.card] 41)
  replace G := G.alloc G.size (.cells #[.int .i64 R.id, .string R.name, .string R.club, .int .i64 R.born, .bool R.woman, .int .i64 R.card] 41)
  clear b0 b1 b2 b3 b4 b5
  generalize rnOk r = kk at *
  go_upto_region 9 with (fail)
  go_cut [80] (fun x wx => x = .bool false ∧ Below w.heap.size w wx)
  case first =>
    cases kk
    · go_wp2_with fail
      go_meet
      exact ⟨rfl, G⟩
    · obtain ⟨h1, h2⟩ := HRT.out rfl
      subst h1
      subst h2
      obtain ⟨b0, b1, b2, b3, b4, b5⟩ := blk6 B
      obtain ⟨d0, d1, d2, d3, d4, d5⟩ := blk6 B8
      have ltB := B.lt
      have ltB8 := B8.lt
      go_wp2_with fail
      go_meet
      exact ⟨rfl, G⟩
  case rest =>
  obtain ⟨rfl, G⟩ := hcut
  clear B B8 HRT hr hsz
  go_wp2_with fail
  refine (DrawParseRunner_any (hR.on G) HL.out (by omega)).mono ?_
  rintro e w7 ⟨t, ht, rfl, hb⟩
  replace G := G.trans (hb.mono G.size)
  clear hb
  have HPI := fun (W : World) (t9 : Tab W) (y : Syn W) (m : Mxl W) => ParseRunner_impl (s := t) (w := W) (by omega) t9 y m
  have HPS := fun (W : World) => ParseRunner_spec (s := t) (w := W) (by omega)
  generalize prV t = R2 at *
  generalize prOk t = ok2 at *
  have HPH := Lib.hid HPI
  have HSH := Lib.hid HPS
  clear HPI HPS
  have v2 : (ok2 != ok2) = false := by simp
  go_wp2_with fail
  refine (HPH.out _ (T.on G) (Y.on G) (M.on G)).mono ?_
  rintro e w8 ⟨rfl, hb⟩
  replace G := G.trans (hb.mono G.size)
  clear hb HPH
  have B := Blk.new w8 41 [.int .i64 R2.id, .string R2.name, .string R2.club, .int .i64 R2.born, .bool R2.woman, .int .i64 R2.card]
  replace G := G.alloc G.size (.cells #[.int .i64 R2.id, .string R2.name, .string R2.club, .int .i64 R2.born, .bool R2.woman, .int .i64 R2.card] 41)
  go_wp2_with fail
  refine (HSH.out _).mono ?_
  rintro e w9 ⟨rfl, hb⟩
  replace B := B.on hb
  replace G := G.trans (hb.mono G.size)
  clear hb HSH
  have B8 := Blk.new w9 41 [.int .i64 R2.id, .string R2.name, .string R2.club, .int .i64 R2.born, .bool R2.woman, .int .i64 R2.card]
  replace B := B.alloc (.cells #[.int .i64 R2.id, .string R2.name, .string R2.club, .int .i64 R2.born, .bool R2.woman, .int .i64 R2.card] 41)
  replace G := G.alloc G.size (.cells #[.int .i64 R2.id, .string R2.name, .string R2.club, .int .i64 R2.born, .bool R2.woman, .int .i64 R2.card] 41)
  obtain ⟨b0, b1, b2, b3, b4, b5⟩ := blk6 B
  obtain ⟨d0, d1, d2, d3, d4, d5⟩ := blk6 B8
  have ltB := B.lt
  have ltB8 := B8.lt
  go_wp2_with fail
  refine (DrawAddRunner_any (hR.on G) HL.out (by omega)).mono ?_
  rintro e w10 ⟨g9, cp, l, x, rfl, hx, ⟨hcp, h20, hok, O0⟩, hb⟩
  clear b0 b1 b2 b3 b4 b5 d0 d1 d2 d3 d4 d5 B B8 ltB ltB8 v2
  have O := own_le O0 (base' := w.heap.size) G.size
  replace G := G.trans (hb.mono G.size)
  have HS : Hid (Szd l) := (show ∀ r ∈ l, _ from fun r h => ⟨(hok r h).2.1, (hok r h).2.2.1⟩)
  have HAS : Hid (Szd (adR l x)) := (adR_sz HS.out ⟨hx.2.1, hx.2.2.1⟩ : Szd (adR l x))
  have HAB := Lib.hid (adR_b l x)
  clear hb O0 hok
  generalize hll : l.length = ll at *
  have HLL := Lib.hid hll
  clear hll
  have B := Blk.new w10 41 [.int .i64 x.id, .string x.name, .string x.club, .int .i64 x.born, .bool x.woman, .int .i64 x.card]
  replace O := O.alloc (.cells #[.int .i64 x.id, .string x.name, .string x.club, .int .i64 x.born, .bool x.woman, .int .i64 x.card] 41)
  replace G := G.alloc G.size (.cells #[.int .i64 x.id, .string x.name, .string x.club, .int .i64 x.born, .bool x.woman, .int .i64 x.card] 41)
  obtain ⟨b0, b1, b2, b3, b4, b5⟩ := blk6 B
  go_wp2_with fail
  refine (AddRunner_impl (Rd.of_own O) (by omega) hcp HS.out ⟨hx.2.1, hx.2.2.1⟩).mono ?_
  rintro e w11 ⟨A1, c1, rfl, P0, hb⟩
  have P := own_le P0 (base' := w.heap.size) G.size
  replace O := own_below O hb
  replace B := B.on hb
  replace G := G.trans (hb.mono G.size)
  clear hb b0 b1 b2 b3 b4 b5
  obtain ⟨b0, b1, b2, b3, b4, b5⟩ := blk6 B
  clear P0
  go_wp2_with fail
  refine (AddRunner_spec (Rd.of_own O) (by omega) hcp HS.out ⟨hx.2.1, hx.2.2.1⟩).mono ?_
  rintro e w12 ⟨A2, c2, rfl, Q, hb⟩
  replace P := own_below P hb
  replace B := B.on hb
  replace G := G.trans (hb.mono G.size)
  clear hb b0 b1 b2 b3 b4 b5
  obtain ⟨b0, b1, b2, b3, b4, b5⟩ := blk6 B
  have v2 : (adOk l x != adOk l x) = false := by simp
  clear O
  go_wp2_with fail
  refine (rRunners_b (Rd.of_own P) (Rd.of_own Q) (by have := HAB.out; simp only [maxLen]; omega)).mono ?_
  rintro e w13 ⟨rfl, hb⟩
  replace P := own_below P hb
  replace B := B.on hb
  replace G := G.trans (hb.mono G.size)
  clear hb b0 b1 b2 b3 b4 b5
  obtain ⟨b0, b1, b2, b3, b4, b5⟩ := blk6 B
  clear Q v2
  cases had : adOk l x
  · clear P B b0 b1 b2 b3 b4 b5 HAS HAB HS HLL
    go_wp2_with fail
    refine (DrawSwapCards_any (hR.on G) HL.out (by omega)).mono ?_
    rintro e w20 ⟨g8, cp2, l2, a, b, rfl, ha, hbb, ⟨hcp2, h202, hok2, O0⟩, hb⟩
    have O := own_le O0 (base' := w.heap.size) G.size
    replace G := G.trans (hb.mono G.size)
    have HS2 : Hid (Szd l2) := (show ∀ r ∈ l2, _ from fun r h => ⟨(hok2 r h).2.1, (hok2 r h).2.2.1⟩)
    have HSW : Hid (Szd (swR l2 a b)) := (swR_sz HS2.out : Szd (swR l2 a b))
    have HSB := Lib.hid (swR_b l2 a b)
    clear hb O0 hok2
    generalize hll2 : l2.length = ll2 at *
    have HLL2 := Lib.hid hll2
    clear hll2
    go_wp2_with fail
    refine (SwapCards_impl (a := a) (b := b) (Rd.of_own O) (by omega) hcp2 HS2.out).mono ?_
    rintro e w21 ⟨A3, c3, rfl, P0, hb⟩
    have P := own_le P0 (base' := w.heap.size) G.size
    replace O := own_below O hb
    replace G := G.trans (hb.mono G.size)
    clear hb P0
    go_wp2_with fail
    refine (SwapCards_spec (a := a) (b := b) (Rd.of_own O) (by omega) hcp2 HS2.out).mono ?_
    rintro e w22 ⟨A4, c4, rfl, Q, hb⟩
    replace O := own_below O hb
    replace P := own_below P hb
    replace G := G.trans (hb.mono G.size)
    clear hb
    have v3 : (swOk l2 a b != swOk l2 a b) = false := by simp
    go_wp2_with fail
    refine (rRunners_b (Rd.of_own P) (Rd.of_own Q) (by have := HSB.out; simp only [maxLen]; omega)).mono ?_
    rintro e w23 ⟨rfl, hb⟩
    replace O := own_below O hb
    replace P := own_below P hb
    replace G := G.trans (hb.mono G.size)
    clear hb Q v3
    cases hsw : swOk l2 a b
    · clear O P HSW HSB HS2 HLL2
      go_wp2_with fail
      refine (DrawRunnerWithCard_any (hR.on G) HL.out (by omega)).mono ?_
      rintro e w30 ⟨g7, cp3, l3, cd, rfl, hcd, ⟨hcp3, h203, hok3, O0⟩, hb⟩
      have O := own_le O0 (base' := w.heap.size) G.size
      replace G := G.trans (hb.mono G.size)
      have HS3 : Hid (Szd l3) := (show ∀ r ∈ l3, _ from fun r h => ⟨(hok3 r h).2.1, (hok3 r h).2.2.1⟩)
      clear hb O0 hok3
      generalize hll3 : l3.length = ll3 at *
      clear hll3
      go_wp2_with fail
      refine (RunnerWithCard_impl (l := l3) (x := cd) (Rd.of_own O) (by omega) hcp3 HS3.out).mono ?_
      rintro e w31 ⟨rfl, hb⟩
      replace O := own_below O hb
      replace G := G.trans (hb.mono G.size)
      clear hb
      obtain ⟨R3, hR3⟩ : ∃ R3, rwR l3 cd = R3 := ⟨_, rfl⟩
      rw [hR3]
      have B := Blk.new w31 41 [.int .i64 R3.id, .string R3.name, .string R3.club, .int .i64 R3.born, .bool R3.woman, .int .i64 R3.card]
      replace O := O.alloc (.cells #[.int .i64 R3.id, .string R3.name, .string R3.club, .int .i64 R3.born, .bool R3.woman, .int .i64 R3.card] 41)
      replace G := G.alloc G.size (.cells #[.int .i64 R3.id, .string R3.name, .string R3.club, .int .i64 R3.born, .bool R3.woman, .int .i64 R3.card] 41)
      have HW3 := RunnerWithCard_spec (l := l3) (x := cd) (Rd.of_own O) (by omega) hcp3 HS3.out
      rw [hR3] at HW3
      clear hR3
      go_wp2_with fail
      refine HW3.mono ?_
      rintro e w32 ⟨rfl, hb⟩
      replace B := B.on hb
      replace G := G.trans (hb.mono G.size)
      clear hb HW3 O
      have B8 := Blk.new w32 41 [.int .i64 R3.id, .string R3.name, .string R3.club, .int .i64 R3.born, .bool R3.woman, .int .i64 R3.card]
      replace B := B.alloc (.cells #[.int .i64 R3.id, .string R3.name, .string R3.club, .int .i64 R3.born, .bool R3.woman, .int .i64 R3.card] 41)
      replace G := G.alloc G.size (.cells #[.int .i64 R3.id, .string R3.name, .string R3.club, .int .i64 R3.born, .bool R3.woman, .int .i64 R3.card] 41)
      obtain ⟨b0, b1, b2, b3, b4, b5⟩ := blk6 B
      obtain ⟨d0, d1, d2, d3, d4, d5⟩ := blk6 B8
      have ltB := B.lt
      have ltB8 := B8.lt
      have v9 : (rwOk l3 cd == rwOk l3 cd) = true := by simp
      go_wp2_with fail
      go_ret
      exact ⟨rfl, G⟩
    · obtain ⟨e1, e2⟩ := sw_twice hsw
      have HSC := SwapCards_impl (l := swR l2 a b) (a := a) (b := b) (Rd.of_own P) (by have := HSB.out; omega) (own_cap P) HSW.out
      rw [e1, e2, HLL2.out] at HSC
      have HSH := Lib.hid HSC
      clear HSC e1 e2 hsw
      go_wp2_with fail
      refine HSH.out.mono ?_
      rintro e w24 ⟨A5, c5, rfl, Q, hb⟩
      replace O := own_below O hb
      replace G := G.trans (hb.mono G.size)
      clear hb HSH P
      go_wp2_with fail
      refine (rRunners_b (Rd.of_own Q) (Rd.of_own O) (by simp only [maxLen]; omega)).mono ?_
      rintro e w25 ⟨rfl, hb⟩
      replace G := G.trans (hb.mono G.size)
      clear hb Q O HSW HSB HS2 HLL2
      go_wp2_with fail
      refine (DrawRunnerWithCard_any (hR.on G) HL.out (by omega)).mono ?_
      rintro e w30 ⟨g7, cp3, l3, cd, rfl, hcd, ⟨hcp3, h203, hok3, O0⟩, hb⟩
      have O := own_le O0 (base' := w.heap.size) G.size
      replace G := G.trans (hb.mono G.size)
      have HS3 : Hid (Szd l3) := (show ∀ r ∈ l3, _ from fun r h => ⟨(hok3 r h).2.1, (hok3 r h).2.2.1⟩)
      clear hb O0 hok3
      generalize hll3 : l3.length = ll3 at *
      clear hll3
      go_wp2_with fail
      refine (RunnerWithCard_impl (l := l3) (x := cd) (Rd.of_own O) (by omega) hcp3 HS3.out).mono ?_
      rintro e w31 ⟨rfl, hb⟩
      replace O := own_below O hb
      replace G := G.trans (hb.mono G.size)
      clear hb
      obtain ⟨R3, hR3⟩ : ∃ R3, rwR l3 cd = R3 := ⟨_, rfl⟩
      rw [hR3]
      have B := Blk.new w31 41 [.int .i64 R3.id, .string R3.name, .string R3.club, .int .i64 R3.born, .bool R3.woman, .int .i64 R3.card]
      replace O := O.alloc (.cells #[.int .i64 R3.id, .string R3.name, .string R3.club, .int .i64 R3.born, .bool R3.woman, .int .i64 R3.card] 41)
      replace G := G.alloc G.size (.cells #[.int .i64 R3.id, .string R3.name, .string R3.club, .int .i64 R3.born, .bool R3.woman, .int .i64 R3.card] 41)
      have HW3 := RunnerWithCard_spec (l := l3) (x := cd) (Rd.of_own O) (by omega) hcp3 HS3.out
      rw [hR3] at HW3
      clear hR3
      go_wp2_with fail
      refine HW3.mono ?_
      rintro e w32 ⟨rfl, hb⟩
      replace B := B.on hb
      replace G := G.trans (hb.mono G.size)
      clear hb HW3 O
      have B8 := Blk.new w32 41 [.int .i64 R3.id, .string R3.name, .string R3.club, .int .i64 R3.born, .bool R3.woman, .int .i64 R3.card]
      replace B := B.alloc (.cells #[.int .i64 R3.id, .string R3.name, .string R3.club, .int .i64 R3.born, .bool R3.woman, .int .i64 R3.card] 41)
      replace G := G.alloc G.size (.cells #[.int .i64 R3.id, .string R3.name, .string R3.club, .int .i64 R3.born, .bool R3.woman, .int .i64 R3.card] 41)
      obtain ⟨b0, b1, b2, b3, b4, b5⟩ := blk6 B
      obtain ⟨d0, d1, d2, d3, d4, d5⟩ := blk6 B8
      have ltB := B.lt
      have ltB8 := B8.lt
      have v9 : (rwOk l3 cd == rwOk l3 cd) = true := by simp
      go_wp2_with fail
      go_ret
      exact ⟨rfl, G⟩
  · obtain ⟨f1, f2, f3⟩ := ad_found had
    have F1 := Lib.hid f1
    have F2 := Lib.hid f2
    have F3 := Lib.hid f3
    clear f1 f2 f3 had HS HLL
    go_wp2_with fail
    refine (RunnerWithCard_impl (l := adR l x) (x := x.card) (Rd.of_own P) (by have := HAB.out; omega) (own_cap P) HAS.out).mono ?_
    rintro e w14 ⟨rfl, hb⟩
    rw [F2.out]
    replace P := own_below P hb
    replace B := B.on hb
    replace G := G.trans (hb.mono G.size)
    clear hb b0 b1 b2 b3 b4 b5
    obtain ⟨b0, b1, b2, b3, b4, b5⟩ := blk6 B
    obtain ⟨R, hRw⟩ : ∃ R, rwR (adR l x) x.card = R := ⟨_, rfl⟩
    have F4 : Hid (0 < x.card → R = x) := (fun h => by rw [← hRw]; exact F3.out h : 0 < x.card → R = x)
    rw [hRw]
    clear hRw F3 F2
    have B8 := Blk.new w14 41 [.int .i64 R.id, .string R.name, .string R.club, .int .i64 R.born, .bool R.woman, .int .i64 R.card]
    replace B := B.alloc (.cells #[.int .i64 R.id, .string R.name, .string R.club, .int .i64 R.born, .bool R.woman, .int .i64 R.card] 41)
    replace P := P.alloc (.cells #[.int .i64 R.id, .string R.name, .string R.club, .int .i64 R.born, .bool R.woman, .int .i64 R.card] 41)
    replace G := G.alloc G.size (.cells #[.int .i64 R.id, .string R.name, .string R.club, .int .i64 R.born, .bool R.woman, .int .i64 R.card] 41)
    clear b0 b1 b2 b3 b4 b5
    go_wp2_with fail
    refine (AreRunners_impl (Rd.of_own P) (by have := HAB.out; omega) (own_cap P) HAS.out).mono ?_
    rintro e w15 ⟨rfl, hb⟩
    rw [F1.out]
    replace B := B.on hb
    replace B8 := B8.on hb
    replace G := G.trans (hb.mono G.size)
    clear hb P F1 HAS HAB
    obtain ⟨b0, b1, b2, b3, b4, b5⟩ := blk6 B
    obtain ⟨d0, d1, d2, d3, d4, d5⟩ := blk6 B8
    have ltB := B.lt
    have ltB8 := B8.lt
    by_cases h0 : 0 < x.card
    · have hR9 := F4.out h0
      subst hR9
      have hd0 : decide (0 < R.card) = true := decide_eq_true h0
      clear F4 B B8
      go_wp2_with fail
      refine (DrawSwapCards_any (hR.on G) HL.out (by omega)).mono ?_
      rintro e w20 ⟨g8, cp2, l2, a, b, rfl, ha, hbb, ⟨hcp2, h202, hok2, O0⟩, hb⟩
      clear b0 b1 b2 b3 b4 b5 d0 d1 d2 d3 d4 d5 ltB ltB8
      have O := own_le O0 (base' := w.heap.size) G.size
      replace G := G.trans (hb.mono G.size)
      have HS2 : Hid (Szd l2) := (show ∀ r ∈ l2, _ from fun r h => ⟨(hok2 r h).2.1, (hok2 r h).2.2.1⟩)
      have HSW : Hid (Szd (swR l2 a b)) := (swR_sz HS2.out : Szd (swR l2 a b))
      have HSB := Lib.hid (swR_b l2 a b)
      clear hb O0 hok2
      generalize hll2 : l2.length = ll2 at *
      have HLL2 := Lib.hid hll2
      clear hll2
      go_wp2_with fail
      refine (SwapCards_impl (a := a) (b := b) (Rd.of_own O) (by omega) hcp2 HS2.out).mono ?_
      rintro e w21 ⟨A3, c3, rfl, P0, hb⟩
      have P := own_le P0 (base' := w.heap.size) G.size
      replace O := own_below O hb
      replace G := G.trans (hb.mono G.size)
      clear hb P0
      go_wp2_with fail
      refine (SwapCards_spec (a := a) (b := b) (Rd.of_own O) (by omega) hcp2 HS2.out).mono ?_
      rintro e w22 ⟨A4, c4, rfl, Q, hb⟩
      replace O := own_below O hb
      replace P := own_below P hb
      replace G := G.trans (hb.mono G.size)
      clear hb
      have v3 : (swOk l2 a b != swOk l2 a b) = false := by simp
      go_wp2_with fail
      refine (rRunners_b (Rd.of_own P) (Rd.of_own Q) (by have := HSB.out; simp only [maxLen]; omega)).mono ?_
      rintro e w23 ⟨rfl, hb⟩
      replace O := own_below O hb
      replace P := own_below P hb
      replace G := G.trans (hb.mono G.size)
      clear hb Q v3
      cases hsw : swOk l2 a b
      · clear O P HSW HSB HS2 HLL2
        go_wp2_with fail
        refine (DrawRunnerWithCard_any (hR.on G) HL.out (by omega)).mono ?_
        rintro e w30 ⟨g7, cp3, l3, cd, rfl, hcd, ⟨hcp3, h203, hok3, O0⟩, hb⟩
        have O := own_le O0 (base' := w.heap.size) G.size
        replace G := G.trans (hb.mono G.size)
        have HS3 : Hid (Szd l3) := (show ∀ r ∈ l3, _ from fun r h => ⟨(hok3 r h).2.1, (hok3 r h).2.2.1⟩)
        clear hb O0 hok3
        generalize hll3 : l3.length = ll3 at *
        clear hll3
        go_wp2_with fail
        refine (RunnerWithCard_impl (l := l3) (x := cd) (Rd.of_own O) (by omega) hcp3 HS3.out).mono ?_
        rintro e w31 ⟨rfl, hb⟩
        replace O := own_below O hb
        replace G := G.trans (hb.mono G.size)
        clear hb
        obtain ⟨R3, hR3⟩ : ∃ R3, rwR l3 cd = R3 := ⟨_, rfl⟩
        rw [hR3]
        have B := Blk.new w31 41 [.int .i64 R3.id, .string R3.name, .string R3.club, .int .i64 R3.born, .bool R3.woman, .int .i64 R3.card]
        replace O := O.alloc (.cells #[.int .i64 R3.id, .string R3.name, .string R3.club, .int .i64 R3.born, .bool R3.woman, .int .i64 R3.card] 41)
        replace G := G.alloc G.size (.cells #[.int .i64 R3.id, .string R3.name, .string R3.club, .int .i64 R3.born, .bool R3.woman, .int .i64 R3.card] 41)
        have HW3 := RunnerWithCard_spec (l := l3) (x := cd) (Rd.of_own O) (by omega) hcp3 HS3.out
        rw [hR3] at HW3
        clear hR3
        go_wp2_with fail
        refine HW3.mono ?_
        rintro e w32 ⟨rfl, hb⟩
        replace B := B.on hb
        replace G := G.trans (hb.mono G.size)
        clear hb HW3 O
        have B8 := Blk.new w32 41 [.int .i64 R3.id, .string R3.name, .string R3.club, .int .i64 R3.born, .bool R3.woman, .int .i64 R3.card]
        replace B := B.alloc (.cells #[.int .i64 R3.id, .string R3.name, .string R3.club, .int .i64 R3.born, .bool R3.woman, .int .i64 R3.card] 41)
        replace G := G.alloc G.size (.cells #[.int .i64 R3.id, .string R3.name, .string R3.club, .int .i64 R3.born, .bool R3.woman, .int .i64 R3.card] 41)
        obtain ⟨b0, b1, b2, b3, b4, b5⟩ := blk6 B
        obtain ⟨d0, d1, d2, d3, d4, d5⟩ := blk6 B8
        have ltB := B.lt
        have ltB8 := B8.lt
        have v9 : (rwOk l3 cd == rwOk l3 cd) = true := by simp
        go_wp2_with fail
        go_ret
        exact ⟨rfl, G⟩
      · obtain ⟨e1, e2⟩ := sw_twice hsw
        have HSC := SwapCards_impl (l := swR l2 a b) (a := a) (b := b) (Rd.of_own P) (by have := HSB.out; omega) (own_cap P) HSW.out
        rw [e1, e2, HLL2.out] at HSC
        have HSH := Lib.hid HSC
        clear HSC e1 e2 hsw
        go_wp2_with fail
        refine HSH.out.mono ?_
        rintro e w24 ⟨A5, c5, rfl, Q, hb⟩
        replace O := own_below O hb
        replace G := G.trans (hb.mono G.size)
        clear hb HSH P
        go_wp2_with fail
        refine (rRunners_b (Rd.of_own Q) (Rd.of_own O) (by simp only [maxLen]; omega)).mono ?_
        rintro e w25 ⟨rfl, hb⟩
        replace G := G.trans (hb.mono G.size)
        clear hb Q O HSW HSB HS2 HLL2
        go_wp2_with fail
        refine (DrawRunnerWithCard_any (hR.on G) HL.out (by omega)).mono ?_
        rintro e w30 ⟨g7, cp3, l3, cd, rfl, hcd, ⟨hcp3, h203, hok3, O0⟩, hb⟩
        have O := own_le O0 (base' := w.heap.size) G.size
        replace G := G.trans (hb.mono G.size)
        have HS3 : Hid (Szd l3) := (show ∀ r ∈ l3, _ from fun r h => ⟨(hok3 r h).2.1, (hok3 r h).2.2.1⟩)
        clear hb O0 hok3
        generalize hll3 : l3.length = ll3 at *
        clear hll3
        go_wp2_with fail
        refine (RunnerWithCard_impl (l := l3) (x := cd) (Rd.of_own O) (by omega) hcp3 HS3.out).mono ?_
        rintro e w31 ⟨rfl, hb⟩
        replace O := own_below O hb
        replace G := G.trans (hb.mono G.size)
        clear hb
        obtain ⟨R3, hR3⟩ : ∃ R3, rwR l3 cd = R3 := ⟨_, rfl⟩
        rw [hR3]
        have B := Blk.new w31 41 [.int .i64 R3.id, .string R3.name, .string R3.club, .int .i64 R3.born, .bool R3.woman, .int .i64 R3.card]
        replace O := O.alloc (.cells #[.int .i64 R3.id, .string R3.name, .string R3.club, .int .i64 R3.born, .bool R3.woman, .int .i64 R3.card] 41)
        replace G := G.alloc G.size (.cells #[.int .i64 R3.id, .string R3.name, .string R3.club, .int .i64 R3.born, .bool R3.woman, .int .i64 R3.card] 41)
        have HW3 := RunnerWithCard_spec (l := l3) (x := cd) (Rd.of_own O) (by omega) hcp3 HS3.out
        rw [hR3] at HW3
        clear hR3
        go_wp2_with fail
        refine HW3.mono ?_
        rintro e w32 ⟨rfl, hb⟩
        replace B := B.on hb
        replace G := G.trans (hb.mono G.size)
        clear hb HW3 O
        have B8 := Blk.new w32 41 [.int .i64 R3.id, .string R3.name, .string R3.club, .int .i64 R3.born, .bool R3.woman, .int .i64 R3.card]
        replace B := B.alloc (.cells #[.int .i64 R3.id, .string R3.name, .string R3.club, .int .i64 R3.born, .bool R3.woman, .int .i64 R3.card] 41)
        replace G := G.alloc G.size (.cells #[.int .i64 R3.id, .string R3.name, .string R3.club, .int .i64 R3.born, .bool R3.woman, .int .i64 R3.card] 41)
        obtain ⟨b0, b1, b2, b3, b4, b5⟩ := blk6 B
        obtain ⟨d0, d1, d2, d3, d4, d5⟩ := blk6 B8
        have ltB := B.lt
        have ltB8 := B8.lt
        have v9 : (rwOk l3 cd == rwOk l3 cd) = true := by simp
        go_wp2_with fail
        go_ret
        exact ⟨rfl, G⟩
    · have hd0 : decide (0 < x.card) = false := decide_eq_false h0
      clear F4 B B8
      go_wp2_with fail
      refine (DrawSwapCards_any (hR.on G) HL.out (by omega)).mono ?_
      rintro e w20 ⟨g8, cp2, l2, a, b, rfl, ha, hbb, ⟨hcp2, h202, hok2, O0⟩, hb⟩
      clear b0 b1 b2 b3 b4 b5 d0 d1 d2 d3 d4 d5 ltB ltB8
      have O := own_le O0 (base' := w.heap.size) G.size
      replace G := G.trans (hb.mono G.size)
      have HS2 : Hid (Szd l2) := (show ∀ r ∈ l2, _ from fun r h => ⟨(hok2 r h).2.1, (hok2 r h).2.2.1⟩)
      have HSW : Hid (Szd (swR l2 a b)) := (swR_sz HS2.out : Szd (swR l2 a b))
      have HSB := Lib.hid (swR_b l2 a b)
      clear hb O0 hok2
      generalize hll2 : l2.length = ll2 at *
      have HLL2 := Lib.hid hll2
      clear hll2
      go_wp2_with fail
      refine (SwapCards_impl (a := a) (b := b) (Rd.of_own O) (by omega) hcp2 HS2.out).mono ?_
      rintro e w21 ⟨A3, c3, rfl, P0, hb⟩
      have P := own_le P0 (base' := w.heap.size) G.size
      replace O := own_below O hb
      replace G := G.trans (hb.mono G.size)
      clear hb P0
      go_wp2_with fail
      refine (SwapCards_spec (a := a) (b := b) (Rd.of_own O) (by omega) hcp2 HS2.out).mono ?_
      rintro e w22 ⟨A4, c4, rfl, Q, hb⟩
      replace O := own_below O hb
      replace P := own_below P hb
      replace G := G.trans (hb.mono G.size)
      clear hb
      have v3 : (swOk l2 a b != swOk l2 a b) = false := by simp
      go_wp2_with fail
      refine (rRunners_b (Rd.of_own P) (Rd.of_own Q) (by have := HSB.out; simp only [maxLen]; omega)).mono ?_
      rintro e w23 ⟨rfl, hb⟩
      replace O := own_below O hb
      replace P := own_below P hb
      replace G := G.trans (hb.mono G.size)
      clear hb Q v3
      cases hsw : swOk l2 a b
      · clear O P HSW HSB HS2 HLL2
        go_wp2_with fail
        refine (DrawRunnerWithCard_any (hR.on G) HL.out (by omega)).mono ?_
        rintro e w30 ⟨g7, cp3, l3, cd, rfl, hcd, ⟨hcp3, h203, hok3, O0⟩, hb⟩
        have O := own_le O0 (base' := w.heap.size) G.size
        replace G := G.trans (hb.mono G.size)
        have HS3 : Hid (Szd l3) := (show ∀ r ∈ l3, _ from fun r h => ⟨(hok3 r h).2.1, (hok3 r h).2.2.1⟩)
        clear hb O0 hok3
        generalize hll3 : l3.length = ll3 at *
        clear hll3
        go_wp2_with fail
        refine (RunnerWithCard_impl (l := l3) (x := cd) (Rd.of_own O) (by omega) hcp3 HS3.out).mono ?_
        rintro e w31 ⟨rfl, hb⟩
        replace O := own_below O hb
        replace G := G.trans (hb.mono G.size)
        clear hb
        obtain ⟨R3, hR3⟩ : ∃ R3, rwR l3 cd = R3 := ⟨_, rfl⟩
        rw [hR3]
        have B := Blk.new w31 41 [.int .i64 R3.id, .string R3.name, .string R3.club, .int .i64 R3.born, .bool R3.woman, .int .i64 R3.card]
        replace O := O.alloc (.cells #[.int .i64 R3.id, .string R3.name, .string R3.club, .int .i64 R3.born, .bool R3.woman, .int .i64 R3.card] 41)
        replace G := G.alloc G.size (.cells #[.int .i64 R3.id, .string R3.name, .string R3.club, .int .i64 R3.born, .bool R3.woman, .int .i64 R3.card] 41)
        have HW3 := RunnerWithCard_spec (l := l3) (x := cd) (Rd.of_own O) (by omega) hcp3 HS3.out
        rw [hR3] at HW3
        clear hR3
        go_wp2_with fail
        refine HW3.mono ?_
        rintro e w32 ⟨rfl, hb⟩
        replace B := B.on hb
        replace G := G.trans (hb.mono G.size)
        clear hb HW3 O
        have B8 := Blk.new w32 41 [.int .i64 R3.id, .string R3.name, .string R3.club, .int .i64 R3.born, .bool R3.woman, .int .i64 R3.card]
        replace B := B.alloc (.cells #[.int .i64 R3.id, .string R3.name, .string R3.club, .int .i64 R3.born, .bool R3.woman, .int .i64 R3.card] 41)
        replace G := G.alloc G.size (.cells #[.int .i64 R3.id, .string R3.name, .string R3.club, .int .i64 R3.born, .bool R3.woman, .int .i64 R3.card] 41)
        obtain ⟨b0, b1, b2, b3, b4, b5⟩ := blk6 B
        obtain ⟨d0, d1, d2, d3, d4, d5⟩ := blk6 B8
        have ltB := B.lt
        have ltB8 := B8.lt
        have v9 : (rwOk l3 cd == rwOk l3 cd) = true := by simp
        go_wp2_with fail
        go_ret
        exact ⟨rfl, G⟩
      · obtain ⟨e1, e2⟩ := sw_twice hsw
        have HSC := SwapCards_impl (l := swR l2 a b) (a := a) (b := b) (Rd.of_own P) (by have := HSB.out; omega) (own_cap P) HSW.out
        rw [e1, e2, HLL2.out] at HSC
        have HSH := Lib.hid HSC
        clear HSC e1 e2 hsw
        go_wp2_with fail
        refine HSH.out.mono ?_
        rintro e w24 ⟨A5, c5, rfl, Q, hb⟩
        replace O := own_below O hb
        replace G := G.trans (hb.mono G.size)
        clear hb HSH P
        go_wp2_with fail
        refine (rRunners_b (Rd.of_own Q) (Rd.of_own O) (by simp only [maxLen]; omega)).mono ?_
        rintro e w25 ⟨rfl, hb⟩
        replace G := G.trans (hb.mono G.size)
        clear hb Q O HSW HSB HS2 HLL2
        go_wp2_with fail
        refine (DrawRunnerWithCard_any (hR.on G) HL.out (by omega)).mono ?_
        rintro e w30 ⟨g7, cp3, l3, cd, rfl, hcd, ⟨hcp3, h203, hok3, O0⟩, hb⟩
        have O := own_le O0 (base' := w.heap.size) G.size
        replace G := G.trans (hb.mono G.size)
        have HS3 : Hid (Szd l3) := (show ∀ r ∈ l3, _ from fun r h => ⟨(hok3 r h).2.1, (hok3 r h).2.2.1⟩)
        clear hb O0 hok3
        generalize hll3 : l3.length = ll3 at *
        clear hll3
        go_wp2_with fail
        refine (RunnerWithCard_impl (l := l3) (x := cd) (Rd.of_own O) (by omega) hcp3 HS3.out).mono ?_
        rintro e w31 ⟨rfl, hb⟩
        replace O := own_below O hb
        replace G := G.trans (hb.mono G.size)
        clear hb
        obtain ⟨R3, hR3⟩ : ∃ R3, rwR l3 cd = R3 := ⟨_, rfl⟩
        rw [hR3]
        have B := Blk.new w31 41 [.int .i64 R3.id, .string R3.name, .string R3.club, .int .i64 R3.born, .bool R3.woman, .int .i64 R3.card]
        replace O := O.alloc (.cells #[.int .i64 R3.id, .string R3.name, .string R3.club, .int .i64 R3.born, .bool R3.woman, .int .i64 R3.card] 41)
        replace G := G.alloc G.size (.cells #[.int .i64 R3.id, .string R3.name, .string R3.club, .int .i64 R3.born, .bool R3.woman, .int .i64 R3.card] 41)
        have HW3 := RunnerWithCard_spec (l := l3) (x := cd) (Rd.of_own O) (by omega) hcp3 HS3.out
        rw [hR3] at HW3
        clear hR3
        go_wp2_with fail
        refine HW3.mono ?_
        rintro e w32 ⟨rfl, hb⟩
        replace B := B.on hb
        replace G := G.trans (hb.mono G.size)
        clear hb HW3 O
        have B8 := Blk.new w32 41 [.int .i64 R3.id, .string R3.name, .string R3.club, .int .i64 R3.born, .bool R3.woman, .int .i64 R3.card]
        replace B := B.alloc (.cells #[.int .i64 R3.id, .string R3.name, .string R3.club, .int .i64 R3.born, .bool R3.woman, .int .i64 R3.card] 41)
        replace G := G.alloc G.size (.cells #[.int .i64 R3.id, .string R3.name, .string R3.club, .int .i64 R3.born, .bool R3.woman, .int .i64 R3.card] 41)
        obtain ⟨b0, b1, b2, b3, b4, b5⟩ := blk6 B
        obtain ⟨d0, d1, d2, d3, d4, d5⟩ := blk6 B8
        have ltB := B.lt
        have ltB8 := B8.lt
        have v9 : (rwOk l3 cd == rwOk l3 cd) = true := by simp
        go_wp2_with fail
        go_ret
        exact ⟨rfl, G⟩
end Go.Proofs.YtmmpcchjalgokaaGreatDoor
