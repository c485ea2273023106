/- Contracts: RunnerWithCard, the program's and the reference's. -/
import Derived.Test.YtmmpcchjalgokaaGreatDoorRnl
import Derived.Deep.DeepCutAuto
namespace Go.Proofs.YtmmpcchjalgokaaGreatDoor
set_option linter.unusedVariables false
set_option linter.unusedSimpArgs false
open Go.RowKit
theorem idxB_some {α : Type} {p : α → Bool} : ∀ (l : List α) (b : Nat), 0 ≤ idxB p l b → ∃ k, ∃ hk : k < l.length, idxB p l b = ((b + k : Nat) : Int) ∧ p l[k] = true ∧ ∀ (j : Nat) (hj : j < l.length), j < k → p l[j] = false
  | [], b, h => by simp [idxB] at h
  | x :: r, b, h => by
    cases hx : p x
    · have e0 : idxB p (x :: r) b = idxB p r (b + 1) := by rw [idxB, hx]; rfl
      rw [e0] at h
      obtain ⟨k, hk, e, f, g⟩ := idxB_some r (b + 1) h
      refine ⟨k + 1, by simpa using hk, by rw [e0, e]; congr 1; omega, by simpa using f, fun j hj hjk => ?_⟩
      cases j with
      | zero => simpa using hx
      | succ j => simpa using g j (by simpa using hj) (by omega)
    · exact ⟨0, by simp, by rw [idxB, hx]; rfl, by simpa using hx, fun j hj h => by omega⟩
def rwX (l : List Rn) (x : Int) : Int := idxB (fun c => c.card == x) l 0
def rwOk (l : List Rn) (x : Int) : Bool := okRns l && (insideB x 1 9999 && decide (0 ≤ rwX l x))
def rnZ : Rn := ⟨0, ⟨#[]⟩, ⟨#[]⟩, 0, false, 0⟩
def rwR (l : List Rn) (x : Int) : Rn := if rwOk l x = true then rnA l (rwX l x).toNat else rnZ
set_option maxRecDepth 100000 in
set_option maxHeartbeats 2000000 in
theorem RunnerWithCard_impl {R : Option Addr} {q cq : Nat} {l : List Rn} {x : Int} {w : World} (hR : Rd w w.heap.size 6 R q (rns l)) (hq : q ≤ 1048576) (hqc : q ≤ cq) (hs : ∀ r ∈ l, r.name.size ≤ maxLen ∧ r.club.size ≤ maxLen) :
    Calls Tryz.prog 30 #[.slice R q cq, .int .i64 x] w fun e w' => e = .returned (.tuple #[.agg #[.int .i64 (rwR l x).id, .string (rwR l x).name, .string (rwR l x).club, .int .i64 (rwR l x).born, .bool (rwR l x).woman, .int .i64 (rwR l x).card], .bool (rwOk l x)]) ∧ Below w.heap.size w w' := by
  have HQ := Lib.hid hR.rlen
  have HSZ := Lib.hid hs
  clear hs
  have Z := Blk.new w 41 [.int .i64 0, .string ByteArray.empty, .string ByteArray.empty, .int .i64 0, .bool false, .int .i64 0]
  have G : Below w.heap.size w (w.alloc (.cells #[.int .i64 0, .string ByteArray.empty, .string ByteArray.empty, .int .i64 0, .bool false, .int .i64 0] 41)) := (by repeat (first | exact Below.refl _ _ | refine below_drewN ?_ _ | refine Below.drew ?_ | refine Below.alloc ?_ (by first | omega | (simp; done) | (simp; omega)) _ | refine Below.setCell ?_ (by first | omega | (simp; done) | (simp; omega)) _))
  cases hok : okRns l
  · have e1 : rwOk l x = false := by unfold rwOk; rw [hok]; rfl
    have e2 : rwR l x = rnZ := by unfold rwR; rw [e1]; rfl
    rw [e1, e2]; clear e1 e2
    have HOK := Lib.hid hok
    clear hok
    go_enter Tryz.func30, Tryz.ntmps30
    go_wp2_with fail
    refine (cardIndex_any (hR.on G) hq).mono ?_
    rintro e w1 ⟨rfl, hb⟩
    replace Z := Z.on hb
    replace G := G.trans (hb.mono G.size)
    clear hb
    rw [show idxB (fun c => c.card == x) l 0 = rwX l x from rfl]
    go_wp2_with fail
    refine (AreRunners_impl (hR.on G) hq hqc HSZ.out).mono ?_
    rintro e w2 ⟨rfl, hb⟩
    replace Z := Z.on hb
    replace G := G.trans (hb.mono G.size)
    clear hb
    rw [HOK.out]
    obtain ⟨z0, z1, z2, z3, z4, z5⟩ := RnAt.blk (r := rnZ) Z
    simp only [Nat.zero_add] at z1 z2 z3 z4 z5
    have f0 := Z.frozen 0
    have f1 := Z.frozen 1
    have f2 := Z.frozen 2
    have f3 := Z.frozen 3
    have f4 := Z.frozen 4
    have f5 := Z.frozen 5
    have Z2 := Z.put6 0 rnZ
    have Z3 := RnAt.blk (r := rnZ) Z2
    obtain ⟨q0, q1, q2, q3, q4, q5⟩ := Z3
    simp only [Nat.zero_add] at q0 q1 q2 q3 q4 q5
    have GP := below_put6 G (Nat.le_refl _) 0 rnZ
    simp only [Nat.zero_add] at GP
    simp only [rnZ] at q0 q1 q2 q3 q4 q5
    clear Z2
    go_wp2_with fail
    refine bodyPost_ret (v := .tuple #[.agg #[.int .i64 0, .string ⟨#[]⟩, .string ⟨#[]⟩, .int .i64 0, .bool false, .int .i64 0], .bool false]) (by simp [results, Tryz.results30, go_sem, q0, q1, q2, q3, q4, q5]) rfl ⟨rfl, GP⟩
  · have HOK := Lib.hid hok
    cases hin : insideB x 1 9999
    · have e1 : rwOk l x = false := by unfold rwOk; rw [hin]; simp
      have e2 : rwR l x = rnZ := by unfold rwR; rw [e1]; rfl
      rw [e1, e2]; clear e1 e2
      have HIN := Lib.hid hin
      clear hok hin
      go_enter Tryz.func30, Tryz.ntmps30
      go_wp2_with fail
      refine (cardIndex_any (hR.on G) hq).mono ?_
      rintro e w1 ⟨rfl, hb⟩
      replace Z := Z.on hb
      replace G := G.trans (hb.mono G.size)
      clear hb
      rw [show idxB (fun c => c.card == x) l 0 = rwX l x from rfl]
      go_wp2_with fail
      refine (AreRunners_impl (hR.on G) hq hqc HSZ.out).mono ?_
      rintro e w2 ⟨rfl, hb⟩
      replace Z := Z.on hb
      replace G := G.trans (hb.mono G.size)
      clear hb
      rw [HOK.out]
      go_wp2_with fail
      refine (inside_any x 1 9999 _).mono ?_
      rintro e w3 ⟨rfl, rfl⟩
      rw [HIN.out]
      obtain ⟨z0, z1, z2, z3, z4, z5⟩ := RnAt.blk (r := rnZ) Z
      simp only [Nat.zero_add] at z1 z2 z3 z4 z5
      have f0 := Z.frozen 0
      have f1 := Z.frozen 1
      have f2 := Z.frozen 2
      have f3 := Z.frozen 3
      have f4 := Z.frozen 4
      have f5 := Z.frozen 5
      have Z2 := Z.put6 0 rnZ
      have Z3 := RnAt.blk (r := rnZ) Z2
      obtain ⟨q0, q1, q2, q3, q4, q5⟩ := Z3
      simp only [Nat.zero_add] at q0 q1 q2 q3 q4 q5
      have GP := below_put6 G (Nat.le_refl _) 0 rnZ
      simp only [Nat.zero_add] at GP
      simp only [rnZ] at q0 q1 q2 q3 q4 q5
      clear Z2
      go_wp2_with fail
      refine bodyPost_ret (v := .tuple #[.agg #[.int .i64 0, .string ⟨#[]⟩, .string ⟨#[]⟩, .int .i64 0, .bool false, .int .i64 0], .bool false]) (by simp [results, Tryz.results30, go_sem, q0, q1, q2, q3, q4, q5]) rfl ⟨rfl, GP⟩
    · have HIN := Lib.hid hin
      by_cases h0 : 0 ≤ rwX l x
      · obtain ⟨k9, hk9, hix, hpk, hnk⟩ := idxB_some l 0 h0
        have hix2 : rwX l x = (k9 : Int) := by unfold rwX; rw [hix]; simp
        have e1 : rwOk l x = true := by unfold rwOk; rw [hok, hin, hix2]; simp
        have e2 : rwR l x = l[k9] := by unfold rwR; rw [e1, if_pos rfl, hix2]; exact rnA_get (by simpa using hk9)
        rw [e1, e2]; clear e1 e2
        have HIX := Lib.hid hix2
        have hq0 : k9 < q := by rw [← HQ.out]; exact hk9
        have hk9q : (k9 : Int) < (q : Int) := by omega
        have k90 : ¬ (k9 : Int) < 0 := by omega
        have k91 : decide ((k9 : Int) < 0) = false := by simp
        obtain ⟨b, off, rfl, hbb, hca⟩ := hR.rn (show 0 < q by omega)
        have CK := hca k9 hk9
        generalize l[k9] = r at *
        clear hca hix hix2 h0 hok hin hpk hnk
        go_enter Tryz.func30, Tryz.ntmps30
        go_wp2_with fail
        refine (cardIndex_any (hR.on G) hq).mono ?_
        rintro e w1 ⟨rfl, hb⟩
        replace Z := Z.on hb
        replace G := G.trans (hb.mono G.size)
        clear hb
        rw [show idxB (fun c => c.card == x) l 0 = rwX l x from rfl]
        rw [HIX.out]
        go_wp2_with fail
        refine (AreRunners_impl (hR.on G) hq hqc HSZ.out).mono ?_
        rintro e w2 ⟨rfl, hb⟩
        replace Z := Z.on hb
        replace G := G.trans (hb.mono G.size)
        clear hb
        rw [HOK.out]
        go_wp2_with fail
        refine (inside_any x 1 9999 _).mono ?_
        rintro e w3 ⟨rfl, rfl⟩
        rw [HIN.out]
        go_upto_region 4 with (fail)
        obtain ⟨c0, c1, c2, c3, c4, c5⟩ := CK.below G hbb
        obtain ⟨z0, z1, z2, z3, z4, z5⟩ := RnAt.blk (r := rnZ) Z
        simp only [Nat.zero_add] at z1 z2 z3 z4 z5
        have f0 := Z.frozen 0
        have f1 := Z.frozen 1
        have f2 := Z.frozen 2
        have f3 := Z.frozen 3
        have f4 := Z.frozen 4
        have f5 := Z.frozen 5
        have Z2 := Z.put6 0 r
        obtain ⟨q0, q1, q2, q3, q4, q5⟩ := RnAt.blk (r := r) Z2
        simp only [Nat.zero_add] at q0 q1 q2 q3 q4 q5
        have GP := below_put6 G (Nat.le_refl _) 0 r
        simp only [Nat.zero_add] at GP
        clear Z2
        go_wp2_with fail
        refine bodyPost_ret (v := .tuple #[.agg #[.int .i64 r.id, .string r.name, .string r.club, .int .i64 r.born, .bool r.woman, .int .i64 r.card], .bool true]) (by simp [results, Tryz.results30, go_sem, q0, q1, q2, q3, q4, q5]) rfl ⟨rfl, GP⟩
      · have e1 : rwOk l x = false := by unfold rwOk; rw [show decide (0 ≤ rwX l x) = false by simpa using h0]; simp
        have e2 : rwR l x = rnZ := by unfold rwR; rw [e1]; rfl
        rw [e1, e2]; clear e1 e2
        have h9 : decide (rwX l x < 0) = true := by simp; omega
        have h8 : rwX l x < 0 := by omega
        clear hok hin h0
        go_enter Tryz.func30, Tryz.ntmps30
        go_wp2_with fail
        refine (cardIndex_any (hR.on G) hq).mono ?_
        rintro e w1 ⟨rfl, hb⟩
        replace Z := Z.on hb
        replace G := G.trans (hb.mono G.size)
        clear hb
        rw [show idxB (fun c => c.card == x) l 0 = rwX l x from rfl]
        go_wp2_with fail
        refine (AreRunners_impl (hR.on G) hq hqc HSZ.out).mono ?_
        rintro e w2 ⟨rfl, hb⟩
        replace Z := Z.on hb
        replace G := G.trans (hb.mono G.size)
        clear hb
        rw [HOK.out]
        go_wp2_with fail
        refine (inside_any x 1 9999 _).mono ?_
        rintro e w3 ⟨rfl, rfl⟩
        rw [HIN.out]
        obtain ⟨z0, z1, z2, z3, z4, z5⟩ := RnAt.blk (r := rnZ) Z
        simp only [Nat.zero_add] at z1 z2 z3 z4 z5
        have f0 := Z.frozen 0
        have f1 := Z.frozen 1
        have f2 := Z.frozen 2
        have f3 := Z.frozen 3
        have f4 := Z.frozen 4
        have f5 := Z.frozen 5
        have Z2 := Z.put6 0 rnZ
        have Z3 := RnAt.blk (r := rnZ) Z2
        obtain ⟨q0, q1, q2, q3, q4, q5⟩ := Z3
        simp only [Nat.zero_add] at q0 q1 q2 q3 q4 q5
        have GP := below_put6 G (Nat.le_refl _) 0 rnZ
        simp only [Nat.zero_add] at GP
        simp only [rnZ] at q0 q1 q2 q3 q4 q5
        clear Z2
        go_wp2_with fail
        refine bodyPost_ret (v := .tuple #[.agg #[.int .i64 0, .string ⟨#[]⟩, .string ⟨#[]⟩, .int .i64 0, .bool false, .int .i64 0], .bool false]) (by simp [results, Tryz.results30, go_sem, q0, q1, q2, q3, q4, q5]) rfl ⟨rfl, GP⟩
set_option maxRecDepth 100000 in
set_option maxHeartbeats 2000000 in
theorem RunnerWithCard_spec {R : Option Addr} {q cq : Nat} {l : List Rn} {x : Int} {w : World} (hR : Rd w w.heap.size 6 R q (rns l)) (hq : q ≤ 1048576) (hqc : q ≤ cq) (hs : ∀ r ∈ l, r.name.size ≤ maxLen ∧ r.club.size ≤ maxLen) :
    Calls Tryz.prog 36 #[.slice R q cq, .int .i64 x] w fun e w' => e = .returned (.tuple #[.agg #[.int .i64 (rwR l x).id, .string (rwR l x).name, .string (rwR l x).club, .int .i64 (rwR l x).born, .bool (rwR l x).woman, .int .i64 (rwR l x).card], .bool (rwOk l x)]) ∧ Below w.heap.size w w' := by
  have HQ := Lib.hid hR.rlen
  have HSZ := Lib.hid hs
  clear hs
  have Z := Blk.new w 41 [.int .i64 0, .string ByteArray.empty, .string ByteArray.empty, .int .i64 0, .bool false, .int .i64 0]
  have G : Below w.heap.size w (w.alloc (.cells #[.int .i64 0, .string ByteArray.empty, .string ByteArray.empty, .int .i64 0, .bool false, .int .i64 0] 41)) := (by repeat (first | exact Below.refl _ _ | refine below_drewN ?_ _ | refine Below.drew ?_ | refine Below.alloc ?_ (by first | omega | (simp; done) | (simp; omega)) _ | refine Below.setCell ?_ (by first | omega | (simp; done) | (simp; omega)) _))
  cases hok : okRns l
  · have e1 : rwOk l x = false := by unfold rwOk; rw [hok]; rfl
    have e2 : rwR l x = rnZ := by unfold rwR; rw [e1]; rfl
    rw [e1, e2]; clear e1 e2
    have HOK := Lib.hid hok
    clear hok
    go_enter Tryz.func36, Tryz.ntmps36
    go_wp2_with fail
    refine (l5Good_any (hR.on G) hq hqc HSZ.out).mono ?_
    rintro e w2 ⟨rfl, hb⟩
    replace Z := Z.on hb
    replace G := G.trans (hb.mono G.size)
    clear hb
    rw [HOK.out]
    obtain ⟨z0, z1, z2, z3, z4, z5⟩ := RnAt.blk (r := rnZ) Z
    simp only [Nat.zero_add] at z1 z2 z3 z4 z5
    have f0 := Z.frozen 0
    have f1 := Z.frozen 1
    have f2 := Z.frozen 2
    have f3 := Z.frozen 3
    have f4 := Z.frozen 4
    have f5 := Z.frozen 5
    have Z2 := Z.put6 0 rnZ
    have Z3 := RnAt.blk (r := rnZ) Z2
    obtain ⟨q0, q1, q2, q3, q4, q5⟩ := Z3
    simp only [Nat.zero_add] at q0 q1 q2 q3 q4 q5
    have GP := below_put6 G (Nat.le_refl _) 0 rnZ
    simp only [Nat.zero_add] at GP
    simp only [rnZ] at q0 q1 q2 q3 q4 q5
    clear Z2
    go_wp2_with fail
    refine bodyPost_ret (v := .tuple #[.agg #[.int .i64 0, .string ⟨#[]⟩, .string ⟨#[]⟩, .int .i64 0, .bool false, .int .i64 0], .bool false]) (by simp [results, Tryz.results36, go_sem, q0, q1, q2, q3, q4, q5]) rfl ⟨rfl, GP⟩
  · have HOK := Lib.hid hok
    cases hin : insideB x 1 9999
    · have e1 : rwOk l x = false := by unfold rwOk; rw [hin]; simp
      have e2 : rwR l x = rnZ := by unfold rwR; rw [e1]; rfl
      rw [e1, e2]; clear e1 e2
      have HIN := Lib.hid hin
      clear hok hin
      go_enter Tryz.func36, Tryz.ntmps36
      go_wp2_with fail
      refine (l5Good_any (hR.on G) hq hqc HSZ.out).mono ?_
      rintro e w2 ⟨rfl, hb⟩
      replace Z := Z.on hb
      replace G := G.trans (hb.mono G.size)
      clear hb
      rw [HOK.out]
      go_wp2_with fail
      refine (l1In_any x 1 9999 _).mono ?_
      rintro e w3 ⟨rfl, rfl⟩
      rw [HIN.out]
      obtain ⟨z0, z1, z2, z3, z4, z5⟩ := RnAt.blk (r := rnZ) Z
      simp only [Nat.zero_add] at z1 z2 z3 z4 z5
      have f0 := Z.frozen 0
      have f1 := Z.frozen 1
      have f2 := Z.frozen 2
      have f3 := Z.frozen 3
      have f4 := Z.frozen 4
      have f5 := Z.frozen 5
      have Z2 := Z.put6 0 rnZ
      have Z3 := RnAt.blk (r := rnZ) Z2
      obtain ⟨q0, q1, q2, q3, q4, q5⟩ := Z3
      simp only [Nat.zero_add] at q0 q1 q2 q3 q4 q5
      have GP := below_put6 G (Nat.le_refl _) 0 rnZ
      simp only [Nat.zero_add] at GP
      simp only [rnZ] at q0 q1 q2 q3 q4 q5
      clear Z2
      go_wp2_with fail
      refine bodyPost_ret (v := .tuple #[.agg #[.int .i64 0, .string ⟨#[]⟩, .string ⟨#[]⟩, .int .i64 0, .bool false, .int .i64 0], .bool false]) (by simp [results, Tryz.results36, go_sem, q0, q1, q2, q3, q4, q5]) rfl ⟨rfl, GP⟩
    · have HIN := Lib.hid hin
      clear hok hin
      go_enter Tryz.func36, Tryz.ntmps36
      go_wp2_with fail
      refine (l5Good_any (hR.on G) hq hqc HSZ.out).mono ?_
      rintro e w2 ⟨rfl, hb⟩
      replace Z := Z.on hb
      replace G := G.trans (hb.mono G.size)
      clear hb
      rw [HOK.out]
      go_wp2_with fail
      refine (l1In_any x 1 9999 _).mono ?_
      rintro e w3 ⟨rfl, rfl⟩
      rw [HIN.out]
      go_wp2_with fail
      go_loopw [6] (fun i wr => ∃ j : Nat, j ≤ q ∧ i = .int .i64 j ∧ Hid (∀ (e : Nat) (he : e < l.length), e < j → (l[e].card == x) = false) ∧ Blk wr w.heap.size 41 [.int .i64 0, .string ByteArray.empty, .string ByteArray.empty, .int .i64 0, .bool false, .int .i64 0] ∧ Below w.heap.size w wr) (fun i _ => q - (intOf i).toNat)
      case atStart => exact ⟨0, Nat.zero_le _, rfl, (fun j _ h => absurd h (by omega)), Z, G⟩
      clear Z G
      case round =>
        obtain ⟨j, hj, rfl, HN, Z, G⟩ := hrel
        by_cases hlt : j < q
        · obtain ⟨b, off, rfl, hbb, hca⟩ := hR.rn (show 0 < q by omega)
          have kx : j < l.length := by rw [HQ.out]; exact hlt
          have CK := hca j kx
          obtain ⟨c0, c1, c2, c3, c4, c5⟩ := CK.below G hbb
          clear hca
          cases hce : l[j].card == x
          · have HQ9 := Lib.hid hce
            go_wp2_with fail
            go_roundw
            case rel => exact ⟨j + 1, by omega, by go_num, (show ∀ (e : Nat) (he : e < l.length), e < j + 1 → (l[e].card == x) = false from fun e he hej => by
              by_cases ee : e = j
              · subst ee; exact HQ9.out
              · exact HN.out e he (by omega)), Z, G⟩
            case measure => simp [intOf]; omega
          · have HQ9 := Lib.hid hce
            have hix : rwX l x = (j : Int) := by unfold rwX; rw [idxB_hit l 0 j kx HQ9.out HN.out]; simp
            have e1 := Lib.hid (show rwOk l x = true by unfold rwOk; rw [HOK.out, HIN.out, hix]; simp)
            have e2 := Lib.hid (show rwR l x = l[j] by unfold rwR; rw [e1.out, if_pos rfl, hix]; exact rnA_get (by simpa using kx))
            clear hix
            generalize l[j] = r at *
            obtain ⟨z0, z1, z2, z3, z4, z5⟩ := RnAt.blk (r := rnZ) Z
            simp only [Nat.zero_add] at z1 z2 z3 z4 z5
            have f0 := Z.frozen 0
            have f1 := Z.frozen 1
            have f2 := Z.frozen 2
            have f3 := Z.frozen 3
            have f4 := Z.frozen 4
            have f5 := Z.frozen 5
            have Z2 := Z.put6 0 r
            obtain ⟨q0, q1, q2, q3, q4, q5⟩ := RnAt.blk (r := r) Z2
            simp only [Nat.zero_add] at q0 q1 q2 q3 q4 q5
            have GP := below_put6 G (Nat.le_refl _) 0 r
            simp only [Nat.zero_add] at GP
            clear Z2
            go_wp2_with fail
            refine bodyPost_ret (v := .tuple #[.agg #[.int .i64 r.id, .string r.name, .string r.club, .int .i64 r.born, .bool r.woman, .int .i64 r.card], .bool true]) (by simp [results, Tryz.results36, go_sem, q0, q1, q2, q3, q4, q5]) rfl ⟨by rw [e1.out, e2.out], GP⟩
        · have hmiss : rwX l x = -1 := by unfold rwX; exact idxB_miss l 0 fun j hj => HN.out j hj (by rw [HQ.out] at hj; omega)
          have e1 := Lib.hid (show rwOk l x = false by unfold rwOk; rw [hmiss]; simp)
          have e2 := Lib.hid (show rwR l x = rnZ by unfold rwR; rw [e1.out]; rfl)
          clear hmiss
          obtain ⟨z0, z1, z2, z3, z4, z5⟩ := RnAt.blk (r := rnZ) Z
          simp only [Nat.zero_add] at z1 z2 z3 z4 z5
          have f0 := Z.frozen 0
          have f1 := Z.frozen 1
          have f2 := Z.frozen 2
          have f3 := Z.frozen 3
          have f4 := Z.frozen 4
          have f5 := Z.frozen 5
          have Z2 := Z.put6 0 rnZ
          have Z3 := RnAt.blk (r := rnZ) Z2
          obtain ⟨q0, q1, q2, q3, q4, q5⟩ := Z3
          simp only [Nat.zero_add] at q0 q1 q2 q3 q4 q5
          have GP := below_put6 G (Nat.le_refl _) 0 rnZ
          simp only [Nat.zero_add] at GP
          simp only [rnZ] at q0 q1 q2 q3 q4 q5
          clear Z2
          go_wp2_with fail
          refine bodyPost_ret (v := .tuple #[.agg #[.int .i64 0, .string ⟨#[]⟩, .string ⟨#[]⟩, .int .i64 0, .bool false, .int .i64 0], .bool false]) (by simp [results, Tryz.results36, go_sem, q0, q1, q2, q3, q4, q5]) rfl ⟨by rw [e1.out, e2.out]; rfl, GP⟩
end Go.Proofs.YtmmpcchjalgokaaGreatDoor
