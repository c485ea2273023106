/- The draws of the law about runners' texts, cards and lists. -/
import Derived.Test.YtmmpcchjalgokaaGreatDoorDrc
import Derived.Test.YtmmpcchjalgokaaGreatDoorSpo
import Derived.Test.YtmmpcchjalgokaaGreatDoorRtx
namespace Go.Proofs.YtmmpcchjalgokaaGreatDoor
set_option linter.unusedVariables false
set_option linter.unusedSimpArgs false
open Go.RowKit
theorem three_new (w : World) (o p : Obj) (t : TypeId) (cs : List Value) : Blk (((w.alloc o).alloc p).alloc (.cells cs.toArray t)) (w.heap.size + 1 + 1) t cs := by
  have := Blk.new ((w.alloc o).alloc p) t cs
  rwa [World.size_alloc, World.size_alloc] at this
def idL : List Int := [1, 42, 999]
theorem idL_bd : ∀ x ∈ idL, 0 ≤ x ∧ x ≤ 1000 := by decide
set_option maxRecDepth 100000 in
set_option maxHeartbeats 1000000 in
theorem DrawIsRunner_any {C : Option Addr} {n c : Nat} {l : List Int} {w : World} (hR : Rd w w.heap.size 1 C n (bys l)) (hl : ∀ x ∈ l, 0 ≤ x ∧ x ≤ 255) (hn : n ≤ 65536) :
    Calls Tryz.prog 66 #[.slice C n c] w fun e w' => ∃ r : Rn, Rn.Ok r ∧ e = .returned (.agg #[.int .i64 r.id, .string r.name, .string r.club, .int .i64 r.born, .bool r.woman, .int .i64 r.card]) ∧ Below w.heap.size w w' := by
  have Z := Blk.new w 41 [.int .i64 0, .string ByteArray.empty, .string ByteArray.empty, .int .i64 0, .bool false, .int .i64 0]
  have G : Below w.heap.size w (w.alloc (.cells #[.int .i64 0, .string ByteArray.empty, .string ByteArray.empty, .int .i64 0, .bool false, .int .i64 0] 41)) := (by repeat (first | exact Below.refl _ _ | refine below_drewN ?_ _ | refine Below.drew ?_ | refine Below.alloc ?_ (by first | omega | (simp; done) | (simp; omega)) _ | refine Below.setCell ?_ (by first | omega | (simp; done) | (simp; omega)) _))
  have K := cur_new (c := c) (hR.on G) hl hn
  have Z1 := (Z.alloc (.cells #[.slice C n c, .int .i64 0, .int .u64 0] 76)).alloc (.cells #[.int .i64 1, .int .i64 42, .int .i64 999] 3)
  have G1 := ((G.alloc G.size (.cells #[.slice C n c, .int .i64 0, .int .u64 0] 76)).alloc (by simp; omega) (.cells #[.int .i64 1, .int .i64 42, .int .i64 999] 3))
  rw [World.size_alloc] at K
  clear Z G hR
  go_enter Tryz.func66, Tryz.ntmps66
  go_wp2_with fail
  refine (among_any (xs := idL) (n := 3) (K.alloc _) (by omega) (three_new w _ _ _ _) (by omega) rfl (by omega) (by omega)).mono ?_
  rintro e w1 ⟨id, hid, rfl, K1, hc1⟩
  have hb := idL_bd id hid
  replace Z1 := Z1.ch hc1 (by omega)
  replace G1 := Below.ch G1 hc1 G1.size (fun k h => by omega)
  clear hc1 K hid
  go_wp2_with fail
  refine (runner_any K1 (by omega) hb).mono ?_
  rintro e w2 ⟨r, hr, rfl, K2, hc2⟩
  have Z := Z1.ch hc2 (by omega)
  have G := Below.ch G1 hc2 G1.size (fun k h => by omega)
  clear hc2 K1 K2 Z1 G1
  obtain ⟨z0, z1, z2, z3, z4, z5⟩ := RnAt.blk (r := rnZ) Z
  simp only [Nat.zero_add] at z1 z2 z3 z4 z5
  have f0 := Z.frozen 0
  have f1 := Z.frozen 1
  have f2 := Z.frozen 2
  have f3 := Z.frozen 3
  have f4 := Z.frozen 4
  have f5 := Z.frozen 5
  have Z2 := Z.put6 0 r
  obtain ⟨q0, q1, q2, q3, q4, q5⟩ := RnAt.blk (r := r) Z2
  simp only [Nat.zero_add] at q0 q1 q2 q3 q4 q5
  have GP := below_put6 G (Nat.le_refl _) 0 r
  simp only [Nat.zero_add] at GP
  clear Z2
  go_wp2_with fail
  refine bodyPost_ret (v := .agg #[.int .i64 r.id, .string r.name, .string r.club, .int .i64 r.born, .bool r.woman, .int .i64 r.card]) (by simp [results, Tryz.results66, go_sem, q0, q1, q2, q3, q4, q5]) rfl ⟨r, hr, rfl, GP⟩
set_option maxRecDepth 100000 in
set_option maxHeartbeats 1000000 in
theorem DrawRunnerText_any {C : Option Addr} {n c : Nat} {l : List Int} {w : World} (hR : Rd w w.heap.size 1 C n (bys l)) (hl : ∀ x ∈ l, 0 ≤ x ∧ x ≤ 255) (hn : n ≤ 65536) :
    Calls Tryz.prog 19 #[.slice C n c] w fun e w' => ∃ r : Rn, Rn.Ok r ∧ e = .returned (.agg #[.int .i64 r.id, .string r.name, .string r.club, .int .i64 r.born, .bool r.woman, .int .i64 r.card]) ∧ Below w.heap.size w w' := by
  have Z := Blk.new w 41 [.int .i64 0, .string ByteArray.empty, .string ByteArray.empty, .int .i64 0, .bool false, .int .i64 0]
  have G : Below w.heap.size w (w.alloc (.cells #[.int .i64 0, .string ByteArray.empty, .string ByteArray.empty, .int .i64 0, .bool false, .int .i64 0] 41)) := (by repeat (first | exact Below.refl _ _ | refine below_drewN ?_ _ | refine Below.drew ?_ | refine Below.alloc ?_ (by first | omega | (simp; done) | (simp; omega)) _ | refine Below.setCell ?_ (by first | omega | (simp; done) | (simp; omega)) _))
  go_enter Tryz.func19, Tryz.ntmps19
  go_wp2_with fail
  refine (DrawIsRunner_any (hR.on G) hl hn).mono ?_
  rintro e w2 ⟨r, hr, rfl, hb⟩
  replace Z := Z.on hb
  replace G := G.trans (hb.mono G.size)
  clear hb
  obtain ⟨z0, z1, z2, z3, z4, z5⟩ := RnAt.blk (r := rnZ) Z
  simp only [Nat.zero_add] at z1 z2 z3 z4 z5
  have f0 := Z.frozen 0
  have f1 := Z.frozen 1
  have f2 := Z.frozen 2
  have f3 := Z.frozen 3
  have f4 := Z.frozen 4
  have f5 := Z.frozen 5
  have Z2 := Z.put6 0 r
  obtain ⟨q0, q1, q2, q3, q4, q5⟩ := RnAt.blk (r := r) Z2
  simp only [Nat.zero_add] at q0 q1 q2 q3 q4 q5
  have GP := below_put6 G (Nat.le_refl _) 0 r
  simp only [Nat.zero_add] at GP
  clear Z2
  go_wp2_with fail
  refine bodyPost_ret (v := .agg #[.int .i64 r.id, .string r.name, .string r.club, .int .i64 r.born, .bool r.woman, .int .i64 r.card]) (by simp [results, Tryz.results19, go_sem, q0, q1, q2, q3, q4, q5]) rfl ⟨r, hr, rfl, GP⟩
theorem rtV_size (r : Rn) : (rtV r).size ≤ 100 := by
  unfold rtV
  split
  · next h =>
    obtain ⟨⟨a1, a2⟩, ⟨b1, _⟩, ⟨c1, _⟩, ⟨d1, d2⟩, e1, e2⟩ := rnOk_bd h
    have s1 := itoaB_size (n := r.id) (by omega) (by omega)
    have s2 := itoaB_size (n := r.born) (by omega) (by omega)
    have s3 := itoaB_size (n := r.card) (by omega) (by omega)
    have s4 : (if r.woman = true then (⟨#[119]⟩ : ByteArray) else ⟨#[109]⟩).size = 1 := by split <;> rfl
    have s5 : (⟨#[32]⟩ : ByteArray).size = 1 := rfl
    have s6 : (⟨#[32, 111, 102, 32]⟩ : ByteArray).size = 4 := rfl
    have s7 : (⟨#[32, 99, 97, 114, 100, 32]⟩ : ByteArray).size = 6 := rfl
    unfold rtB rtS rtH
    split <;> simp only [ByteArray.size_append, s4, s5, s6, s7] <;> omega
  · show 0 ≤ 100; omega
set_option maxRecDepth 100000 in
set_option maxHeartbeats 1000000 in
theorem DrawParseRunner_any {C : Option Addr} {n c : Nat} {l : List Int} {w : World} (hR : Rd w w.heap.size 1 C n (bys l)) (hl : ∀ x ∈ l, 0 ≤ x ∧ x ≤ 255) (hn : n ≤ 65536) :
    Calls Tryz.prog 24 #[.slice C n c] w fun e w' => ∃ s : ByteArray, s.size ≤ 200 ∧ e = .returned (.string s) ∧ Below w.heap.size w w' := by
  have K := cur_new (c := c) hR hl hn
  have G1 : Below w.heap.size w ((w.alloc (.cells #[.slice C n c, .int .i64 0, .int .u64 0] 76)).alloc (.cells #[.int .i64 1, .int .i64 42, .int .i64 999] 3)) := (by repeat (first | exact Below.refl _ _ | refine below_drewN ?_ _ | refine Below.drew ?_ | refine Below.alloc ?_ (by first | omega | (simp; done) | (simp; omega)) _ | refine Below.setCell ?_ (by first | omega | (simp; done) | (simp; omega)) _))
  clear hR
  go_enter Tryz.func24, Tryz.ntmps24
  go_wp2_with fail
  refine (among_any (xs := idL) (n := 3) (K.alloc _) (by omega) (two_new1 w _ _ _) (by omega) rfl (by omega) (by omega)).mono ?_
  rintro e w1 ⟨id, hid, rfl, K1, hc1⟩
  have hb := idL_bd id hid
  replace G1 := Below.ch G1 hc1 G1.size (fun k h => by omega)
  clear hc1 K hid
  go_wp2_with fail
  refine (runner_any K1 (by omega) hb).mono ?_
  rintro e w2 ⟨r, hr, rfl, K2, hc2⟩
  replace G1 := Below.ch G1 hc2 G1.size (fun k h => by omega)
  clear hc2 K1
  go_wp2_with fail
  refine (RunnerText_spec r hr).mono ?_
  rintro e w3 ⟨rfl, hb3⟩
  replace K2 := K2.on hb3
  replace G1 := G1.trans (hb3.mono G1.size)
  have hs := rtV_size r
  generalize rtV r = s0 at *
  clear hb3
  go_wp2_with fail
  refine (one_any K2 (by omega) (by omega) (by omega)).mono ?_
  rintro e w4 ⟨q, rfl, K4, hc4⟩
  replace G1 := Below.ch G1 hc4 G1.size (fun k h => by omega)
  clear hc4 K2
  cases q
  · go_wp2_with fail
    go_ret
    exact ⟨s0, by omega, rfl, G1⟩
  · go_wp2_with fail
    refine (spoilt_any K4 (by omega) (by omega) (by decide) (by decide)).mono ?_
    rintro e w5 ⟨s1, rfl, hs1, K5, hc5⟩
    replace G1 := Below.ch G1 hc5 G1.size (fun k h => by omega)
    go_wp2_with fail
    go_ret
    exact ⟨s1, by omega, rfl, G1⟩
def r3L : List Int := [0, 1, 500]
theorem r3L_bd : ∀ x ∈ r3L, 0 ≤ x ∧ x ≤ 1000 := by decide
set_option maxRecDepth 100000 in
set_option maxHeartbeats 1000000 in
theorem runnerId_any {b g : Nat} {k : Int} {w : World} {base g9 cp n : Nat} {l : List Rn} (K : Cur w b g k) (hk : k ≤ 700000) (HA : RnsAt w base g9 cp l) (hg : g < base) (hn : l.length = n) :
    Calls Tryz.prog 77 #[.pointer (some ⟨g, 0, none⟩), .slice (some ⟨g9, 0, none⟩) n cp] w fun e w' => ∃ i, e = .returned (.int .i64 i) ∧ I64 i ∧ Cur w' b g (k + 4) ∧ Ch (fun j => j = g) w w' := by
  have h20 : n ≤ 20 := by have := HA.2.1; omega
  have HN := Lib.hid hn
  have hl := K.lt.1
  by_cases h0 : n = 0
  · subst h0
    clear hn
    go_enter Tryz.func77, Tryz.ntmps77
    go_wp2_with fail
    refine (among_any (xs := r3L) (n := 3) (K.alloc _) (by omega) (Blk.new w _ _) (by omega) rfl (by omega) (by omega)).mono ?_
    rintro e w1 ⟨v, hv, rfl, K1, hc1⟩
    have hb := r3L_bd v hv
    go_wp2_with fail
    go_ret
    exact ⟨v, rfl, by unfold I64; omega, K1.more (by omega), (ch_alloc (ch_refl w) _).trans hc1⟩
  · have h0i : ¬ (n : Int) = 0 := by omega
    have h0b : ((n : Int) == 0) = false := by simpa using h0i
    clear hn
    go_enter Tryz.func77, Tryz.ntmps77
    go_wp2_with fail
    refine (one_any K (by omega) (by omega) (by omega)).mono ?_
    rintro e w1 ⟨q, rfl, K1, hc1⟩
    have HA1 := HA.ch hc1 (fun j h => by omega)
    have hl1 := K1.lt.1
    clear K HA
    cases q
    · go_wp2_with fail
      refine (pick_any K1 (by omega) (by omega) (by omega)).mono ?_
      rintro e w2 ⟨x, rfl, hx0, hx1, K2, hc2⟩
      obtain ⟨j, rfl⟩ := Int.eq_ofNat_of_zero_le hx0
      have hj : j < l.length := by have := HN.out; omega
      have HA2 := HA1.ch hc2 (fun j h => by omega)
      have hok := HA2.2.2.1 _ (List.getElem_mem hj)
      have CK := RnAt.own HA2.2.2.2 hj
      generalize l[j] = r at *
      obtain ⟨c0, c1, c2, c3, c4, c5⟩ := CK
      have hjn : (j : Int) < (n : Int) := by omega
      have hjn2 : j < n := by omega
      clear HA1 HA2 hx0 hx1
      go_wp2_with fail
      go_ret
      exact ⟨r.id, rfl, hok.1, K2.more (by omega), hc1.trans hc2⟩
    · go_wp2_with fail
      refine (among_any (xs := r3L) (n := 3) (K1.alloc _) (by omega) (Blk.new w1 _ _) (by omega) rfl (by omega) (by omega)).mono ?_
      rintro e w2 ⟨v, hv, rfl, K2, hc2⟩
      have hb := r3L_bd v hv
      go_wp2_with fail
      go_ret
      exact ⟨v, rfl, by unfold I64; omega, K2.more (by omega), (ch_alloc hc1 _).trans hc2⟩
set_option maxRecDepth 100000 in
set_option maxHeartbeats 1000000 in
theorem DrawSwapCards_any {C : Option Addr} {n c : Nat} {l : List Int} {w : World} (hR : Rd w w.heap.size 1 C n (bys l)) (hl : ∀ x ∈ l, 0 ≤ x ∧ x ≤ 255) (hn : n ≤ 65536) :
    Calls Tryz.prog 32 #[.slice C n c] w fun e w' => ∃ g9 cp l a b, e = .returned (.tuple #[.slice (some ⟨g9, 0, none⟩) (List.length l) cp, .int .i64 a, .int .i64 b]) ∧ I64 a ∧ I64 b ∧ RnsAt w' w.heap.size g9 cp l ∧ Below w.heap.size w w' := by
  have K := cur_new (c := c) hR hl hn
  clear hR hl
  go_enter Tryz.func32, Tryz.ntmps32
  go_wp2_with fail
  refine (runners_any K (by omega)).mono ?_
  rintro e w1 ⟨g9, cp, l, rfl, h1, h2, h3, h4, K1, hc⟩
  have HA : RnsAt w1 (w.heap.size + 1) g9 cp l := ⟨h1, h2, h3, own_le h4 (by simp)⟩
  have HB := below_new hc
  clear K hc h4 h1 h2 h3
  generalize hll : l.length = ll at *
  have HLL := Lib.hid hll
  clear hll
  go_wp2_with fail
  refine (runnerId_any K1 (by omega) HA (by omega) HLL.out).mono ?_
  rintro e w2 ⟨a, rfl, ha, K2, hc2⟩
  have HA2 := HA.ch hc2 (fun j h => by omega)
  have HB2 := Below.ch HB hc2 HB.size (fun k h => by omega)
  clear HA HB K1 hc2
  go_wp2_with fail
  refine (runnerId_any K2 (by omega) HA2 (by omega) HLL.out).mono ?_
  rintro e w3 ⟨b9, rfl, hb9, K3, hc3⟩
  have HA3 := (HA2.ch hc3 (fun j h => by omega)).le (Nat.le_succ w.heap.size)
  have HB3 := Below.ch HB2 hc3 HB2.size (fun k h => by omega)
  clear HA2 HB2 K2 hc3
  go_wp2_with fail
  go_ret3
  exact ⟨g9, cp, l, a, b9, by rw [HLL.out]; rfl, ha, hb9, HA3, HB3⟩
def cw7L : List Int := [1, 7, 8, 815, 9999, 0, 10000]
theorem cw7L_bd : ∀ x ∈ cw7L, 0 ≤ x ∧ x ≤ 10000 := by decide
theorem among_part {b g gl n m : Nat} {k : Int} {xs : List Int} {w : World} (K : Cur w b g k) (hk : k ≤ 900000) (L : Blk w gl 3 (ints xs)) (hg : gl ≠ g) (hn : n ≤ xs.length) (hn0 : 0 < n) (hn1 : n ≤ 60000) :
    Calls Tryz.prog 60 #[.pointer (some ⟨g, 0, none⟩), .slice (some ⟨gl, 0, none⟩) n m] w fun e w' => ∃ s ∈ xs, e = .returned (.int .i64 s) ∧ Cur w' b g (k + 2) ∧ Ch (fun j => j = g) w w' := by
  go_enter Tryz.func60, Tryz.ntmps60
  go_wp2_with fail
  refine (pick_any K hk (by omega) (by omega)).mono ?_
  rintro e w1 ⟨x, rfl, hx0, hx1, K1, hc1⟩
  have hxn : x < n := by omega
  have L1 := L.ch hc1 hg
  have kx : x.toNat < xs.length := by omega
  have cz : w1.cell? ⟨gl, x.toNat, none⟩ = some (.int .i64 xs[x.toNat]) := by rw [L1.cell, ints_get kx]
  have hm := List.getElem_mem kx
  generalize xs[x.toNat] = s at *
  go_wp2_with fail
  go_ret
  exact ⟨s, hm, rfl, K1, hc1⟩
set_option maxRecDepth 100000 in
set_option maxHeartbeats 1000000 in
theorem DrawRunnerWithCard_any {C : Option Addr} {n c : Nat} {l : List Int} {w : World} (hR : Rd w w.heap.size 1 C n (bys l)) (hl : ∀ x ∈ l, 0 ≤ x ∧ x ≤ 255) (hn : n ≤ 65536) :
    Calls Tryz.prog 35 #[.slice C n c] w fun e w' => ∃ g9 cp l a, e = .returned (.tuple #[.slice (some ⟨g9, 0, none⟩) (List.length l) cp, .int .i64 a]) ∧ (0 ≤ a ∧ a ≤ 10000) ∧ RnsAt w' w.heap.size g9 cp l ∧ Below w.heap.size w w' := by
  have K := cur_new (c := c) hR hl hn
  clear hR hl
  go_enter Tryz.func35, Tryz.ntmps35
  go_wp2_with fail
  refine (runners_any K (by omega)).mono ?_
  rintro e w1 ⟨g9, cp, l, rfl, h1, h2, h3, h4, K1, hc⟩
  have HA : RnsAt w1 (w.heap.size + 1) g9 cp l := ⟨h1, h2, h3, own_le h4 (by simp)⟩
  have HB := below_new hc
  have hg1 := K1.lt.1
  clear K hc h4 h1 h2 h3
  generalize hll : l.length = ll at *
  have HLL := Lib.hid hll
  clear hll
  have HA1 := HA.on (Below.alloc (Below.refl _ _) (Nat.le_refl _) (.cells #[.int .i64 1, .int .i64 7, .int .i64 8, .int .i64 815, .int .i64 9999, .int .i64 0, .int .i64 10000] 3))
  have HB1 := HB.alloc HB.size (.cells #[.int .i64 1, .int .i64 7, .int .i64 8, .int .i64 815, .int .i64 9999, .int .i64 0, .int .i64 10000] 3)
  have L7 := Lib.hid (Blk.new w1 3 (ints cw7L))
  clear HA HB
  go_wp2_with fail
  refine (pick_any (K1.alloc _) (by omega) (by omega) (by omega)).mono ?_
  rintro e w2 ⟨x, rfl, hx0, hx1, K2, hc2⟩
  have HA2 := HA1.ch hc2 (fun j h => by omega)
  have HB2 := Below.ch HB1 hc2 HB1.size (fun k h => by omega)
  have L72 := L7.out.ch hc2 (by omega)
  clear HA1 HB1 K1 hc2 L7
  obtain ⟨x9, rfl⟩ := Int.eq_ofNat_of_zero_le hx0
  have hxx : x9 ≤ 23 := by omega
  obtain ⟨q, hq⟩ : ∃ q, x9 / 11 = q := ⟨_, rfl⟩
  have hq2 : q ≤ 2 := by omega
  have hqi : Int.tdiv (x9 : Int) 11 = (q : Int) := by rw [← hq]; rfl
  have hw5 : IntKind.i64.wrap (5 + (q : Int)) = 5 + (q : Int) := IntWalk.i64_in _ (by omega)
  have hq7 : (5 : Int) + (q : Int) ≤ 7 := by omega
  have hq0 : (0 : Int) ≤ 5 + (q : Int) := by omega
  have hwq : IntKind.i64.wrap (q : Int) = (q : Int) := IntWalk.i64_in _ (by omega)
  have hq8 : 5 + q ≤ 7 := by omega
  clear hq hx0 hx1
  go_wp2_with fail
  refine (among_part (xs := cw7L) (n := 5 + q) K2 (by omega) L72 (by omega) (by simp [cw7L]; omega) (by omega) (by omega)).mono ?_
  rintro e w3 ⟨v, hv, rfl, K3, hc3⟩
  have hb := cw7L_bd v hv
  have HA3 := (HA2.ch hc3 (fun j h => by omega)).le (Nat.le_succ w.heap.size)
  have HB3 := Below.ch HB2 hc3 HB2.size (fun k h => by omega)
  clear HA2 HB2 K2 hc3
  go_wp2_with fail
  go_ret2
  exact ⟨g9, cp, l, v, by rw [HLL.out]; rfl, hb, HA3, HB3⟩
set_option maxRecDepth 100000 in
set_option maxHeartbeats 1000000 in
theorem DrawAddRunner_any {C : Option Addr} {n c : Nat} {l : List Int} {w : World} (hR : Rd w w.heap.size 1 C n (bys l)) (hl : ∀ x ∈ l, 0 ≤ x ∧ x ≤ 255) (hn : n ≤ 65536) :
    Calls Tryz.prog 26 #[.slice C n c] w fun e w' => ∃ g9 cp l r, e = .returned (.tuple #[.slice (some ⟨g9, 0, none⟩) (List.length l) cp, .agg #[.int .i64 r.id, .string r.name, .string r.club, .int .i64 r.born, .bool r.woman, .int .i64 r.card]]) ∧ Rn.Ok r ∧ RnsAt w' w.heap.size g9 cp l ∧ Below w.heap.size w w' := by
  have Z := Blk.new w 41 [.int .i64 0, .string ByteArray.empty, .string ByteArray.empty, .int .i64 0, .bool false, .int .i64 0]
  have G : Below w.heap.size w (w.alloc (.cells #[.int .i64 0, .string ByteArray.empty, .string ByteArray.empty, .int .i64 0, .bool false, .int .i64 0] 41)) := (by repeat (first | exact Below.refl _ _ | refine below_drewN ?_ _ | refine Below.drew ?_ | refine Below.alloc ?_ (by first | omega | (simp; done) | (simp; omega)) _ | refine Below.setCell ?_ (by first | omega | (simp; done) | (simp; omega)) _))
  have K := cur_new (c := c) (hR.on G) hl hn
  have Z1 := Z.alloc (.cells #[.slice C n c, .int .i64 0, .int .u64 0] 76)
  have G1 := G.alloc G.size (.cells #[.slice C n c, .int .i64 0, .int .u64 0] 76)
  rw [World.size_alloc] at K
  clear Z G hR
  go_enter Tryz.func26, Tryz.ntmps26
  go_wp2_with fail
  refine (runners_any K (by omega)).mono ?_
  rintro e w1 ⟨g9, cp, l, rfl, h1, h2, h3, h4, K1, hc⟩
  have HA : RnsAt w1 (w.heap.size + 1 + 1) g9 cp l := ⟨h1, h2, h3, own_le h4 (by simp)⟩
  replace Z1 := Z1.ch hc (by omega)
  replace G1 := Below.ch G1 hc G1.size (fun k h => by omega)
  clear K hc h4 h1 h2 h3
  generalize hll : l.length = ll at *
  have HLL := Lib.hid hll
  clear hll
  go_wp2_with fail
  refine (pick_any K1 (by omega) (by omega) (by omega)).mono ?_
  rintro e w2 ⟨x, rfl, hx0, hx1, K2, hc2⟩
  replace Z1 := Z1.ch hc2 (by omega)
  replace G1 := Below.ch G1 hc2 G1.size (fun k h => by omega)
  replace HA := HA.ch hc2 (fun j h => by omega)
  have hw5 : IntKind.i64.wrap (1 + x) = 1 + x := IntWalk.i64_in _ (by omega)
  clear hc2 K1
  go_wp2_with fail
  refine (runner_any K2 (by omega) (by omega)).mono ?_
  rintro e w3 ⟨r, hr, rfl, K3, hc3⟩
  have Z := Z1.ch hc3 (by omega)
  have G := Below.ch G1 hc3 G1.size (fun k h => by omega)
  have HA3 := (HA.ch hc3 (fun j h => by omega))
  clear hc3 K2 K3 Z1 G1 HA
  obtain ⟨z0, z1, z2, z3, z4, z5⟩ := RnAt.blk (r := rnZ) Z
  simp only [Nat.zero_add] at z1 z2 z3 z4 z5
  have f0 := Z.frozen 0
  have f1 := Z.frozen 1
  have f2 := Z.frozen 2
  have f3 := Z.frozen 3
  have f4 := Z.frozen 4
  have f5 := Z.frozen 5
  have Z2 := Z.put6 0 r
  obtain ⟨q0, q1, q2, q3, q4, q5⟩ := RnAt.blk (r := r) Z2
  simp only [Nat.zero_add] at q0 q1 q2 q3 q4 q5
  have GP := below_put6 G (Nat.le_refl _) 0 r
  have HA4 := (HA3.ch (ch_put6 (g := w.heap.size) _ 0 r) (fun j h => by omega)).le (base' := w.heap.size) (by omega)
  simp only [Nat.zero_add] at GP HA4
  clear Z2 HA3
  go_wp2_with fail
  refine bodyPost_ret (v := .tuple #[.slice (some ⟨g9, 0, none⟩) ll cp, .agg #[.int .i64 r.id, .string r.name, .string r.club, .int .i64 r.born, .bool r.woman, .int .i64 r.card]]) (by simp [results, Tryz.results26, go_sem, q0, q1, q2, q3, q4, q5]) rfl ⟨g9, cp, l, r, by rw [HLL.out] <;> rfl, hr, HA4, GP⟩
end Go.Proofs.YtmmpcchjalgokaaGreatDoor
