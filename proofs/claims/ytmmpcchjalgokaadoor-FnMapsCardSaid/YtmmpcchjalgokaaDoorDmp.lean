/- The draws of the law about maps. -/
import Derived.Test.YtmmpcchjalgokaaDoorMpo
namespace Go.Proofs.YtmmpcchjalgokaaDoor
set_option linter.unusedVariables false
set_option linter.unusedSimpArgs false
open Go.RowKit
theorem below_put4 {B0 : Nat} {w0 w : World} {X : Nat} (h : Below B0 w0 w) (hX : B0 ≤ X) (a b c d : Value) : Below B0 w0 ((((w.setCell ⟨X, 0, none⟩ a).setCell ⟨X, 1, none⟩ b).setCell ⟨X, 2, none⟩ c).setCell ⟨X, 3, none⟩ d) :=
  Below.setCell (Below.setCell (Below.setCell (Below.setCell h (p := ⟨X, 0, none⟩) hX a) (p := ⟨X, 1, none⟩) hX b) (p := ⟨X, 2, none⟩) hX c) (p := ⟨X, 3, none⟩) hX d
theorem ch_put4 {X : Nat} (w : World) (a b c d : Value) : Ch (fun j => j = X) w ((((w.setCell ⟨X, 0, none⟩ a).setCell ⟨X, 1, none⟩ b).setCell ⟨X, 2, none⟩ c).setCell ⟨X, 3, none⟩ d) :=
  (((ch_set_ w).trans (ch_set_ _)).trans (ch_set_ _)).trans (ch_set_ _)
set_option maxRecDepth 100000 in
set_option maxHeartbeats 1000000 in
theorem DrawIsMap_any {C : Option Addr} {n c : Nat} {l : List Int} {w : World} (hR : Rd w w.heap.size 1 C n (bys l)) (hl : ∀ x ∈ l, 0 ≤ x ∧ x ≤ 255) (hn : n ≤ 65536) :
    Calls Tryd.prog 100 #[.slice C n c] w fun e w' => ∃ (m : Mp) (A B : Option Addr) (cA cB : Nat), e = .returned (.agg #[.int .i64 m.wd, .int .i64 m.ht, .slice A m.ri.length cA, .slice B m.co.length cB]) ∧ MpAt w' w.heap.size m A B cA cB ∧ Below w.heap.size w w' := by
  have Z := Blk.new w 47 [.int .i64 0, .int .i64 0, .slice none 0 0, .slice none 0 0]
  have G : Below w.heap.size w (w.alloc (.cells #[.int .i64 0, .int .i64 0, .slice none 0 0, .slice none 0 0] 47)) := (by repeat (first | exact Below.refl _ _ | refine below_drewN ?_ _ | refine Below.drew ?_ | refine Below.alloc ?_ (by first | omega | (simp; done) | (simp; omega)) _ | refine Below.setCell ?_ (by first | omega | (simp; done) | (simp; omega)) _))
  have K := cur_new (c := c) (hR.on G) hl hn
  replace Z := Z.alloc (.cells #[.slice C n c, .int .i64 0, .int .u64 0] 78)
  replace G := G.alloc G.size (.cells #[.slice C n c, .int .i64 0, .int .u64 0] 78)
  have hsz : ((w.alloc (.cells #[.int .i64 0, .int .i64 0, .slice none 0 0, .slice none 0 0] 47)).alloc (.cells #[.slice C n c, .int .i64 0, .int .u64 0] 78)).heap.size = w.heap.size + 1 + 1 := by rw [World.size_alloc, World.size_alloc]
  rw [World.size_alloc] at K
  clear hR hl
  go_enter Tryd.func100, Tryd.ntmps100
  go_wp2_with fail
  refine (mapOf_any K (by omega)).mono ?_
  rintro e wq ⟨m, A, B, cA, cB, rfl, MA0, K2, hc2⟩
  have MA := MA0.le (base' := w.heap.size + 1) (by omega)
  replace Z := Z.ch hc2 (by omega)
  replace G := Below.ch G hc2 G.size (fun k h => by omega)
  clear hc2 K K2 MA0 hsz
  obtain ⟨z0, z1, z2, z3⟩ := blk4 Z
  have f0 := Z.frozen 0
  have f1 := Z.frozen 1
  have f2 := Z.frozen 2
  have f3 := Z.frozen 3
  have Z2 := (((Z.set_ 0 (.int .i64 m.wd)).set_ 1 (.int .i64 m.ht)).set_ 2 (.slice A m.ri.length cA)).set_ 3 (.slice B m.co.length cB)
  obtain ⟨q0, q1, q2, q3⟩ := blk4 Z2
  have GP := below_put4 G (Nat.le_refl _) (.int .i64 m.wd) (.int .i64 m.ht) (.slice A m.ri.length cA) (.slice B m.co.length cB)
  have ME := MA.ch (ch_put4 (X := w.heap.size) wq (.int .i64 m.wd) (.int .i64 m.ht) (.slice A m.ri.length cA) (.slice B m.co.length cB)) (fun j h => by omega)
  clear Z2
  go_wp2_with fail
  refine bodyPost_ret (v := .agg #[.int .i64 m.wd, .int .i64 m.ht, .slice A m.ri.length cA, .slice B m.co.length cB]) ?_ ?_ ?_
  · simp [results, Tryd.results100, go_sem, q0, q1, q2, q3]
  · rfl
  exact ⟨m, A, B, cA, cB, rfl, ME.le (by omega), GP⟩
set_option maxRecDepth 100000 in
set_option maxHeartbeats 1000000 in
theorem DrawTurnMap_any {C : Option Addr} {n c : Nat} {l : List Int} {w : World} (hR : Rd w w.heap.size 1 C n (bys l)) (hl : ∀ x ∈ l, 0 ≤ x ∧ x ≤ 255) (hn : n ≤ 65536) :
    Calls Tryd.prog 44 #[.slice C n c] w fun e w' => ∃ (m : Mp) (A B : Option Addr) (cA cB : Nat), e = .returned (.agg #[.int .i64 m.wd, .int .i64 m.ht, .slice A m.ri.length cA, .slice B m.co.length cB]) ∧ MpAt w' w.heap.size m A B cA cB ∧ Below w.heap.size w w' := by
  have Z := Blk.new w 47 [.int .i64 0, .int .i64 0, .slice none 0 0, .slice none 0 0]
  have G : Below w.heap.size w (w.alloc (.cells #[.int .i64 0, .int .i64 0, .slice none 0 0, .slice none 0 0] 47)) := (by repeat (first | exact Below.refl _ _ | refine below_drewN ?_ _ | refine Below.drew ?_ | refine Below.alloc ?_ (by first | omega | (simp; done) | (simp; omega)) _ | refine Below.setCell ?_ (by first | omega | (simp; done) | (simp; omega)) _))
  have hsz : (w.alloc (.cells #[.int .i64 0, .int .i64 0, .slice none 0 0, .slice none 0 0] 47)).heap.size = w.heap.size + 1 := by rw [World.size_alloc]
  go_enter Tryd.func44, Tryd.ntmps44
  go_wp2_with fail
  refine (DrawIsMap_any (hR.on G) hl hn).mono ?_
  rintro e wq ⟨m, A, B, cA, cB, rfl, MA0, hb⟩
  have MA := MA0.le (base' := w.heap.size + 1) (by omega)
  replace Z := Z.on hb
  replace G := G.trans (hb.mono G.size)
  clear hb MA0 hsz hR hl
  obtain ⟨z0, z1, z2, z3⟩ := blk4 Z
  have f0 := Z.frozen 0
  have f1 := Z.frozen 1
  have f2 := Z.frozen 2
  have f3 := Z.frozen 3
  have Z2 := (((Z.set_ 0 (.int .i64 m.wd)).set_ 1 (.int .i64 m.ht)).set_ 2 (.slice A m.ri.length cA)).set_ 3 (.slice B m.co.length cB)
  obtain ⟨q0, q1, q2, q3⟩ := blk4 Z2
  have GP := below_put4 G (Nat.le_refl _) (.int .i64 m.wd) (.int .i64 m.ht) (.slice A m.ri.length cA) (.slice B m.co.length cB)
  have ME := MA.ch (ch_put4 (X := w.heap.size) wq (.int .i64 m.wd) (.int .i64 m.ht) (.slice A m.ri.length cA) (.slice B m.co.length cB)) (fun j h => by omega)
  clear Z2
  go_wp2_with fail
  refine bodyPost_ret (v := .agg #[.int .i64 m.wd, .int .i64 m.ht, .slice A m.ri.length cA, .slice B m.co.length cB]) ?_ ?_ ?_
  · simp [results, Tryd.results44, go_sem, q0, q1, q2, q3]
  · rfl
  exact ⟨m, A, B, cA, cB, rfl, ME.le (by omega), GP⟩
set_option maxRecDepth 100000 in
set_option maxHeartbeats 1000000 in
theorem DrawMapText_any {C : Option Addr} {n c : Nat} {l : List Int} {w : World} (hR : Rd w w.heap.size 1 C n (bys l)) (hl : ∀ x ∈ l, 0 ≤ x ∧ x ≤ 255) (hn : n ≤ 65536) :
    Calls Tryd.prog 51 #[.slice C n c] w fun e w' => ∃ (m : Mp) (A B : Option Addr) (cA cB : Nat), e = .returned (.agg #[.int .i64 m.wd, .int .i64 m.ht, .slice A m.ri.length cA, .slice B m.co.length cB]) ∧ MpAt w' w.heap.size m A B cA cB ∧ Below w.heap.size w w' := by
  have Z := Blk.new w 47 [.int .i64 0, .int .i64 0, .slice none 0 0, .slice none 0 0]
  have G : Below w.heap.size w (w.alloc (.cells #[.int .i64 0, .int .i64 0, .slice none 0 0, .slice none 0 0] 47)) := (by repeat (first | exact Below.refl _ _ | refine below_drewN ?_ _ | refine Below.drew ?_ | refine Below.alloc ?_ (by first | omega | (simp; done) | (simp; omega)) _ | refine Below.setCell ?_ (by first | omega | (simp; done) | (simp; omega)) _))
  have hsz : (w.alloc (.cells #[.int .i64 0, .int .i64 0, .slice none 0 0, .slice none 0 0] 47)).heap.size = w.heap.size + 1 := by rw [World.size_alloc]
  go_enter Tryd.func51, Tryd.ntmps51
  go_wp2_with fail
  refine (DrawIsMap_any (hR.on G) hl hn).mono ?_
  rintro e wq ⟨m, A, B, cA, cB, rfl, MA0, hb⟩
  have MA := MA0.le (base' := w.heap.size + 1) (by omega)
  replace Z := Z.on hb
  replace G := G.trans (hb.mono G.size)
  clear hb MA0 hsz hR hl
  obtain ⟨z0, z1, z2, z3⟩ := blk4 Z
  have f0 := Z.frozen 0
  have f1 := Z.frozen 1
  have f2 := Z.frozen 2
  have f3 := Z.frozen 3
  have Z2 := (((Z.set_ 0 (.int .i64 m.wd)).set_ 1 (.int .i64 m.ht)).set_ 2 (.slice A m.ri.length cA)).set_ 3 (.slice B m.co.length cB)
  obtain ⟨q0, q1, q2, q3⟩ := blk4 Z2
  have GP := below_put4 G (Nat.le_refl _) (.int .i64 m.wd) (.int .i64 m.ht) (.slice A m.ri.length cA) (.slice B m.co.length cB)
  have ME := MA.ch (ch_put4 (X := w.heap.size) wq (.int .i64 m.wd) (.int .i64 m.ht) (.slice A m.ri.length cA) (.slice B m.co.length cB)) (fun j h => by omega)
  clear Z2
  go_wp2_with fail
  refine bodyPost_ret (v := .agg #[.int .i64 m.wd, .int .i64 m.ht, .slice A m.ri.length cA, .slice B m.co.length cB]) ?_ ?_ ?_
  · simp [results, Tryd.results51, go_sem, q0, q1, q2, q3]
  · rfl
  exact ⟨m, A, B, cA, cB, rfl, ME.le (by omega), GP⟩
theorem mtV_size (m : Mp) : (mtV m).size ≤ 2000 := by
  cases h : mtOk m
  · rw [mt_no h]; decide
  · have hv := (mt_ok h).1
    rw [mt_v h]
    have h1 := l2T_size hv m.co.length
    have h2 := hv.n36.2
    omega
set_option maxRecDepth 100000 in
set_option maxHeartbeats 1000000 in
theorem DrawParseMap_any {C : Option Addr} {n c : Nat} {l : List Int} {w : World} (hR : Rd w w.heap.size 1 C n (bys l)) (hl : ∀ x ∈ l, 0 ≤ x ∧ x ≤ 255) (hn : n ≤ 65536) :
    Calls Tryd.prog 54 #[.slice C n c] w fun e w' => ∃ s : ByteArray, s.size ≤ 3000 ∧ e = .returned (.string s) ∧ Below w.heap.size w w' := by
  have K := cur_new (c := c) hR hl hn
  clear hR
  go_enter Tryd.func54, Tryd.ntmps54
  go_wp2_with fail
  refine (mapOf_any K (by omega)).mono ?_
  rintro e w2 ⟨m, A, B, cA, cB, rfl, MA, K2, hc2⟩
  have G1 := below_new hc2
  clear hc2 K
  go_wp2_with fail
  refine (MapText_spec MA.inn).mono ?_
  rintro e w3 ⟨rfl, hb3⟩
  replace K2 := K2.on hb3
  replace G1 := G1.trans (hb3.mono G1.size)
  have hs := mtV_size m
  generalize mtV m = s0 at *
  generalize mtOk m = o0 at *
  clear hb3 MA
  obtain ⟨s2, hs2, hs3⟩ : ∃ s2 : ByteArray, s2.size ≤ 2000 ∧ ((o0 = true → s2 = s0) ∧ (o0 = false → s2 = ⟨#[49, 48, 32, 50, 49, 10, 35, 35, 32, 49, 53, 10]⟩)) := by
    cases o0
    · exact ⟨⟨#[49, 48, 32, 50, 49, 10, 35, 35, 32, 49, 53, 10]⟩, (by decide), (fun h => absurd h (by decide)), (fun _ => rfl)⟩
    · exact ⟨s0, hs, (fun _ => rfl), (fun h => absurd h (by decide))⟩
  have HS3 := Lib.hid hs3
  clear hs3
  go_upto_if 16 with (fail)
  go_cut [4] (fun v wx => v = .string s2 ∧ wx = w3)
  case first =>
    cases o0
    · obtain rfl := HS3.out.2 rfl
      clear HS3
      go_wp2_with fail
      go_meet
      exact ⟨rfl, rfl⟩
    · obtain rfl := HS3.out.1 rfl
      clear HS3
      go_wp2_with fail
      go_meet
      exact ⟨rfl, rfl⟩
  case rest =>
  obtain ⟨rfl, rfl⟩ := hcut
  clear HS3 hs
  go_wp2_with fail
  refine (one_any K2 (by omega) (by omega) (by omega)).mono ?_
  rintro e w4 ⟨q, rfl, K4, hc4⟩
  replace G1 := Below.ch G1 hc4 G1.size (fun k h => by omega)
  clear hc4 K2
  cases q
  · go_wp2_with fail
    go_ret
    exact ⟨s2, by omega, rfl, G1⟩
  · go_wp2_with fail
    refine (spoilt_any K4 (by omega) (by omega) (by decide) (by decide)).mono ?_
    rintro e w5 ⟨s1, rfl, hs1, K5, hc5⟩
    replace G1 := Below.ch G1 hc5 G1.size (fun k h => by omega)
    go_wp2_with fail
    go_ret
    exact ⟨s1, by omega, rfl, G1⟩
end Go.Proofs.YtmmpcchjalgokaaDoor
