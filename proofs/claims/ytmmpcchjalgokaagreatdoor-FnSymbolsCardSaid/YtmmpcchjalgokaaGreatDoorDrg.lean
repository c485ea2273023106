/- The draws of the law about features' texts and turns. -/
import Derived.Test.YtmmpcchjalgokaaGreatDoorDrf
import Derived.Test.YtmmpcchjalgokaaGreatDoorCux
import Derived.Test.YtmmpcchjalgokaaGreatDoorFtx
namespace Go.Proofs.YtmmpcchjalgokaaGreatDoor
set_option linter.unusedVariables false
set_option linter.unusedSimpArgs false
open Go.RowKit
set_option maxRecDepth 100000 in
set_option maxHeartbeats 1000000 in
theorem DrawIsFeature_any {C : Option Addr} {n c : Nat} {l : List Int} {w : World} (hR : Rd w w.heap.size 1 C n (bys l)) (hl : ∀ x ∈ l, 0 ≤ x ∧ x ≤ 255) (hn : n ≤ 65536) :
    Calls Tryz.prog 37 #[.slice C n c] w fun e w' => ∃ f : Ft, Sml f ∧ e = .returned (.agg #[.int .i64 f.code, .string f.which, .string f.what, .string f.look, .string f.side]) ∧ Below w.heap.size w w' := by
  have Z := Blk.new w 25 [.int .i64 0, .string ByteArray.empty, .string ByteArray.empty, .string ByteArray.empty, .string ByteArray.empty]
  have G : Below w.heap.size w (w.alloc (.cells #[.int .i64 0, .string ByteArray.empty, .string ByteArray.empty, .string ByteArray.empty, .string ByteArray.empty] 25)) := (by repeat (first | exact Below.refl _ _ | refine below_drewN ?_ _ | refine Below.drew ?_ | refine Below.alloc ?_ (by first | omega | (simp; done) | (simp; omega)) _ | refine Below.setCell ?_ (by first | omega | (simp; done) | (simp; omega)) _))
  have K := cur_new (c := c) (hR.on G) hl hn
  have Z1 := Z.alloc (.cells #[.slice C n c, .int .i64 0, .int .u64 0] 76)
  have G1 := G.alloc G.size (.cells #[.slice C n c, .int .i64 0, .int .u64 0] 76)
  rw [World.size_alloc] at K
  clear Z G hR
  go_enter Tryz.func37, Tryz.ntmps37
  go_wp2_with fail
  refine (feature_any K (by omega)).mono ?_
  rintro e w2 ⟨f, hf, rfl, K2, hc2⟩
  have Z := Z1.ch hc2 (by omega)
  have G := Below.ch G1 hc2 G1.size (fun k h => by omega)
  clear hc2 K2 K Z1 G1
  obtain ⟨z0, z1, z2, z3, z4⟩ := blk5 Z
  have f0 := Z.frozen 0
  have f1 := Z.frozen 1
  have f2 := Z.frozen 2
  have f3 := Z.frozen 3
  have f4 := Z.frozen 4
  have Z2 := Z.put5 f
  obtain ⟨q0, q1, q2, q3, q4⟩ := blk5 (show Blk _ _ _ [.int .i64 f.code, .string f.which, .string f.what, .string f.look, .string f.side] from Z2)
  have GP := below_put5 G (Nat.le_refl _) f
  clear Z2
  go_wp2_with fail
  refine bodyPost_ret (v := .agg #[.int .i64 f.code, .string f.which, .string f.what, .string f.look, .string f.side]) (by simp [results, Tryz.results37, go_sem, q0, q1, q2, q3, q4]) rfl ⟨f, hf, rfl, GP⟩
set_option maxRecDepth 100000 in
set_option maxHeartbeats 1000000 in
theorem DrawFeatureText_any {C : Option Addr} {n c : Nat} {l : List Int} {w : World} (hR : Rd w w.heap.size 1 C n (bys l)) (hl : ∀ x ∈ l, 0 ≤ x ∧ x ≤ 255) (hn : n ≤ 65536) :
    Calls Tryz.prog 6 #[.slice C n c] w fun e w' => ∃ f : Ft, Sml f ∧ e = .returned (.agg #[.int .i64 f.code, .string f.which, .string f.what, .string f.look, .string f.side]) ∧ Below w.heap.size w w' := by
  have Z := Blk.new w 25 [.int .i64 0, .string ByteArray.empty, .string ByteArray.empty, .string ByteArray.empty, .string ByteArray.empty]
  have G : Below w.heap.size w (w.alloc (.cells #[.int .i64 0, .string ByteArray.empty, .string ByteArray.empty, .string ByteArray.empty, .string ByteArray.empty] 25)) := (by repeat (first | exact Below.refl _ _ | refine below_drewN ?_ _ | refine Below.drew ?_ | refine Below.alloc ?_ (by first | omega | (simp; done) | (simp; omega)) _ | refine Below.setCell ?_ (by first | omega | (simp; done) | (simp; omega)) _))
  go_enter Tryz.func6, Tryz.ntmps6
  go_wp2_with fail
  refine (DrawIsFeature_any (hR.on G) hl hn).mono ?_
  rintro e w2 ⟨f, hf, rfl, hb⟩
  replace Z := Z.on hb
  replace G := G.trans (hb.mono G.size)
  clear hb
  obtain ⟨z0, z1, z2, z3, z4⟩ := blk5 Z
  have f0 := Z.frozen 0
  have f1 := Z.frozen 1
  have f2 := Z.frozen 2
  have f3 := Z.frozen 3
  have f4 := Z.frozen 4
  have Z2 := Z.put5 f
  obtain ⟨q0, q1, q2, q3, q4⟩ := blk5 (show Blk _ _ _ [.int .i64 f.code, .string f.which, .string f.what, .string f.look, .string f.side] from Z2)
  have GP := below_put5 G (Nat.le_refl _) f
  clear Z2
  go_wp2_with fail
  refine bodyPost_ret (v := .agg #[.int .i64 f.code, .string f.which, .string f.what, .string f.look, .string f.side]) (by simp [results, Tryz.results6, go_sem, q0, q1, q2, q3, q4]) rfl ⟨f, hf, rfl, GP⟩
theorem l3T_sml {f : Ft} (hf : Sml f) : (l3T f).size ≤ 200 := by
  unfold Sml at hf
  obtain ⟨_, h1, h2, h3, h4⟩ := hf
  have s0 : (⟨#[]⟩ : ByteArray).size = 0 := rfl
  have s5 : (⟨#[32]⟩ : ByteArray).size = 1 := rfl
  have s6 : (⟨#[32, 115, 105, 100, 101, 32]⟩ : ByteArray).size = 6 := rfl
  unfold l3T t2 t1
  split <;> split <;> split <;> simp only [ByteArray.size_append, s0, s5, s6] <;> omega
theorem ftV_size {f : Ft} (hf : Sml f) : (ftV f).size ≤ 300 := by
  unfold ftV
  split
  · unfold ftB
    rw [ByteArray.size_append]
    have h1 := l3T_sml hf
    have h2 := itoaB_size (n := f.code) (by unfold Sml at hf; omega) (by unfold Sml at hf; omega)
    omega
  · show 0 ≤ 300; omega
set_option maxRecDepth 100000 in
set_option maxHeartbeats 1000000 in
theorem DrawParseFeature_any {C : Option Addr} {n c : Nat} {l : List Int} {w : World} (hR : Rd w w.heap.size 1 C n (bys l)) (hl : ∀ x ∈ l, 0 ≤ x ∧ x ≤ 255) (hn : n ≤ 65536) :
    Calls Tryz.prog 11 #[.slice C n c] w fun e w' => ∃ s : ByteArray, s.size ≤ 400 ∧ e = .returned (.string s) ∧ Below w.heap.size w w' := by
  have K := cur_new (c := c) hR hl hn
  clear hR
  go_enter Tryz.func11, Tryz.ntmps11
  go_wp2_with fail
  refine (feature_any K (by omega)).mono ?_
  rintro e w2 ⟨f, hf, rfl, K2, hc2⟩
  have G1 := below_new hc2
  have hs := ftV_size hf
  clear hc2 K hf
  go_wp2_with fail
  refine (FeatureText_spec f).mono ?_
  rintro e w3 ⟨rfl, hb3⟩
  replace K2 := K2.on hb3
  replace G1 := G1.trans (hb3.mono G1.size)
  generalize ftV f = s0 at *
  generalize okFt f = o0 at *
  clear hb3
  go_wp2_with fail
  refine (one_any K2 (by omega) (by omega) (by omega)).mono ?_
  rintro e w4 ⟨q, rfl, K4, hc4⟩
  replace G1 := Below.ch G1 hc4 G1.size (fun k h => by omega)
  clear hc4 K2
  cases q
  · go_wp2_with fail
    go_ret
    exact ⟨s0, by omega, rfl, G1⟩
  · go_wp2_with fail
    refine (spoilt_any K4 (by omega) (by omega) (by decide) (by decide)).mono ?_
    rintro e w5 ⟨s1, rfl, hs1, K5, hc5⟩
    replace G1 := Below.ch G1 hc5 G1.size (fun k h => by omega)
    go_wp2_with fail
    go_ret
    exact ⟨s1, by omega, rfl, G1⟩
def qrL : List Int := [0, 1, 2, 3, -1, 4]
theorem qrL_bd : ∀ x ∈ qrL, -1 ≤ x ∧ x ≤ 4 := by decide
set_option maxRecDepth 100000 in
set_option maxHeartbeats 1000000 in
theorem DrawTurnSides_any {C : Option Addr} {n c : Nat} {l : List Int} {w : World} (hR : Rd w w.heap.size 1 C n (bys l)) (hl : ∀ x ∈ l, 0 ≤ x ∧ x ≤ 255) (hn : n ≤ 65536) :
    Calls Tryz.prog 13 #[.slice C n c] w fun e w' => ∃ (f : Ft) (q : Int), Sml f ∧ (-1 ≤ q ∧ q ≤ 4) ∧ e = .returned (.tuple #[.agg #[.int .i64 f.code, .string f.which, .string f.what, .string f.look, .string f.side], .int .i64 q]) ∧ Below w.heap.size w w' := by
  have Z := Blk.new w 25 [.int .i64 0, .string ByteArray.empty, .string ByteArray.empty, .string ByteArray.empty, .string ByteArray.empty]
  have G : Below w.heap.size w (w.alloc (.cells #[.int .i64 0, .string ByteArray.empty, .string ByteArray.empty, .string ByteArray.empty, .string ByteArray.empty] 25)) := (by repeat (first | exact Below.refl _ _ | refine below_drewN ?_ _ | refine Below.drew ?_ | refine Below.alloc ?_ (by first | omega | (simp; done) | (simp; omega)) _ | refine Below.setCell ?_ (by first | omega | (simp; done) | (simp; omega)) _))
  have K := cur_new (c := c) (hR.on G) hl hn
  have Z1 := Z.alloc (.cells #[.slice C n c, .int .i64 0, .int .u64 0] 76)
  have G1 := G.alloc G.size (.cells #[.slice C n c, .int .i64 0, .int .u64 0] 76)
  rw [World.size_alloc] at K
  clear Z G hR
  go_enter Tryz.func13, Tryz.ntmps13
  go_wp2_with fail
  refine (feature_any K (by omega)).mono ?_
  rintro e w2 ⟨f, hf, rfl, K2, hc2⟩
  have Z := Z1.ch hc2 (by omega)
  have G := Below.ch G1 hc2 G1.size (fun k h => by omega)
  have hg2 := K2.lt.1
  have L := Blk.new w2 3 (ints qrL)
  clear hc2 K Z1 G1
  go_wp2_with fail
  refine (pick_any (K2.alloc _) (by omega) (by omega) (by omega)).mono ?_
  rintro e w3 ⟨x, rfl, hx0, hx1, K3, hc3⟩
  replace Z := (Z.alloc _).ch hc3 (by omega)
  replace G := Below.ch (G.alloc G.size _) hc3 (by simp; omega) (fun k h => by omega)
  replace L := L.ch hc3 (by omega)
  generalize w2.heap.size = gl at *
  obtain ⟨d, hd, hd2, hd3⟩ : ∃ d : Nat, x.tdiv 11 = (d : Int) ∧ d ≤ 2 ∧ True := by
    refine ⟨(x.tdiv 11).toNat, ?_, ?_, trivial⟩
    · rw [Int.tdiv_eq_ediv_of_nonneg hx0]; omega
    · rw [Int.tdiv_eq_ediv_of_nonneg hx0]; omega
  have hw0 : IntKind.i64.wrap (x.tdiv 11) = (d : Int) := by rw [hd]; exact IntWalk.i64_in _ (by omega)
  have hw1 : IntKind.i64.wrap (4 + (d : Int)) = 4 + (d : Int) := IntWalk.i64_in _ (by omega)
  have hw2 : 4 + (d : Int) ≤ 6 := by omega
  have hw3 : (0 : Int) ≤ 4 + (d : Int) := by omega
  have hw4 : (4 + (d : Int)).toNat = 4 + d := by omega
  have hw5 : 4 + d ≤ 6 := by omega
  clear hc3 K2 hd hd3
  go_wp2_with fail
  refine (among_part (xs := qrL) (n := 4 + d) K3 (by omega) L (by omega) (by show 4 + d ≤ 6; omega) (by omega) (by omega)).mono ?_
  rintro e w4 ⟨q, hq, rfl, K4, hc4⟩
  have hqb := qrL_bd q hq
  replace Z := Z.ch hc4 (by omega)
  replace G := Below.ch G hc4 G.size (fun k h => by omega)
  clear hc4 K3 K4 L hq
  obtain ⟨z0, z1, z2, z3, z4⟩ := blk5 Z
  have f0 := Z.frozen 0
  have f1 := Z.frozen 1
  have f2 := Z.frozen 2
  have f3 := Z.frozen 3
  have f4 := Z.frozen 4
  have Z2 := Z.put5 f
  obtain ⟨q0, q1, q2, q3, q4⟩ := blk5 (show Blk _ _ _ [.int .i64 f.code, .string f.which, .string f.what, .string f.look, .string f.side] from Z2)
  have GP := below_put5 G (Nat.le_refl _) f
  clear Z2
  go_wp2_with fail
  refine bodyPost_ret (v := .tuple #[.agg #[.int .i64 f.code, .string f.which, .string f.what, .string f.look, .string f.side], .int .i64 q]) (by simp [results, Tryz.results13, go_sem, q0, q1, q2, q3, q4]) rfl ⟨f, q, hf, hqb, rfl, GP⟩
theorem blk_put5 {w : World} {g : Nat} {t : TypeId} {cs : List Value} (h : Blk w g t cs) (hc : cs.length = 5) (f : Ft) : Blk (World.setCell (World.setCell (World.setCell (World.setCell (World.setCell w ⟨g, 0, none⟩ (.int .i64 f.code)) ⟨g, 1, none⟩ (.string f.which)) ⟨g, 2, none⟩ (.string f.what)) ⟨g, 3, none⟩ (.string f.look)) ⟨g, 4, none⟩ (.string f.side)) g t f.cells := by
  have h2 := h.put5 f
  match cs, hc with
  | [a, b, c, d, e], _ => exact h2
set_option maxRecDepth 100000 in
set_option maxHeartbeats 16000000 in
theorem DrawDoDescribe_any {C : Option Addr} {n c : Nat} {l : List Int} {w : World} (hR : Rd w w.heap.size 1 C n (bys l)) (hl : ∀ x ∈ l, 0 ≤ x ∧ x ≤ 255) (hn : n ≤ 65536) :
    Calls Tryz.prog 16 #[.slice C n c] w fun e w' => ∃ a b : Ft, Sml a ∧ Sml b ∧ e = .returned (.tuple #[.agg #[.int .i64 a.code, .string a.which, .string a.what, .string a.look, .string a.side], .agg #[.int .i64 b.code, .string b.which, .string b.what, .string b.look, .string b.side]]) ∧ Below w.heap.size w w' := by
  obtain ⟨ZA, ZB⟩ := two_newT w 25 25 [.int .i64 0, .string ByteArray.empty, .string ByteArray.empty, .string ByteArray.empty, .string ByteArray.empty] [.int .i64 0, .string ByteArray.empty, .string ByteArray.empty, .string ByteArray.empty, .string ByteArray.empty]
  have G : Below w.heap.size w ((w.alloc (.cells #[.int .i64 0, .string ByteArray.empty, .string ByteArray.empty, .string ByteArray.empty, .string ByteArray.empty] 25)).alloc (.cells #[.int .i64 0, .string ByteArray.empty, .string ByteArray.empty, .string ByteArray.empty, .string ByteArray.empty] 25)) := (by repeat (first | exact Below.refl _ _ | refine below_drewN ?_ _ | refine Below.drew ?_ | refine Below.alloc ?_ (by first | omega | (simp; done) | (simp; omega)) _ | refine Below.setCell ?_ (by first | omega | (simp; done) | (simp; omega)) _))
  have K := cur_new (c := c) (hR.on G) hl hn
  replace ZA := ZA.alloc (.cells #[.slice C n c, .int .i64 0, .int .u64 0] 76)
  replace ZB := ZB.alloc (.cells #[.slice C n c, .int .i64 0, .int .u64 0] 76)
  replace G := G.alloc G.size (.cells #[.slice C n c, .int .i64 0, .int .u64 0] 76)
  rw [World.size_alloc, World.size_alloc] at K
  clear hR
  go_enter Tryz.func16, Tryz.ntmps16
  go_wp2_with fail
  refine (feature_any K (by omega)).mono ?_
  rintro e w2 ⟨a, ha, rfl, K2, hc2⟩
  replace ZA := ZA.ch hc2 (by omega)
  replace ZB := ZB.ch hc2 (by omega)
  replace G := Below.ch G hc2 G.size (fun k h => by omega)
  have hg := K2.lt.1
  have A := Blk.new w2 25 a.cells
  obtain ⟨a0, a1, a2, a3, a4⟩ := blk5 A
  have HW2 := Lib.hid K2
  clear hc2 K K2
  go_wp2_with fail
  have B := Blk.new (w2.alloc (.cells #[.int .i64 a.code, .string a.which, .string a.what, .string a.look, .string a.side] 25)) 25 a.cells
  rw [World.size_alloc] at B
  replace A := A.alloc (.cells #[.int .i64 a.code, .string a.which, .string a.what, .string a.look, .string a.side] 25)
  replace ZA := (ZA.alloc (.cells #[.int .i64 a.code, .string a.which, .string a.what, .string a.look, .string a.side] 25)).alloc (.cells #[.int .i64 a.code, .string a.which, .string a.what, .string a.look, .string a.side] 25)
  replace ZB := (ZB.alloc (.cells #[.int .i64 a.code, .string a.which, .string a.what, .string a.look, .string a.side] 25)).alloc (.cells #[.int .i64 a.code, .string a.which, .string a.what, .string a.look, .string a.side] 25)
  replace G := G.alloc G.size (.cells #[.int .i64 a.code, .string a.which, .string a.what, .string a.look, .string a.side] 25)
  replace G := G.alloc G.size (.cells #[.int .i64 a.code, .string a.which, .string a.what, .string a.look, .string a.side] 25)
  clear a0 a1 a2 a3 a4
  refine (pick_any ((HW2.out.alloc (.cells #[.int .i64 a.code, .string a.which, .string a.what, .string a.look, .string a.side] 25)).alloc (.cells #[.int .i64 a.code, .string a.which, .string a.what, .string a.look, .string a.side] 25)) (by omega) (by omega) (by omega)).mono ?_
  rintro e w3 ⟨x, rfl, hx0, hx1, K3, hc3⟩
  replace A := A.ch hc3 (by omega)
  replace B := B.ch hc3 (by omega)
  replace ZA := ZA.ch hc3 (by omega)
  replace ZB := ZB.ch hc3 (by omega)
  replace G := Below.ch G hc3 G.size (fun k h => by omega)
  clear hc3 HW2
  generalize w2.heap.size = xa at *
  have hw : IntKind.i64.wrap (31 + x) = 31 + x := IntWalk.i64_in _ (by omega)
  obtain ⟨b0, b1, b2, b3, b4⟩ := blk5 B
  have g0 := B.frozen 0
  have HK3 := Lib.hid K3
  go_wp2_with fail
  have B1 : Blk (w3.setCell ⟨xa + 1, 0, none⟩ (.int .i64 (31 + x))) (xa + 1) 25 ({ a with code := 31 + x } : Ft).cells := B.set_ 0 (.int .i64 (31 + x))
  have A1 := A.far (p := ⟨xa + 1, 0, none⟩) (by show xa ≠ xa + 1; omega) (.int .i64 (31 + x))
  have ZA1 := ZA.far (p := ⟨xa + 1, 0, none⟩) (by show w.heap.size ≠ xa + 1; omega) (.int .i64 (31 + x))
  have ZB1 := ZB.far (p := ⟨xa + 1, 0, none⟩) (by show w.heap.size + 1 ≠ xa + 1; omega) (.int .i64 (31 + x))
  have G1 := Below.setCell G (p := ⟨xa + 1, 0, none⟩) (by show w.heap.size ≤ xa + 1; omega) (.int .i64 (31 + x))
  have hb : Sml { a with code := 31 + x } := by
    unfold Sml at ha ⊢
    dsimp only
    omega
  generalize ({ a with code := 31 + x } : Ft) = b at *
  clear b0 b1 b2 b3 b4 g0 A B ZA ZB G
  refine (one_any (K3.ch (ch_set_ (g := xa + 1) (i := 0) (u := .int .i64 (31 + x)) w3) (fun j h => by omega)) (by omega) (by omega) (by omega)).mono ?_
  rintro e w4 ⟨q, rfl, K4, hc4⟩
  have A := A1.ch hc4 (by omega)
  have B := B1.ch hc4 (by omega)
  have ZA := ZA1.ch hc4 (by omega)
  have ZB := ZB1.ch hc4 (by omega)
  have G := Below.ch G1 hc4 G1.size (fun k h => by omega)
  clear A1 B1 ZA1 ZB1 G1 hc4 K3 HK3
  go_upto_if 18 with (fail)
  go_cut [] (fun wx => ∃ b : Ft, Sml b ∧ Blk wx (xa + 1) 25 b.cells ∧ Blk wx xa 25 a.cells ∧ Blk wx w.heap.size 25 [.int .i64 0, .string ByteArray.empty, .string ByteArray.empty, .string ByteArray.empty, .string ByteArray.empty] ∧ Blk wx (w.heap.size + 1) 25 [.int .i64 0, .string ByteArray.empty, .string ByteArray.empty, .string ByteArray.empty, .string ByteArray.empty] ∧ Below w.heap.size w wx)
  case first =>
    cases q
    · go_wp2_with fail
      go_meet
      exact ⟨b, hb, B, A, ZA, ZB, G⟩
    · go_wp2_with fail
      refine (feature_any K4 (by omega)).mono ?_
      rintro e w5 ⟨b', hb', rfl, K5, hc5⟩
      replace A := A.ch hc5 (by omega)
      replace B := B.ch hc5 (by omega)
      replace ZA := ZA.ch hc5 (by omega)
      replace ZB := ZB.ch hc5 (by omega)
      replace G := Below.ch G hc5 G.size (fun k h => by omega)
      obtain ⟨b0, b1, b2, b3, b4⟩ := blk5 B
      have g0 := B.frozen 0
      have g1 := B.frozen 1
      have g2 := B.frozen 2
      have g3 := B.frozen 3
      have g4 := B.frozen 4
      have hcx := ch_put5 (xa + 1) w5 b'
      clear hc5 K4 K5
      go_wp2_with fail
      go_meet
      exact ⟨b', hb', blk_put5 B rfl b', A.ch hcx (by omega), ZA.ch hcx (by omega), ZB.ch hcx (by omega), Below.ch G hcx G.size (fun k h => by omega)⟩
  case rest =>
  obtain ⟨b, hb, B, A, ZA, ZB, G⟩ := hcut
  clear K4
  obtain ⟨b0, b1, b2, b3, b4⟩ := blk5 B
  obtain ⟨a0, a1, a2, a3, a4⟩ := blk5 A
  obtain ⟨y0, y1, y2, y3, y4⟩ := blk5 ZA
  obtain ⟨z0, z1, z2, z3, z4⟩ := blk5 ZB
  go_upto_region 7 with (fail)
  refine wp_region_held_drew (S := fun w' => Blk w' xa 25 a.cells ∧ Blk w' (xa + 1) 25 b.cells ∧ (∃ i0 i1 i2 i3 i4, Blk w' w.heap.size 25 [i0, i1, i2, i3, i4]) ∧ (∃ i0 i1 i2 i3 i4, Blk w' (w.heap.size + 1) 25 [i0, i1, i2, i3, i4]) ∧ Below w.heap.size w w') (by kernel_rfl) ?_ (fun hHeld => ?_)
  · (try dsimp only)
    exact ⟨A.drew, B.drew, ⟨_, _, _, _, _, ZA.drew⟩, ⟨_, _, _, _, _, ZB.drew⟩, G.drew⟩
  replace A := A.drew; replace B := B.drew; replace ZA := ZA.drew; replace ZB := ZB.drew; replace G := G.drew; generalize wc.drew = wx at *
  refine rgTake (i := 0) (d := 21) (v := ?_) rfl rfl (by kernel_rfl) (by kernel_rfl) (by kernel_rfl) (fun _ _ _ h => h) (by rfl) ?_ (by assumption) ?_
  rotate_left
  · ((intro w hSw); (try dsimp only at hSw); (obtain ⟨l0, l1, l2, l3, l4⟩ := blk5 hSw.1; obtain ⟨m0, m1, m2, m3, m4⟩ := blk5 hSw.2.1); go_simp; (try with_reducible rfl))
  try simp only [Act.put, List.setIfInBounds_toArray, List.set_cons_zero, List.set_cons_succ]
  refine rgTake (i := 1) (d := 22) (v := ?_) rfl rfl (by kernel_rfl) (by kernel_rfl) (by kernel_rfl) (fun _ _ _ h => h) (by rfl) ?_ (by assumption) ?_
  rotate_left
  · ((intro w hSw); (try dsimp only at hSw); (obtain ⟨l0, l1, l2, l3, l4⟩ := blk5 hSw.1; obtain ⟨m0, m1, m2, m3, m4⟩ := blk5 hSw.2.1); go_simp; (try with_reducible rfl))
  try simp only [Act.put, List.setIfInBounds_toArray, List.set_cons_zero, List.set_cons_succ]
  refine wpAnyH_ready (rs := [2]) (by kernel_rfl) (by simp) ?_
  refine AllReadyH.cons rfl (fun K hK => ?_) AllReadyH.nil
  (try (have mkB : True := mkA)); (have mkA : True := True.intro); (obtain ⟨hA9, hB9, ⟨i0, i1, i2, i3, i4, Za9⟩, ⟨j0, j1, j2, j3, j4, Zb9⟩, G9⟩ := hHeld); (obtain ⟨v0, v1, v2, v3, v4⟩ := blk5 Za9); (obtain ⟨n0, n1, n2, n3, n4⟩ := blk5 Zb9); (have e0 := Za9.frozen 0); (have e1 := Za9.frozen 1); (have e2 := Za9.frozen 2); (have e3 := Za9.frozen 3); (have e4 := Za9.frozen 4); (have d0 := Zb9.frozen 0); (have d1 := Zb9.frozen 1); (have d2 := Zb9.frozen 2); (have d3 := Zb9.frozen 3); (have d4 := Zb9.frozen 4); go_simp
  refine hK.out _ _ ?_ (fun hHeld => ?_)
  · (try dsimp only)
    first | (have hmk : True := mkB; clear hmk; exact (fun hcx : Ch (fun j => j = w.heap.size + 1) _ _ => ⟨hA9.ch hcx (by omega), hB9.ch hcx (by omega), ⟨_, _, _, _, _, Za9.ch hcx (by omega)⟩, ⟨_, _, _, _, _, blk_put5 Zb9 rfl b⟩, Below.ch G9 hcx G9.size (fun k h => by omega)⟩) (ch_put5 (w.heap.size + 1) _ b)) | exact (fun hcx : Ch (fun j => j = w.heap.size) _ _ => ⟨hA9.ch hcx (by omega), hB9.ch hcx (by omega), ⟨_, _, _, _, _, blk_put5 Za9 rfl a⟩, ⟨_, _, _, _, _, Zb9.ch hcx (by omega)⟩, Below.ch G9 hcx G9.size (fun k h => by omega)⟩) (ch_put5 w.heap.size _ a)
  clear hK K
  try simp only [Act.put, List.setIfInBounds_toArray, List.set_cons_zero, List.set_cons_succ]
  refine wpAnyH_ready (rs := [3]) (by kernel_rfl) (by simp) ?_
  refine AllReadyH.cons rfl (fun K hK => ?_) AllReadyH.nil
  (try (have mkB : True := mkA)); (have mkA : True := True.intro); (obtain ⟨hA9, hB9, ⟨i0, i1, i2, i3, i4, Za9⟩, ⟨j0, j1, j2, j3, j4, Zb9⟩, G9⟩ := hHeld); (obtain ⟨v0, v1, v2, v3, v4⟩ := blk5 Za9); (obtain ⟨n0, n1, n2, n3, n4⟩ := blk5 Zb9); (have e0 := Za9.frozen 0); (have e1 := Za9.frozen 1); (have e2 := Za9.frozen 2); (have e3 := Za9.frozen 3); (have e4 := Za9.frozen 4); (have d0 := Zb9.frozen 0); (have d1 := Zb9.frozen 1); (have d2 := Zb9.frozen 2); (have d3 := Zb9.frozen 3); (have d4 := Zb9.frozen 4); go_simp
  refine hK.out _ _ ?_ (fun hHeld => ?_)
  · (try dsimp only)
    first | (have hmk : True := mkB; clear hmk; exact (fun hcx : Ch (fun j => j = w.heap.size + 1) _ _ => ⟨hA9.ch hcx (by omega), hB9.ch hcx (by omega), ⟨_, _, _, _, _, Za9.ch hcx (by omega)⟩, ⟨_, _, _, _, _, blk_put5 Zb9 rfl b⟩, Below.ch G9 hcx G9.size (fun k h => by omega)⟩) (ch_put5 (w.heap.size + 1) _ b)) | exact (fun hcx : Ch (fun j => j = w.heap.size) _ _ => ⟨hA9.ch hcx (by omega), hB9.ch hcx (by omega), ⟨_, _, _, _, _, blk_put5 Za9 rfl a⟩, ⟨_, _, _, _, _, Zb9.ch hcx (by omega)⟩, Below.ch G9 hcx G9.size (fun k h => by omega)⟩) (ch_put5 w.heap.size _ a)
  clear hK K
  try simp only [Act.put, List.setIfInBounds_toArray, List.set_cons_zero, List.set_cons_succ]
  refine wpAnyH_done (by kernel_rfl) ?_ _
  go_wp2_with fail
  have RA := (blk_put5 ZA rfl a).ch (ch_put5 (w.heap.size + 1) _ b) (by omega)
  have RB := blk_put5 (ZB.ch (ch_put5 w.heap.size wx a) (by omega)) rfl b
  obtain ⟨q0, q1, q2, q3, q4⟩ := blk5 RA
  obtain ⟨r0, r1, r2, r3, r4⟩ := blk5 RB
  refine bodyPost_ret (v := .tuple #[.agg #[.int .i64 a.code, .string a.which, .string a.what, .string a.look, .string a.side], .agg #[.int .i64 b.code, .string b.which, .string b.what, .string b.look, .string b.side]]) (by simp [results, Tryz.results16, go_sem, q0, q1, q2, q3, q4, r0, r1, r2, r3, r4]) rfl ⟨a, b, ha, hb, rfl, hHeld.2.2.2.2⟩
end Go.Proofs.YtmmpcchjalgokaaGreatDoor
