/- The walk of FnSymbols. -/
import Derived.Test.YtmmpcchjalgokaaGreatDoorDrg
import Derived.Test.YtmmpcchjalgokaaGreatDoorRcm
import Derived.Test.YtmmpcchjalgokaaGreatDoorSyp
import Derived.Test.YtmmpcchjalgokaaGreatDoorPfs
import Derived.Test.YtmmpcchjalgokaaGreatDoorPfw
import Derived.Lib.Strings
namespace Go.Proofs.YtmmpcchjalgokaaGreatDoor
set_option linter.unusedVariables false
set_option linter.unusedSimpArgs false
open Go.RowKit
theorem toL_inj9 {a b : ByteArray} (h : a.toList = b.toList) : a = b := by
  rw [Lib.toList_data, Lib.toList_data] at h
  exact ByteArray.ext (Array.ext' h)
theorem pf_fact {f : Ft} : okFt f = true → pfOk (ftV f) = true ∧ pfV (ftV f) = f := fun h => ft_back h
set_option maxRecDepth 100000 in
set_option maxHeartbeats 8000000 in
theorem law_Symbols {R0 : Option Addr} {q0 c0 : Nat} {a0 : List Int} (w : World) (ha0 : q0 ≤ maxLen ∧ c0 ≤ maxLen ∧ a0.length = q0 ∧ Rd w w.heap.size 1 R0 q0 (a0.flatMap fun b => [Value.int .u8 b]) ∧ ∀ x ∈ a0, 0 ≤ x ∧ x ≤ 255) (TY : Tab w ∧ Syn w) (M : Mxl w) :
    Calls Tryz.prog 3 #[.slice R0 q0 c0] w fun e w' => e = .returned (.bool true) ∧ Below w.heap.size w w' := by
  obtain ⟨m0, _, _, hR0, hl0⟩ := ha0
  obtain ⟨TA, Y⟩ := TY
  have hR : Rd w w.heap.size 1 R0 q0 (bys a0) := hR0
  have HL := Lib.hid hl0
  clear hR0 hl0
  by_cases hbig : (65536 : Int) < (q0 : Int)
  · have hd : decide ((65536 : Int) < (q0 : Int)) = true := by simpa using hbig
    go_enter Tryz.func3, Tryz.ntmps3
    go_wp2_with fail
    refine (rBig_any m0).mono ?_
    rintro e w1 ⟨rfl, G⟩
    rw [hd]
    go_wp2_with fail
    go_ret
    exact ⟨rfl, G⟩
  have hd : decide ((65536 : Int) < (q0 : Int)) = false := by simpa using hbig
  go_enter Tryz.func3, Tryz.ntmps3
  go_wp2_with fail
  refine (rBig_any m0).mono ?_
  rintro e w1 ⟨rfl, G⟩
  rw [hd]
  go_wp2_with fail
  refine (DrawFeatureText_any (hR.on G) HL.out (by omega)).mono ?_
  rintro e w2 ⟨f, hf, rfl, hb⟩
  replace G := G.trans (hb.mono G.size)
  clear hb
  have hsz := ftV_size hf
  have HRT : Hid (okFt f = true → pfOk (ftV f) = true ∧ pfV (ftV f) = f) := (pf_fact : okFt f = true → pfOk (ftV f) = true ∧ pfV (ftV f) = f)
  have H1 := Lib.hid (fun (W : World) (t : Tab W) => FeatureText_impl f (w := W) t)
  have H2 := Lib.hid (fun (W : World) => FeatureText_spec f (w := W))
  have H3 := Lib.hid (fun (W : World) => IsFeature_impl f W)
  have H4 := Lib.hid (fun (W : World) (t : Tab W) (y : Syn W) (m : Mxl W) => ParseFeature_impl (s := ftV f) (w := W) (by omega) t y m)
  generalize pfV (ftV f) = F9 at *
  generalize pfOk (ftV f) = o9 at *
  generalize ftV f = S1 at *
  generalize okFt f = k1 at *
  clear hf hsz
  have v1 : (S1.toList != S1.toList) = false := by simp
  have v2 : (k1 != k1) = false := by simp
  have B := Blk.new w2 25 f.cells
  replace G := G.alloc G.size (.cells #[.int .i64 f.code, .string f.which, .string f.what, .string f.look, .string f.side] 25)
  obtain ⟨b0, b1, b2, b3, b4⟩ := blk5 B
  go_wp2_with fail
  refine (H1.out _ (TA.on G)).mono ?_
  rintro e w3 ⟨rfl, hb⟩
  replace B := B.on hb
  replace G := G.trans (hb.mono G.size)
  clear hb b0 b1 b2 b3 b4
  obtain ⟨b0, b1, b2, b3, b4⟩ := blk5 B
  go_wp2_with fail
  refine (H2.out _).mono ?_
  rintro e w4 ⟨rfl, hb⟩
  replace B := B.on hb
  replace G := G.trans (hb.mono G.size)
  clear hb b0 b1 b2 b3 b4
  obtain ⟨b0, b1, b2, b3, b4⟩ := blk5 B
  go_wp2_with fail
  refine (H3.out _).mono ?_
  rintro e w5 ⟨rfl, hb⟩
  replace B := B.on hb
  replace G := G.trans (hb.mono G.size)
  clear hb b0 b1 b2 b3 b4
  obtain ⟨b0, b1, b2, b3, b4⟩ := blk5 B
  clear v1 v2 H1 H2 H3
  go_wp2_with fail
  refine (H4.out _ (TA.on G) (Y.on G) (M.on G)).mono ?_
  rintro e w6 ⟨rfl, hb⟩
  replace B := B.on hb
  replace G := G.trans (hb.mono G.size)
  clear hb b0 b1 b2 b3 b4
  obtain ⟨b0, b1, b2, b3, b4⟩ := blk5 B
  clear H4
  have B8 := Blk.new w6 25 F9.cells
  replace B := B.alloc (.cells #[.int .i64 F9.code, .string F9.which, .string F9.what, .string F9.look, .string F9.side] 25)
  replace G := G.alloc G.size (.cells #[.int .i64 F9.code, .string F9.which, .string F9.what, .string F9.look, .string F9.side] 25)
  clear b0 b1 b2 b3 b4
  obtain ⟨b0, b1, b2, b3, b4⟩ := blk5 B
  have ltB := B.lt
  obtain ⟨c0, c1, c2, c3, c4⟩ := blk5 B8
  go_upto_region 9 with (fail)
  go_cut [72] (fun z wx => z = .bool false ∧ Below w.heap.size w wx)
  case first =>
    cases k1
    · go_wp2_with fail
      go_meet
      exact ⟨rfl, G⟩
    · obtain ⟨h1, h2⟩ := HRT.out rfl
      subst h1
      subst h2
      go_wp2_with fail
      go_meet
      exact ⟨rfl, G⟩
  case rest =>
  obtain ⟨rfl, G⟩ := hcut
  clear HRT B B8 b0 b1 b2 b3 b4 c0 c1 c2 c3 c4
  go_wp2_with fail
  refine (DrawParseFeature_any (hR.on G) HL.out (by omega)).mono ?_
  rintro e w7 ⟨t, ht, rfl, hb⟩
  replace G := G.trans (hb.mono G.size)
  clear hb
  have H1 := Lib.hid (fun (W : World) (t9 : Tab W) (y : Syn W) (m : Mxl W) => ParseFeature_impl (s := t) (w := W) (by omega) t9 y m)
  have H2 := Lib.hid (fun (W : World) => ParseFeature_spec (s := t) (w := W) (by omega))
  generalize pfV t = F2 at *
  generalize pfOk t = o2 at *
  have v2 : (o2 != o2) = false := by simp
  go_wp2_with fail
  refine (H1.out _ (TA.on G) (Y.on G) (M.on G)).mono ?_
  rintro e w8 ⟨rfl, hb⟩
  replace G := G.trans (hb.mono G.size)
  clear hb
  clear H1
  have B := Blk.new w8 25 F2.cells
  replace G := G.alloc G.size (.cells #[.int .i64 F2.code, .string F2.which, .string F2.what, .string F2.look, .string F2.side] 25)
  obtain ⟨b0, b1, b2, b3, b4⟩ := blk5 B
  go_wp2_with fail
  refine (H2.out _).mono ?_
  rintro e w9 ⟨rfl, hb⟩
  replace B := B.on hb
  replace G := G.trans (hb.mono G.size)
  clear hb b0 b1 b2 b3 b4
  obtain ⟨b0, b1, b2, b3, b4⟩ := blk5 B
  clear H2
  have B8 := Blk.new w9 25 F2.cells
  replace B := B.alloc (.cells #[.int .i64 F2.code, .string F2.which, .string F2.what, .string F2.look, .string F2.side] 25)
  replace G := G.alloc G.size (.cells #[.int .i64 F2.code, .string F2.which, .string F2.what, .string F2.look, .string F2.side] 25)
  clear b0 b1 b2 b3 b4
  obtain ⟨b0, b1, b2, b3, b4⟩ := blk5 B
  have ltB := B.lt
  obtain ⟨c0, c1, c2, c3, c4⟩ := blk5 B8
  go_wp2_with fail
  refine (DrawTurnSides_any (hR.on G) HL.out (by omega)).mono ?_
  rintro e w10 ⟨x, q, hx, hq, rfl, hb⟩
  clear b0 b1 b2 b3 b4 c0 c1 c2 c3 c4 B B8 v2 hx
  replace G := G.trans (hb.mono G.size)
  clear hb
  have H1 := Lib.hid (fun (W : World) => TurnSides_impl x q W)
  have H2 := Lib.hid (fun (W : World) => TurnSides_spec x q W)
  have F1 : Hid (tsOk x q = true → okFt (tsR x q) = true ∧ tsOk (tsR x q) ((4 - q) % 4) = true ∧ tsR (tsR x q) ((4 - q) % 4) = x) := (fun h => ts_back h rfl : tsOk x q = true → _)
  generalize tsR x q = y at *
  generalize tsOk x q = o3 at *
  have v2 : (o3 != o3) = false := by simp
  have B := Blk.new w10 25 x.cells
  replace G := G.alloc G.size (.cells #[.int .i64 x.code, .string x.which, .string x.what, .string x.look, .string x.side] 25)
  obtain ⟨b0, b1, b2, b3, b4⟩ := blk5 B
  go_wp2_with fail
  refine (H1.out _).mono ?_
  rintro e w11 ⟨rfl, hb⟩
  replace B := B.on hb
  replace G := G.trans (hb.mono G.size)
  clear hb b0 b1 b2 b3 b4
  obtain ⟨b0, b1, b2, b3, b4⟩ := blk5 B
  clear H1
  have B8 := Blk.new w11 25 y.cells
  replace B := B.alloc (.cells #[.int .i64 y.code, .string y.which, .string y.what, .string y.look, .string y.side] 25)
  replace G := G.alloc G.size (.cells #[.int .i64 y.code, .string y.which, .string y.what, .string y.look, .string y.side] 25)
  clear b0 b1 b2 b3 b4
  obtain ⟨b0, b1, b2, b3, b4⟩ := blk5 B
  have ltB := B.lt
  obtain ⟨c0, c1, c2, c3, c4⟩ := blk5 B8
  go_wp2_with fail
  refine (H2.out _).mono ?_
  rintro e w12 ⟨rfl, hb⟩
  replace B := B.on hb
  replace B8 := B8.on hb
  replace G := G.trans (hb.mono G.size)
  clear hb b0 b1 b2 b3 b4 c0 c1 c2 c3 c4
  clear H2
  have B9 := Blk.new w12 25 y.cells
  replace B := B.alloc (.cells #[.int .i64 y.code, .string y.which, .string y.what, .string y.look, .string y.side] 25)
  replace B8 := B8.alloc (.cells #[.int .i64 y.code, .string y.which, .string y.what, .string y.look, .string y.side] 25)
  replace G := G.alloc G.size (.cells #[.int .i64 y.code, .string y.which, .string y.what, .string y.look, .string y.side] 25)
  obtain ⟨b0, b1, b2, b3, b4⟩ := blk5 B
  obtain ⟨c0, c1, c2, c3, c4⟩ := blk5 B8
  obtain ⟨d0, d1, d2, d3, d4⟩ := blk5 B9
  have ltB := B.lt
  have ltB8 := B8.lt
  have ltB9 := B9.lt
  go_upto_if 118 with (fail)
  go_cut [] (fun wx => Below w.heap.size w wx)
  case first =>
    cases o3
    · go_wp2_with fail
      go_meet
      exact G
    · obtain ⟨h1, h2, h3⟩ := F1.out rfl
      have hw1 : IntKind.i64.wrap (4 - q) = 4 - q := IntWalk.i64_in _ (by omega)
      obtain ⟨p, hp⟩ : ∃ p, (4 - q) % 4 = p := ⟨_, rfl⟩
      have hq4 : (4 - q).tmod 4 = p := (Int.tmod_eq_emod_of_nonneg (by omega)).trans hp
      have hw2 : IntKind.i64.wrap p = p := IntWalk.i64_in _ (by omega)
      have hq5 : 0 ≤ 4 - q := by omega
      rw [hp] at h2 h3
      have H1 := Lib.hid (fun (W : World) => TurnSides_impl y p W)
      have H3 := Lib.hid (fun (W : World) => IsFeature_impl y W)
      rw [h2, h3] at H1
      rw [h1] at H3
      clear h1 h2 h3 B9 d0 d1 d2 d3 d4 ltB9
      go_wp2_with fail
      refine (H1.out _).mono ?_
      rintro e w13 ⟨rfl, hb⟩
      replace B := B.on hb
      replace B8 := B8.on hb
      replace G := G.trans (hb.mono G.size)
      clear hb b0 b1 b2 b3 b4 c0 c1 c2 c3 c4
      have B9 := Blk.new w13 25 x.cells
      replace B := B.alloc (.cells #[.int .i64 x.code, .string x.which, .string x.what, .string x.look, .string x.side] 25)
      replace B8 := B8.alloc (.cells #[.int .i64 x.code, .string x.which, .string x.what, .string x.look, .string x.side] 25)
      replace G := G.alloc G.size (.cells #[.int .i64 x.code, .string x.which, .string x.what, .string x.look, .string x.side] 25)
      obtain ⟨b0, b1, b2, b3, b4⟩ := blk5 B
      obtain ⟨c0, c1, c2, c3, c4⟩ := blk5 B8
      obtain ⟨d0, d1, d2, d3, d4⟩ := blk5 B9
      replace ltB := B.lt
      replace ltB8 := B8.lt
      go_wp2_with fail
      refine (H3.out _).mono ?_
      rintro e w14 ⟨rfl, hb⟩
      replace G := G.trans (hb.mono G.size)
      go_wp2_with fail
      go_meet
      exact G
  case rest =>
  have G := hcut
  clear hcut F1 B B8 B9 b0 b1 b2 b3 b4 c0 c1 c2 c3 c4 d0 d1 d2 d3 d4 ltB ltB8 ltB9 v2
  go_wp2_with fail
  refine (DrawDoDescribe_any (hR.on G) HL.out (by omega)).mono ?_
  rintro e w15 ⟨a, b, ha, hbb, rfl, hb⟩
  replace G := G.trans (hb.mono G.size)
  clear hb
  have H1 := Lib.hid (fun (W : World) (t : Tab W) => DoDescribe_impl a b (w := W) t)
  have H2 := Lib.hid (fun (W : World) => DoDescribe_spec a b (w := W))
  have F1 : Hid (ddOk a b = true → ddV a b = (decide (a.which = b.which) && (decide (a.what = b.what) && (decide (a.look = b.look) && decide (a.side = b.side))))) := (fun h => dd_same h : ddOk a b = true → _)
  clear ha hbb
  generalize ddV a b = sm at *
  generalize ddOk a b = kn at *
  have v1 : (sm != sm) = false := by simp
  have v2 : (kn != kn) = false := by simp
  obtain ⟨B, B8⟩ := two_newT w15 25 25 a.cells b.cells
  replace G := G.alloc G.size (.cells #[.int .i64 a.code, .string a.which, .string a.what, .string a.look, .string a.side] 25)
  replace G := G.alloc G.size (.cells #[.int .i64 b.code, .string b.which, .string b.what, .string b.look, .string b.side] 25)
  obtain ⟨b0, b1, b2, b3, b4⟩ := blk5 B
  obtain ⟨c0, c1, c2, c3, c4⟩ := blk5 B8
  go_wp2_with fail
  refine (H1.out _ (TA.on G)).mono ?_
  rintro e w16 ⟨rfl, hb⟩
  replace B := B.on hb
  replace B8 := B8.on hb
  replace G := G.trans (hb.mono G.size)
  clear hb b0 b1 b2 b3 b4 c0 c1 c2 c3 c4
  obtain ⟨b0, b1, b2, b3, b4⟩ := blk5 B
  obtain ⟨c0, c1, c2, c3, c4⟩ := blk5 B8
  go_wp2_with fail
  refine (H2.out _).mono ?_
  rintro e w17 ⟨rfl, hb⟩
  replace B := B.on hb
  replace B8 := B8.on hb
  replace G := G.trans (hb.mono G.size)
  clear hb b0 b1 b2 b3 b4 c0 c1 c2 c3 c4
  obtain ⟨b0, b1, b2, b3, b4⟩ := blk5 B
  obtain ⟨c0, c1, c2, c3, c4⟩ := blk5 B8
  clear H1 H2
  have B9 := Blk.new w17 25 a.cells
  have B7 := Blk.new w17 25 [.int .i64 b.code, .string a.which, .string a.what, .string a.look, .string a.side]
  have g0 := B9.frozen 0
  have ltB := B.lt
  have ltB8 := B8.lt
  have BB := B8.alloc (.cells #[.int .i64 b.code, .string a.which, .string a.what, .string a.look, .string a.side] 25)
  have GE : ∀ x1 x2 x3 x4 : ByteArray, Below w.heap.size w (w17.alloc (.cells #[.int .i64 b.code, .string x1, .string x2, .string x3, .string x4] 25)) := fun x1 x2 x3 x4 => G.alloc G.size _
  obtain ⟨k0, k1, k2, k3, k4⟩ := blk5 B7
  obtain ⟨m0', m1, m2, m3, m4⟩ := blk5 BB
  obtain ⟨d0, d1, d2, d3, d4⟩ := blk5 B9
  cases kn
  · go_wp2_with fail
    go_ret
    exact ⟨rfl, GE _ _ _ _⟩
  · have F9 := F1.out rfl
    clear F1 B B8 B7 B9 BB
    by_cases e1 : a.which = b.which
    · rw [decide_eq_true e1, Bool.true_and] at F9
      have d1 : decide (a.which = b.which) = true := decide_eq_true e1
      by_cases e2 : a.what = b.what
      · rw [decide_eq_true e2, Bool.true_and] at F9
        have d2 : decide (a.what = b.what) = true := decide_eq_true e2
        by_cases e3 : a.look = b.look
        · rw [decide_eq_true e3, Bool.true_and] at F9
          have d3 : decide (a.look = b.look) = true := decide_eq_true e3
          by_cases e4 : a.side = b.side
          · rw [decide_eq_true e4] at F9
            have d4 : decide (a.side = b.side) = true := decide_eq_true e4
            subst F9
            go_wp2_with fail
            go_ret
            exact ⟨rfl, GE _ _ _ _⟩
          · rw [decide_eq_false e4] at F9
            have d4 : ¬ a.side.toList = b.side.toList := fun h => e4 (toL_inj9 h)
            subst F9
            go_wp2_with fail
            go_ret
            exact ⟨rfl, GE _ _ _ _⟩
        · rw [decide_eq_false e3, Bool.false_and] at F9
          have d3 : ¬ a.look.toList = b.look.toList := fun h => e3 (toL_inj9 h)
          subst F9
          go_wp2_with fail
          go_ret
          exact ⟨rfl, GE _ _ _ _⟩
      · rw [decide_eq_false e2, Bool.false_and] at F9
        have d2 : ¬ a.what.toList = b.what.toList := fun h => e2 (toL_inj9 h)
        subst F9
        go_wp2_with fail
        go_ret
        exact ⟨rfl, GE _ _ _ _⟩
    · rw [decide_eq_false e1, Bool.false_and] at F9
      have d1 : ¬ a.which.toList = b.which.toList := fun h => e1 (toL_inj9 h)
      subst F9
      go_wp2_with fail
      go_ret
      exact ⟨rfl, GE _ _ _ _⟩
end Go.Proofs.YtmmpcchjalgokaaGreatDoor
