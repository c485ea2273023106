/- The walk of FnMaps. -/
import Derived.Test.YtmmpcchjalgokaaDoorDmp
import Derived.Test.YtmmpcchjalgokaaDoorTmp
import Derived.Test.YtmmpcchjalgokaaDoorVmp
import Derived.Test.YtmmpcchjalgokaaDoorMirSp
import Derived.Test.YtmmpcchjalgokaaDoorPms
namespace Go.Proofs.YtmmpcchjalgokaaDoor
set_option linter.unusedVariables false
set_option linter.unusedSimpArgs false
open Go.RowKit
theorem mrM_ln (m : Mp) : (mrM m).ri.length ≤ 100 ∧ (mrM m).co.length ≤ 100 := by
  unfold mrM
  split
  · next h =>
    have V := valid_iff.1 h
    have hw : m.wd.toNat ≤ 6 := by have := V.w6; omega
    have hh : m.ht.toNat ≤ 6 := by have := V.h6; omega
    have h37 : m.ht.toNat * m.wd.toNat ≤ 6 * 6 := Nat.mul_le_mul hh hw
    refine ⟨?_, ?_⟩ <;> (dsimp only; rw [allL_len]; omega)
  · exact ⟨by show 0 ≤ 100; omega, by show 0 ≤ 100; omega⟩
theorem tnM_ln (m : Mp) : (tnM m).ri.length ≤ 100 ∧ (tnM m).co.length ≤ 100 := by
  unfold tnM
  split
  · next h =>
    have V := valid_iff.1 h
    have hw : m.wd.toNat ≤ 6 := by have := V.w6; omega
    have hh : m.ht.toNat ≤ 6 := by have := V.h6; omega
    have h36 : m.wd.toNat * m.ht.toNat ≤ 6 * 6 := Nat.mul_le_mul hw hh
    refine ⟨?_, ?_⟩ <;> (dsimp only; rw [allL_len]; omega)
  · exact ⟨by show 0 ≤ 100; omega, by show 0 ≤ 100; omega⟩
theorem pmV_ln (s : ByteArray) : (pmV s).ri.length ≤ 100 ∧ (pmV s).co.length ≤ 100 := by
  cases h : pmOk s
  · have h2 : pmV s = mpZ := by
      unfold pmOk at h
      unfold pmV
      cases hp : pmF s
      · rfl
      · rw [hp] at h; cases h
    rw [h2]
    exact ⟨by show 0 ≤ 100; omega, by show 0 ≤ 100; omega⟩
  · have V := (mt_ok (pm_ok h).1).1
    have h1 := V.n36
    have h2 := V.lc
    omega
def TurnsTo (m r : Mp) (ok : Bool) : Prop := ∀ (v : Value) (W : World), MapIn W m v → Calls Tryd.prog 45 #[v] W fun e w' => MapEnd W r ok e w'
def MirsTo (m r : Mp) (ok : Bool) : Prop := ∀ (v : Value) (W : World), MapIn W m v → Calls Tryd.prog 49 #[v] W fun e w' => MapEnd W r ok e w'
theorem turnsTo (m : Mp) : TurnsTo m (tnM m) (okM m) := fun _ _ h => TurnMap_impl h
theorem mirsTo (m : Mp) : MirsTo m (mrM m) (okM m) := fun _ _ h => MirrorMap_impl h
/-- What is told of a valid map: four turns, two mirrors. -/
theorem turn_facts {m : Mp} (h : okM m = true) : ∃ t2 t3 : Mp, (t2.ri.length ≤ 100 ∧ t2.co.length ≤ 100) ∧ (t3.ri.length ≤ 100 ∧ t3.co.length ≤ 100) ∧ TurnsTo (tnM m) t2 true ∧ TurnsTo t2 t3 true ∧ TurnsTo t3 m true ∧ MirsTo (mrM m) m true := by
  obtain ⟨v1, v2, v3, e4⟩ := tn_four h
  obtain ⟨u1, e2⟩ := mr_two h
  refine ⟨tnM (tnM m), tnM (tnM (tnM m)), tnM_ln _, tnM_ln _, ?_, ?_, ?_, ?_⟩
  · have := turnsTo (tnM m); rwa [v1] at this
  · have := turnsTo (tnM (tnM m)); rwa [v2] at this
  · have := turnsTo (tnM (tnM (tnM m))); rwa [v3, e4] at this
  · have := mirsTo (mrM m); rwa [u1, e2] at this
set_option maxRecDepth 100000 in
set_option maxHeartbeats 8000000 in
theorem law_Maps {R0 : Option Addr} {q0 c0 : Nat} {a0 : List Int} (w : World) (ha0 : q0 ≤ maxLen ∧ c0 ≤ maxLen ∧ a0.length = q0 ∧ Rd w w.heap.size 1 R0 q0 (a0.flatMap fun b => [Value.int .u8 b]) ∧ ∀ x ∈ a0, 0 ≤ x ∧ x ≤ 255) (TA : Tab w) (MX : Mxl w) :
    Calls Tryd.prog 7 #[.slice R0 q0 c0] w fun e w' => e = .returned (.bool true) ∧ Below w.heap.size w w' := by
  obtain ⟨m0, _, _, hR0, hl0⟩ := ha0
  have hR : Rd w w.heap.size 1 R0 q0 (bys a0) := hR0
  have HL := Lib.hid hl0
  clear hR0 hl0
  by_cases hbig : (65536 : Int) < (q0 : Int)
  · have hd : decide ((65536 : Int) < (q0 : Int)) = true := by simpa using hbig
    go_enter Tryd.func7, Tryd.ntmps7
    go_wp2_with fail
    refine (vBig_any m0).mono ?_
    rintro e w1 ⟨rfl, G⟩
    rw [hd]
    go_wp2_with fail
    go_ret
    exact ⟨rfl, G⟩
  have hd : decide ((65536 : Int) < (q0 : Int)) = false := by simpa using hbig
  go_enter Tryd.func7, Tryd.ntmps7
  go_wp2_with fail
  refine (vBig_any m0).mono ?_
  rintro e w1 ⟨rfl, G⟩
  rw [hd]
  go_wp2_with fail
  refine (DrawTurnMap_any (hR.on G) HL.out (by omega)).mono ?_
  rintro e w2 ⟨m, A0, B0, cc0, d0, rfl, M0, hb⟩
  replace M0 := M0.le (base' := w.heap.size) G.size
  replace G := G.trans (hb.mono G.size)
  clear hb
  have F1 : Hid (okM m = true → ∃ t2 t3 : Mp, (t2.ri.length ≤ 100 ∧ t2.co.length ≤ 100) ∧ (t3.ri.length ≤ 100 ∧ t3.co.length ≤ 100) ∧ TurnsTo (tnM m) t2 true ∧ TurnsTo t2 t3 true ∧ TurnsTo t3 m true ∧ MirsTo (mrM m) m true) := (fun h => turn_facts h : okM m = true → _)
  have HT : Hid (TurnsTo m (tnM m) (okM m)) := turnsTo m
  have HTS : Hid (∀ (v : Value) (W : World), MapIn W m v → Calls Tryd.prog 46 #[v] W fun e w' => MapEnd W (tnM m) (okM m) e w') := (fun _ _ h => TurnMap_spec h : ∀ (v : Value) (W : World), _)
  have HM : Hid (MirsTo m (mrM m) (okM m)) := mirsTo m
  have HMS : Hid (∀ (v : Value) (W : World), MapIn W m v → Calls Tryd.prog 50 #[v] W fun e w' => MapEnd W (mrM m) (okM m) e w') := (fun _ _ h => MirrorMap_spec h : ∀ (v : Value) (W : World), _)
  have HIS : Hid (∀ (v : Value) (W : World), MapIn W m v → Calls Tryd.prog 48 #[v] W fun e w' => e = .returned (.bool (okM m)) ∧ Below W.heap.size W w') := (fun _ _ h => IsMap_m h : ∀ (v : Value) (W : World), _)
  have Lt := tnM_ln m
  have Lr := mrM_ln m
  generalize tnM m = t at *
  generalize mrM m = r at *
  generalize okM m = ok at *
  have okne : (ok != ok) = false := by simp
  have X0 := Blk.new w2 47 [.int .i64 m.wd, .int .i64 m.ht, .slice A0 m.ri.length cc0, .slice B0 m.co.length d0]
  replace M0 := M0.alloc (.cells #[.int .i64 m.wd, .int .i64 m.ht, .slice A0 m.ri.length cc0, .slice B0 m.co.length d0] 47)
  replace G := G.alloc G.size (.cells #[.int .i64 m.wd, .int .i64 m.ht, .slice A0 m.ri.length cc0, .slice B0 m.co.length d0] 47)
  obtain ⟨x0, x1, x2, x3⟩ := blk4 X0
  have ltX0 := X0.lt
  go_wp2_with fail
  refine (HT.out _ _ M0.inn).mono ?_
  rintro e w3 ⟨A1, B1, c1, d1, rfl, oa, ob, _, hb⟩
  have M1 : MpAt w3 w.heap.size t A1 B1 c1 d1 := ⟨Lt.1, Lt.2, own_le oa G.size, own_le ob G.size⟩
  clear oa ob
  clear x0 x1 x2 x3 ltX0
  replace X0 := X0.on hb
  replace M0 := M0.on hb
  replace G := G.trans (hb.mono G.size)
  clear hb
  obtain ⟨x0, x1, x2, x3⟩ := blk4 X0
  have ltX0 := X0.lt
  clear x0 x1 x2 x3 ltX0
  have X1 := Blk.new w3 47 [.int .i64 t.wd, .int .i64 t.ht, .slice A1 t.ri.length c1, .slice B1 t.co.length d1]
  replace X0 := X0.alloc (.cells #[.int .i64 t.wd, .int .i64 t.ht, .slice A1 t.ri.length c1, .slice B1 t.co.length d1] 47)
  replace M0 := M0.alloc (.cells #[.int .i64 t.wd, .int .i64 t.ht, .slice A1 t.ri.length c1, .slice B1 t.co.length d1] 47)
  replace M1 := M1.alloc (.cells #[.int .i64 t.wd, .int .i64 t.ht, .slice A1 t.ri.length c1, .slice B1 t.co.length d1] 47)
  replace G := G.alloc G.size (.cells #[.int .i64 t.wd, .int .i64 t.ht, .slice A1 t.ri.length c1, .slice B1 t.co.length d1] 47)
  obtain ⟨x0, x1, x2, x3⟩ := blk4 X0
  have ltX0 := X0.lt
  obtain ⟨y0, y1, y2, y3⟩ := blk4 X1
  have ltX1 := X1.lt
  go_wp2_with fail
  refine (HTS.out _ _ M0.inn).mono ?_
  rintro e w4 ⟨A2, B2, c2, d2, rfl, oa, ob, _, hb⟩
  have M2 : MpAt w4 w.heap.size t A2 B2 c2 d2 := ⟨Lt.1, Lt.2, own_le oa G.size, own_le ob G.size⟩
  clear oa ob
  clear x0 x1 x2 x3 y0 y1 y2 y3 ltX0 ltX1
  replace X0 := X0.on hb
  replace X1 := X1.on hb
  replace M0 := M0.on hb
  replace M1 := M1.on hb
  replace G := G.trans (hb.mono G.size)
  clear hb
  obtain ⟨x0, x1, x2, x3⟩ := blk4 X0
  have ltX0 := X0.lt
  obtain ⟨y0, y1, y2, y3⟩ := blk4 X1
  have ltX1 := X1.lt
  clear x0 x1 x2 x3 y0 y1 y2 y3 ltX0 ltX1
  have X2 := Blk.new w4 47 [.int .i64 t.wd, .int .i64 t.ht, .slice A2 t.ri.length c2, .slice B2 t.co.length d2]
  replace X0 := X0.alloc (.cells #[.int .i64 t.wd, .int .i64 t.ht, .slice A2 t.ri.length c2, .slice B2 t.co.length d2] 47)
  replace X1 := X1.alloc (.cells #[.int .i64 t.wd, .int .i64 t.ht, .slice A2 t.ri.length c2, .slice B2 t.co.length d2] 47)
  replace M0 := M0.alloc (.cells #[.int .i64 t.wd, .int .i64 t.ht, .slice A2 t.ri.length c2, .slice B2 t.co.length d2] 47)
  replace M1 := M1.alloc (.cells #[.int .i64 t.wd, .int .i64 t.ht, .slice A2 t.ri.length c2, .slice B2 t.co.length d2] 47)
  replace M2 := M2.alloc (.cells #[.int .i64 t.wd, .int .i64 t.ht, .slice A2 t.ri.length c2, .slice B2 t.co.length d2] 47)
  replace G := G.alloc G.size (.cells #[.int .i64 t.wd, .int .i64 t.ht, .slice A2 t.ri.length c2, .slice B2 t.co.length d2] 47)
  obtain ⟨x0, x1, x2, x3⟩ := blk4 X0
  have ltX0 := X0.lt
  obtain ⟨y0, y1, y2, y3⟩ := blk4 X1
  have ltX1 := X1.lt
  obtain ⟨z0, z1, z2, z3⟩ := blk4 X2
  have ltX2 := X2.lt
  go_wp2_with fail
  refine (vMap_b M1.inn M2.inn).mono ?_
  rintro e w5 ⟨rfl, hb⟩
  clear x0 x1 x2 x3 y0 y1 y2 y3 z0 z1 z2 z3 ltX0 ltX1 ltX2
  replace X0 := X0.on hb
  replace X1 := X1.on hb
  replace X2 := X2.on hb
  replace M0 := M0.on hb
  replace M1 := M1.on hb
  replace M2 := M2.on hb
  replace G := G.trans (hb.mono G.size)
  clear hb
  obtain ⟨x0, x1, x2, x3⟩ := blk4 X0
  have ltX0 := X0.lt
  obtain ⟨y0, y1, y2, y3⟩ := blk4 X1
  have ltX1 := X1.lt
  obtain ⟨z0, z1, z2, z3⟩ := blk4 X2
  have ltX2 := X2.lt
  clear z0 z1 z2 z3 ltX2 X2
  clear M2
  go_wp2_with fail
  refine (HIS.out _ _ M0.inn).mono ?_
  rintro e w6 ⟨rfl, hb⟩
  clear x0 x1 x2 x3 y0 y1 y2 y3 ltX0 ltX1
  replace X0 := X0.on hb
  replace X1 := X1.on hb
  replace M0 := M0.on hb
  replace M1 := M1.on hb
  replace G := G.trans (hb.mono G.size)
  clear hb
  obtain ⟨x0, x1, x2, x3⟩ := blk4 X0
  have ltX0 := X0.lt
  obtain ⟨y0, y1, y2, y3⟩ := blk4 X1
  have ltX1 := X1.lt
  go_wp2_with fail
  refine (HM.out _ _ M0.inn).mono ?_
  rintro e w7 ⟨A3, B3, c3, d3, rfl, oa, ob, _, hb⟩
  have M3 : MpAt w7 w.heap.size r A3 B3 c3 d3 := ⟨Lr.1, Lr.2, own_le oa G.size, own_le ob G.size⟩
  clear oa ob
  clear x0 x1 x2 x3 y0 y1 y2 y3 ltX0 ltX1
  replace X0 := X0.on hb
  replace X1 := X1.on hb
  replace M0 := M0.on hb
  replace M1 := M1.on hb
  replace G := G.trans (hb.mono G.size)
  clear hb
  obtain ⟨x0, x1, x2, x3⟩ := blk4 X0
  have ltX0 := X0.lt
  obtain ⟨y0, y1, y2, y3⟩ := blk4 X1
  have ltX1 := X1.lt
  clear x0 x1 x2 x3 y0 y1 y2 y3 ltX0 ltX1
  have X3 := Blk.new w7 47 [.int .i64 r.wd, .int .i64 r.ht, .slice A3 r.ri.length c3, .slice B3 r.co.length d3]
  replace X0 := X0.alloc (.cells #[.int .i64 r.wd, .int .i64 r.ht, .slice A3 r.ri.length c3, .slice B3 r.co.length d3] 47)
  replace X1 := X1.alloc (.cells #[.int .i64 r.wd, .int .i64 r.ht, .slice A3 r.ri.length c3, .slice B3 r.co.length d3] 47)
  replace M0 := M0.alloc (.cells #[.int .i64 r.wd, .int .i64 r.ht, .slice A3 r.ri.length c3, .slice B3 r.co.length d3] 47)
  replace M1 := M1.alloc (.cells #[.int .i64 r.wd, .int .i64 r.ht, .slice A3 r.ri.length c3, .slice B3 r.co.length d3] 47)
  replace M3 := M3.alloc (.cells #[.int .i64 r.wd, .int .i64 r.ht, .slice A3 r.ri.length c3, .slice B3 r.co.length d3] 47)
  replace G := G.alloc G.size (.cells #[.int .i64 r.wd, .int .i64 r.ht, .slice A3 r.ri.length c3, .slice B3 r.co.length d3] 47)
  obtain ⟨x0, x1, x2, x3⟩ := blk4 X0
  have ltX0 := X0.lt
  obtain ⟨y0, y1, y2, y3⟩ := blk4 X1
  have ltX1 := X1.lt
  obtain ⟨z0, z1, z2, z3⟩ := blk4 X3
  have ltX3 := X3.lt
  go_wp2_with fail
  refine (HMS.out _ _ M0.inn).mono ?_
  rintro e w8 ⟨A4, B4, c4, d4, rfl, oa, ob, _, hb⟩
  have M4 : MpAt w8 w.heap.size r A4 B4 c4 d4 := ⟨Lr.1, Lr.2, own_le oa G.size, own_le ob G.size⟩
  clear oa ob
  clear x0 x1 x2 x3 y0 y1 y2 y3 z0 z1 z2 z3 ltX0 ltX1 ltX3
  replace X0 := X0.on hb
  replace X1 := X1.on hb
  replace X3 := X3.on hb
  replace M0 := M0.on hb
  replace M1 := M1.on hb
  replace M3 := M3.on hb
  replace G := G.trans (hb.mono G.size)
  clear hb
  obtain ⟨x0, x1, x2, x3⟩ := blk4 X0
  have ltX0 := X0.lt
  obtain ⟨y0, y1, y2, y3⟩ := blk4 X1
  have ltX1 := X1.lt
  obtain ⟨z0, z1, z2, z3⟩ := blk4 X3
  have ltX3 := X3.lt
  clear x0 x1 x2 x3 y0 y1 y2 y3 z0 z1 z2 z3 ltX0 ltX1 ltX3
  have X4 := Blk.new w8 47 [.int .i64 r.wd, .int .i64 r.ht, .slice A4 r.ri.length c4, .slice B4 r.co.length d4]
  replace X0 := X0.alloc (.cells #[.int .i64 r.wd, .int .i64 r.ht, .slice A4 r.ri.length c4, .slice B4 r.co.length d4] 47)
  replace X1 := X1.alloc (.cells #[.int .i64 r.wd, .int .i64 r.ht, .slice A4 r.ri.length c4, .slice B4 r.co.length d4] 47)
  replace X3 := X3.alloc (.cells #[.int .i64 r.wd, .int .i64 r.ht, .slice A4 r.ri.length c4, .slice B4 r.co.length d4] 47)
  replace M0 := M0.alloc (.cells #[.int .i64 r.wd, .int .i64 r.ht, .slice A4 r.ri.length c4, .slice B4 r.co.length d4] 47)
  replace M1 := M1.alloc (.cells #[.int .i64 r.wd, .int .i64 r.ht, .slice A4 r.ri.length c4, .slice B4 r.co.length d4] 47)
  replace M3 := M3.alloc (.cells #[.int .i64 r.wd, .int .i64 r.ht, .slice A4 r.ri.length c4, .slice B4 r.co.length d4] 47)
  replace M4 := M4.alloc (.cells #[.int .i64 r.wd, .int .i64 r.ht, .slice A4 r.ri.length c4, .slice B4 r.co.length d4] 47)
  replace G := G.alloc G.size (.cells #[.int .i64 r.wd, .int .i64 r.ht, .slice A4 r.ri.length c4, .slice B4 r.co.length d4] 47)
  obtain ⟨x0, x1, x2, x3⟩ := blk4 X0
  have ltX0 := X0.lt
  obtain ⟨y0, y1, y2, y3⟩ := blk4 X1
  have ltX1 := X1.lt
  obtain ⟨z0, z1, z2, z3⟩ := blk4 X3
  have ltX3 := X3.lt
  obtain ⟨v0, v1, v2, v3⟩ := blk4 X4
  have ltX4 := X4.lt
  go_wp2_with fail
  refine (vMap_b M3.inn M4.inn).mono ?_
  rintro e w9 ⟨rfl, hb⟩
  clear x0 x1 x2 x3 y0 y1 y2 y3 z0 z1 z2 z3 v0 v1 v2 v3 ltX0 ltX1 ltX3 ltX4
  replace X0 := X0.on hb
  replace X1 := X1.on hb
  replace X3 := X3.on hb
  replace X4 := X4.on hb
  replace M0 := M0.on hb
  replace M1 := M1.on hb
  replace M3 := M3.on hb
  replace M4 := M4.on hb
  replace G := G.trans (hb.mono G.size)
  clear hb
  obtain ⟨x0, x1, x2, x3⟩ := blk4 X0
  have ltX0 := X0.lt
  obtain ⟨y0, y1, y2, y3⟩ := blk4 X1
  have ltX1 := X1.lt
  obtain ⟨z0, z1, z2, z3⟩ := blk4 X3
  have ltX3 := X3.lt
  obtain ⟨v0, v1, v2, v3⟩ := blk4 X4
  have ltX4 := X4.lt
  clear v0 v1 v2 v3 ltX4 X4
  clear M4
  clear HT HTS HM HMS HIS okne
  go_upto_if 87 with (fail)
  go_cut [] (fun wx => Below w.heap.size w wx)
  case first =>
    cases ok
    · go_wp2_with fail
      go_meet
      exact G
    · obtain ⟨t2, t3, Lt2, Lt3, h1, h2, h3, h4⟩ := F1.out rfl
      have Lm : m.ri.length ≤ 100 ∧ m.co.length ≤ 100 := ⟨M0.1, M0.2.1⟩
      have H1 := Lib.hid h1
      have H2 := Lib.hid h2
      have H3 := Lib.hid h3
      have H4 := Lib.hid h4
      clear h1 h2 h3 h4 F1
      go_wp2_with fail
      refine (H1.out _ _ M1.inn).mono ?_
      rintro e w10 ⟨A5, B5, c5, d5, rfl, oa, ob, _, hb⟩
      have M5 : MpAt w10 w.heap.size t2 A5 B5 c5 d5 := ⟨Lt2.1, Lt2.2, own_le oa G.size, own_le ob G.size⟩
      clear oa ob
      clear x0 x1 x2 x3 y0 y1 y2 y3 z0 z1 z2 z3 ltX0 ltX1 ltX3
      replace X0 := X0.on hb
      replace X1 := X1.on hb
      replace X3 := X3.on hb
      replace M0 := M0.on hb
      replace M1 := M1.on hb
      replace M3 := M3.on hb
      replace G := G.trans (hb.mono G.size)
      clear hb
      obtain ⟨x0, x1, x2, x3⟩ := blk4 X0
      have ltX0 := X0.lt
      obtain ⟨y0, y1, y2, y3⟩ := blk4 X1
      have ltX1 := X1.lt
      obtain ⟨z0, z1, z2, z3⟩ := blk4 X3
      have ltX3 := X3.lt
      clear y0 y1 y2 y3 ltX1 X1
      clear M1
      clear x0 x1 x2 x3 z0 z1 z2 z3 ltX0 ltX3
      have X5 := Blk.new w10 47 [.int .i64 t2.wd, .int .i64 t2.ht, .slice A5 t2.ri.length c5, .slice B5 t2.co.length d5]
      replace X0 := X0.alloc (.cells #[.int .i64 t2.wd, .int .i64 t2.ht, .slice A5 t2.ri.length c5, .slice B5 t2.co.length d5] 47)
      replace X3 := X3.alloc (.cells #[.int .i64 t2.wd, .int .i64 t2.ht, .slice A5 t2.ri.length c5, .slice B5 t2.co.length d5] 47)
      replace M0 := M0.alloc (.cells #[.int .i64 t2.wd, .int .i64 t2.ht, .slice A5 t2.ri.length c5, .slice B5 t2.co.length d5] 47)
      replace M3 := M3.alloc (.cells #[.int .i64 t2.wd, .int .i64 t2.ht, .slice A5 t2.ri.length c5, .slice B5 t2.co.length d5] 47)
      replace M5 := M5.alloc (.cells #[.int .i64 t2.wd, .int .i64 t2.ht, .slice A5 t2.ri.length c5, .slice B5 t2.co.length d5] 47)
      replace G := G.alloc G.size (.cells #[.int .i64 t2.wd, .int .i64 t2.ht, .slice A5 t2.ri.length c5, .slice B5 t2.co.length d5] 47)
      obtain ⟨x0, x1, x2, x3⟩ := blk4 X0
      have ltX0 := X0.lt
      obtain ⟨z0, z1, z2, z3⟩ := blk4 X3
      have ltX3 := X3.lt
      obtain ⟨u0, u1, u2, u3⟩ := blk4 X5
      have ltX5 := X5.lt
      go_wp2_with fail
      refine (H2.out _ _ M5.inn).mono ?_
      rintro e w11 ⟨A6, B6, c6, d6, rfl, oa, ob, _, hb⟩
      have M6 : MpAt w11 w.heap.size t3 A6 B6 c6 d6 := ⟨Lt3.1, Lt3.2, own_le oa G.size, own_le ob G.size⟩
      clear oa ob
      clear x0 x1 x2 x3 z0 z1 z2 z3 u0 u1 u2 u3 ltX0 ltX3 ltX5
      replace X0 := X0.on hb
      replace X3 := X3.on hb
      replace X5 := X5.on hb
      replace M0 := M0.on hb
      replace M3 := M3.on hb
      replace M5 := M5.on hb
      replace G := G.trans (hb.mono G.size)
      clear hb
      obtain ⟨x0, x1, x2, x3⟩ := blk4 X0
      have ltX0 := X0.lt
      obtain ⟨z0, z1, z2, z3⟩ := blk4 X3
      have ltX3 := X3.lt
      obtain ⟨u0, u1, u2, u3⟩ := blk4 X5
      have ltX5 := X5.lt
      clear u0 u1 u2 u3 ltX5 X5
      clear M5
      clear x0 x1 x2 x3 z0 z1 z2 z3 ltX0 ltX3
      have X6 := Blk.new w11 47 [.int .i64 t3.wd, .int .i64 t3.ht, .slice A6 t3.ri.length c6, .slice B6 t3.co.length d6]
      replace X0 := X0.alloc (.cells #[.int .i64 t3.wd, .int .i64 t3.ht, .slice A6 t3.ri.length c6, .slice B6 t3.co.length d6] 47)
      replace X3 := X3.alloc (.cells #[.int .i64 t3.wd, .int .i64 t3.ht, .slice A6 t3.ri.length c6, .slice B6 t3.co.length d6] 47)
      replace M0 := M0.alloc (.cells #[.int .i64 t3.wd, .int .i64 t3.ht, .slice A6 t3.ri.length c6, .slice B6 t3.co.length d6] 47)
      replace M3 := M3.alloc (.cells #[.int .i64 t3.wd, .int .i64 t3.ht, .slice A6 t3.ri.length c6, .slice B6 t3.co.length d6] 47)
      replace M6 := M6.alloc (.cells #[.int .i64 t3.wd, .int .i64 t3.ht, .slice A6 t3.ri.length c6, .slice B6 t3.co.length d6] 47)
      replace G := G.alloc G.size (.cells #[.int .i64 t3.wd, .int .i64 t3.ht, .slice A6 t3.ri.length c6, .slice B6 t3.co.length d6] 47)
      obtain ⟨x0, x1, x2, x3⟩ := blk4 X0
      have ltX0 := X0.lt
      obtain ⟨z0, z1, z2, z3⟩ := blk4 X3
      have ltX3 := X3.lt
      obtain ⟨a0, a1, a2, a3⟩ := blk4 X6
      have ltX6 := X6.lt
      go_wp2_with fail
      refine (H3.out _ _ M6.inn).mono ?_
      rintro e w12 ⟨A7, B7, c7, d7, rfl, oa, ob, _, hb⟩
      have M7 : MpAt w12 w.heap.size m A7 B7 c7 d7 := ⟨Lm.1, Lm.2, own_le oa G.size, own_le ob G.size⟩
      clear oa ob
      clear x0 x1 x2 x3 z0 z1 z2 z3 a0 a1 a2 a3 ltX0 ltX3 ltX6
      replace X0 := X0.on hb
      replace X3 := X3.on hb
      replace X6 := X6.on hb
      replace M0 := M0.on hb
      replace M3 := M3.on hb
      replace M6 := M6.on hb
      replace G := G.trans (hb.mono G.size)
      clear hb
      obtain ⟨x0, x1, x2, x3⟩ := blk4 X0
      have ltX0 := X0.lt
      obtain ⟨z0, z1, z2, z3⟩ := blk4 X3
      have ltX3 := X3.lt
      obtain ⟨a0, a1, a2, a3⟩ := blk4 X6
      have ltX6 := X6.lt
      clear a0 a1 a2 a3 ltX6 X6
      clear M6
      clear x0 x1 x2 x3 z0 z1 z2 z3 ltX0 ltX3
      have X7 := Blk.new w12 47 [.int .i64 m.wd, .int .i64 m.ht, .slice A7 m.ri.length c7, .slice B7 m.co.length d7]
      replace X0 := X0.alloc (.cells #[.int .i64 m.wd, .int .i64 m.ht, .slice A7 m.ri.length c7, .slice B7 m.co.length d7] 47)
      replace X3 := X3.alloc (.cells #[.int .i64 m.wd, .int .i64 m.ht, .slice A7 m.ri.length c7, .slice B7 m.co.length d7] 47)
      replace M0 := M0.alloc (.cells #[.int .i64 m.wd, .int .i64 m.ht, .slice A7 m.ri.length c7, .slice B7 m.co.length d7] 47)
      replace M3 := M3.alloc (.cells #[.int .i64 m.wd, .int .i64 m.ht, .slice A7 m.ri.length c7, .slice B7 m.co.length d7] 47)
      replace M7 := M7.alloc (.cells #[.int .i64 m.wd, .int .i64 m.ht, .slice A7 m.ri.length c7, .slice B7 m.co.length d7] 47)
      replace G := G.alloc G.size (.cells #[.int .i64 m.wd, .int .i64 m.ht, .slice A7 m.ri.length c7, .slice B7 m.co.length d7] 47)
      obtain ⟨x0, x1, x2, x3⟩ := blk4 X0
      have ltX0 := X0.lt
      obtain ⟨z0, z1, z2, z3⟩ := blk4 X3
      have ltX3 := X3.lt
      obtain ⟨y0, y1, y2, y3⟩ := blk4 X7
      have ltX7 := X7.lt
      go_wp2_with fail
      refine (H4.out _ _ M3.inn).mono ?_
      rintro e w13 ⟨A8, B8, c8, d8, rfl, oa, ob, _, hb⟩
      have M8 : MpAt w13 w.heap.size m A8 B8 c8 d8 := ⟨Lm.1, Lm.2, own_le oa G.size, own_le ob G.size⟩
      clear oa ob
      clear x0 x1 x2 x3 z0 z1 z2 z3 y0 y1 y2 y3 ltX0 ltX3 ltX7
      replace X0 := X0.on hb
      replace X3 := X3.on hb
      replace X7 := X7.on hb
      replace M0 := M0.on hb
      replace M3 := M3.on hb
      replace M7 := M7.on hb
      replace G := G.trans (hb.mono G.size)
      clear hb
      obtain ⟨x0, x1, x2, x3⟩ := blk4 X0
      have ltX0 := X0.lt
      obtain ⟨z0, z1, z2, z3⟩ := blk4 X3
      have ltX3 := X3.lt
      obtain ⟨y0, y1, y2, y3⟩ := blk4 X7
      have ltX7 := X7.lt
      clear z0 z1 z2 z3 ltX3 X3
      clear M3
      clear x0 x1 x2 x3 y0 y1 y2 y3 ltX0 ltX7
      have X8 := Blk.new w13 47 [.int .i64 m.wd, .int .i64 m.ht, .slice A8 m.ri.length c8, .slice B8 m.co.length d8]
      replace X0 := X0.alloc (.cells #[.int .i64 m.wd, .int .i64 m.ht, .slice A8 m.ri.length c8, .slice B8 m.co.length d8] 47)
      replace X7 := X7.alloc (.cells #[.int .i64 m.wd, .int .i64 m.ht, .slice A8 m.ri.length c8, .slice B8 m.co.length d8] 47)
      replace M0 := M0.alloc (.cells #[.int .i64 m.wd, .int .i64 m.ht, .slice A8 m.ri.length c8, .slice B8 m.co.length d8] 47)
      replace M7 := M7.alloc (.cells #[.int .i64 m.wd, .int .i64 m.ht, .slice A8 m.ri.length c8, .slice B8 m.co.length d8] 47)
      replace M8 := M8.alloc (.cells #[.int .i64 m.wd, .int .i64 m.ht, .slice A8 m.ri.length c8, .slice B8 m.co.length d8] 47)
      replace G := G.alloc G.size (.cells #[.int .i64 m.wd, .int .i64 m.ht, .slice A8 m.ri.length c8, .slice B8 m.co.length d8] 47)
      obtain ⟨x0, x1, x2, x3⟩ := blk4 X0
      have ltX0 := X0.lt
      obtain ⟨y0, y1, y2, y3⟩ := blk4 X7
      have ltX7 := X7.lt
      obtain ⟨z0, z1, z2, z3⟩ := blk4 X8
      have ltX8 := X8.lt
      go_wp2_with fail
      refine (vMap_b M7.inn M0.inn).mono ?_
      rintro e w14 ⟨rfl, hb⟩
      clear x0 x1 x2 x3 y0 y1 y2 y3 z0 z1 z2 z3 ltX0 ltX7 ltX8
      replace X0 := X0.on hb
      replace X7 := X7.on hb
      replace X8 := X8.on hb
      replace M0 := M0.on hb
      replace M7 := M7.on hb
      replace M8 := M8.on hb
      replace G := G.trans (hb.mono G.size)
      clear hb
      obtain ⟨x0, x1, x2, x3⟩ := blk4 X0
      have ltX0 := X0.lt
      obtain ⟨y0, y1, y2, y3⟩ := blk4 X7
      have ltX7 := X7.lt
      obtain ⟨z0, z1, z2, z3⟩ := blk4 X8
      have ltX8 := X8.lt
      clear y0 y1 y2 y3 ltX7 X7
      clear M7
      go_wp2_with fail
      refine (vMap_b M8.inn M0.inn).mono ?_
      rintro e w15 ⟨rfl, hb⟩
      clear x0 x1 x2 x3 z0 z1 z2 z3 ltX0 ltX8
      replace X0 := X0.on hb
      replace X8 := X8.on hb
      replace M0 := M0.on hb
      replace M8 := M8.on hb
      replace G := G.trans (hb.mono G.size)
      clear hb
      obtain ⟨x0, x1, x2, x3⟩ := blk4 X0
      have ltX0 := X0.lt
      obtain ⟨z0, z1, z2, z3⟩ := blk4 X8
      have ltX8 := X8.lt
      go_wp2_with fail
      go_meet
      exact G
  case rest =>
  have G := hcut
  clear hcut F1 Lt Lr x0 x1 x2 x3 ltX0 X0 M0 y0 y1 y2 y3 ltX1 X1 M1 z0 z1 z2 z3 ltX3 X3 M3
  go_wp2_with fail
  refine (DrawMapText_any (hR.on G) HL.out (by omega)).mono ?_
  rintro e w30 ⟨x, A0, B0, cc0, d0, rfl, M0, hb⟩
  replace M0 := M0.le (base' := w.heap.size) G.size
  replace G := G.trans (hb.mono G.size)
  clear hb
  have hts := mtV_size x
  have HI := Lib.hid (fun (W : World) (v : Value) (h : MapIn W x v) (t : Tab W) => MapText_impl h t)
  have HS := Lib.hid (fun (W : World) (v : Value) (h : MapIn W x v) => MapText_spec h)
  have HP := Lib.hid (fun (W : World) (t : Tab W) (mx : Mxl W) => ParseMap_impl (s := mtV x) (w := W) (by omega) t mx)
  have F2 : Hid (mtOk x = true → pmOk (mtV x) = true ∧ pmV (mtV x) = x) := (fun h => mt_back h : mtOk x = true → _)
  have Lg := pmV_ln (mtV x)
  generalize pmV (mtV x) = g at *
  generalize pmOk (mtV x) = rd at *
  generalize mtV x = tx at *
  generalize mtOk x = td at *
  have v1 : (tx.toList != tx.toList) = false := by simp
  have v2 : (td != td) = false := by simp
  have X0 := Blk.new w30 47 [.int .i64 x.wd, .int .i64 x.ht, .slice A0 x.ri.length cc0, .slice B0 x.co.length d0]
  replace M0 := M0.alloc (.cells #[.int .i64 x.wd, .int .i64 x.ht, .slice A0 x.ri.length cc0, .slice B0 x.co.length d0] 47)
  replace G := G.alloc G.size (.cells #[.int .i64 x.wd, .int .i64 x.ht, .slice A0 x.ri.length cc0, .slice B0 x.co.length d0] 47)
  obtain ⟨x0, x1, x2, x3⟩ := blk4 X0
  have ltX0 := X0.lt
  go_wp2_with fail
  refine (HI.out _ _ M0.inn (TA.on G)).mono ?_
  rintro e w31 ⟨rfl, hb⟩
  clear x0 x1 x2 x3 ltX0
  replace X0 := X0.on hb
  replace M0 := M0.on hb
  replace G := G.trans (hb.mono G.size)
  clear hb
  obtain ⟨x0, x1, x2, x3⟩ := blk4 X0
  have ltX0 := X0.lt
  go_wp2_with fail
  refine (HP.out _ (TA.on G) (MX.on G)).mono ?_
  rintro e w32 ⟨A1, B1, c1, d1, rfl, oa, ob, _, hb⟩
  have M1 : MpAt w32 w.heap.size g A1 B1 c1 d1 := ⟨Lg.1, Lg.2, own_le oa G.size, own_le ob G.size⟩
  clear oa ob
  clear x0 x1 x2 x3 ltX0
  replace X0 := X0.on hb
  replace M0 := M0.on hb
  replace G := G.trans (hb.mono G.size)
  clear hb
  obtain ⟨x0, x1, x2, x3⟩ := blk4 X0
  have ltX0 := X0.lt
  clear x0 x1 x2 x3 ltX0
  have X1 := Blk.new w32 47 [.int .i64 g.wd, .int .i64 g.ht, .slice A1 g.ri.length c1, .slice B1 g.co.length d1]
  replace X0 := X0.alloc (.cells #[.int .i64 g.wd, .int .i64 g.ht, .slice A1 g.ri.length c1, .slice B1 g.co.length d1] 47)
  replace M0 := M0.alloc (.cells #[.int .i64 g.wd, .int .i64 g.ht, .slice A1 g.ri.length c1, .slice B1 g.co.length d1] 47)
  replace M1 := M1.alloc (.cells #[.int .i64 g.wd, .int .i64 g.ht, .slice A1 g.ri.length c1, .slice B1 g.co.length d1] 47)
  replace G := G.alloc G.size (.cells #[.int .i64 g.wd, .int .i64 g.ht, .slice A1 g.ri.length c1, .slice B1 g.co.length d1] 47)
  obtain ⟨x0, x1, x2, x3⟩ := blk4 X0
  have ltX0 := X0.lt
  obtain ⟨y0, y1, y2, y3⟩ := blk4 X1
  have ltX1 := X1.lt
  go_wp2_with fail
  refine (HS.out _ _ M0.inn).mono ?_
  rintro e w33 ⟨rfl, hb⟩
  clear x0 x1 x2 x3 y0 y1 y2 y3 ltX0 ltX1
  replace X0 := X0.on hb
  replace X1 := X1.on hb
  replace M0 := M0.on hb
  replace M1 := M1.on hb
  replace G := G.trans (hb.mono G.size)
  clear hb
  obtain ⟨x0, x1, x2, x3⟩ := blk4 X0
  have ltX0 := X0.lt
  obtain ⟨y0, y1, y2, y3⟩ := blk4 X1
  have ltX1 := X1.lt
  clear HI HP HS
  go_upto_region 23 with (fail)
  go_cut [171] (fun z wx => z = .bool false ∧ Below w.heap.size w wx)
  case first =>
    cases td
    · go_wp2_with fail
      go_meet
      exact ⟨rfl, G⟩
    · obtain ⟨h1, h2⟩ := F2.out rfl
      subst h1 h2
      go_wp2_with fail
      refine (vMap_b M1.inn M0.inn).mono ?_
      rintro e w40 ⟨rfl, hb⟩
      replace G := G.trans (hb.mono G.size)
      go_wp2_with fail
      go_meet
      exact ⟨rfl, G⟩
  case rest =>
  obtain ⟨rfl, G⟩ := hcut
  clear F2 x0 x1 x2 x3 y0 y1 y2 y3 ltX0 ltX1 X0 X1 M0 M1 v1 v2 Lg hts
  go_wp2_with fail
  refine (DrawParseMap_any (hR.on G) HL.out (by omega)).mono ?_
  rintro e w50 ⟨s, hs, rfl, hb⟩
  replace G := G.trans (hb.mono G.size)
  clear hb
  have HP : Hid (∀ (W : World) (t : Tab W) (mx : Mxl W), Calls Tryd.prog 28 #[.string s] W fun e w' => MapEnd W (pmV s) (pmOk s) e w') := (fun W t mx => ParseMap_impl (s := s) (w := W) (by omega) t mx : ∀ (W : World) (t : Tab W) (mx : Mxl W), _)
  have HQ : Hid (∀ (W : World), Calls Tryd.prog 27 #[.string s] W fun e w' => MapEnd W (pmV s) (pmOk s) e w') := (fun W => ParseMap_spec (s := s) (w := W) (by omega) : ∀ (W : World), _)
  have HI : Hid (∀ (W : World) (v : Value) (h : MapIn W (pmV s) v) (t : Tab W), Calls Tryd.prog 52 #[v] W fun e w' => e = .returned (.tuple #[.string (mtV (pmV s)), .bool (mtOk (pmV s))]) ∧ Below W.heap.size W w') := (fun W v h t => MapText_impl h t : ∀ (W : World) (v : Value) (h : MapIn W (pmV s) v) (t : Tab W), _)
  have F3 : Hid (pmOk s = true → mtOk (pmV s) = true ∧ mtV (pmV s) = s) := (fun h => pm_ok h : pmOk s = true → _)
  have Lg := pmV_ln s
  generalize mtOk (pmV s) = sh at *
  generalize mtV (pmV s) = ux at *
  generalize pmV s = g at *
  generalize pmOk s = kn at *
  have v1 : (kn == kn) = true := by simp
  go_wp2_with fail
  refine (HP.out _ (TA.on G) (MX.on G)).mono ?_
  rintro e w51 ⟨A1, B1, c1, d1, rfl, oa, ob, _, hb⟩
  have M1 : MpAt w51 w.heap.size g A1 B1 c1 d1 := ⟨Lg.1, Lg.2, own_le oa G.size, own_le ob G.size⟩
  clear oa ob
  replace G := G.trans (hb.mono G.size)
  clear hb
  have X1 := Blk.new w51 47 [.int .i64 g.wd, .int .i64 g.ht, .slice A1 g.ri.length c1, .slice B1 g.co.length d1]
  replace M1 := M1.alloc (.cells #[.int .i64 g.wd, .int .i64 g.ht, .slice A1 g.ri.length c1, .slice B1 g.co.length d1] 47)
  replace G := G.alloc G.size (.cells #[.int .i64 g.wd, .int .i64 g.ht, .slice A1 g.ri.length c1, .slice B1 g.co.length d1] 47)
  obtain ⟨y0, y1, y2, y3⟩ := blk4 X1
  have ltX1 := X1.lt
  go_wp2_with fail
  refine (HI.out _ _ M1.inn (TA.on G)).mono ?_
  rintro e w52 ⟨rfl, hb⟩
  clear y0 y1 y2 y3 ltX1
  replace X1 := X1.on hb
  replace M1 := M1.on hb
  replace G := G.trans (hb.mono G.size)
  clear hb
  obtain ⟨y0, y1, y2, y3⟩ := blk4 X1
  have ltX1 := X1.lt
  go_wp2_with fail
  refine (HQ.out _).mono ?_
  rintro e w53 ⟨A2, B2, c2, d2, rfl, oa, ob, _, hb⟩
  have M2 : MpAt w53 w.heap.size g A2 B2 c2 d2 := ⟨Lg.1, Lg.2, own_le oa G.size, own_le ob G.size⟩
  clear oa ob
  clear y0 y1 y2 y3 ltX1
  replace X1 := X1.on hb
  replace M1 := M1.on hb
  replace G := G.trans (hb.mono G.size)
  clear hb
  obtain ⟨y0, y1, y2, y3⟩ := blk4 X1
  have ltX1 := X1.lt
  clear y0 y1 y2 y3 ltX1
  have X2 := Blk.new w53 47 [.int .i64 g.wd, .int .i64 g.ht, .slice A2 g.ri.length c2, .slice B2 g.co.length d2]
  replace X1 := X1.alloc (.cells #[.int .i64 g.wd, .int .i64 g.ht, .slice A2 g.ri.length c2, .slice B2 g.co.length d2] 47)
  replace M1 := M1.alloc (.cells #[.int .i64 g.wd, .int .i64 g.ht, .slice A2 g.ri.length c2, .slice B2 g.co.length d2] 47)
  replace M2 := M2.alloc (.cells #[.int .i64 g.wd, .int .i64 g.ht, .slice A2 g.ri.length c2, .slice B2 g.co.length d2] 47)
  replace G := G.alloc G.size (.cells #[.int .i64 g.wd, .int .i64 g.ht, .slice A2 g.ri.length c2, .slice B2 g.co.length d2] 47)
  obtain ⟨y0, y1, y2, y3⟩ := blk4 X1
  have ltX1 := X1.lt
  obtain ⟨x0, x1, x2, x3⟩ := blk4 X2
  have ltX2 := X2.lt
  clear HP HQ HI
  go_wp2_with fail
  refine (vMap_b M1.inn M2.inn).mono ?_
  rintro e w54 ⟨rfl, hb⟩
  clear y0 y1 y2 y3 x0 x1 x2 x3 ltX1 ltX2
  replace X1 := X1.on hb
  replace X2 := X2.on hb
  replace M1 := M1.on hb
  replace M2 := M2.on hb
  replace G := G.trans (hb.mono G.size)
  clear hb
  obtain ⟨y0, y1, y2, y3⟩ := blk4 X1
  have ltX1 := X1.lt
  obtain ⟨x0, x1, x2, x3⟩ := blk4 X2
  have ltX2 := X2.lt
  cases kn
  · go_wp2_with fail
    go_ret
    exact ⟨rfl, G⟩
  · obtain ⟨h1, h2⟩ := F3.out rfl
    subst h1
    have v8 : (ux.toList == s.toList) = true := by rw [h2]; simp
    clear h2
    go_wp2_with fail
    go_ret
    exact ⟨rfl, G⟩
end Go.Proofs.YtmmpcchjalgokaaDoor
