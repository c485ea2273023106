/- Contracts: ParseFeature, the program's. -/
import Derived.Test.YtmmpcchjalgokaaGreatDoorPfp
import Derived.Test.YtmmpcchjalgokaaGreatDoorPint
import Derived.Test.YtmmpcchjalgokaaGreatDoorMxl
import Derived.Test.YtmmpcchjalgokaaGreatDoorTrn
import Derived.Lib.IndexMore
import Derived.Deep.DeepCutAuto
namespace Go.Proofs.YtmmpcchjalgokaaGreatDoor
set_option linter.unusedVariables false
set_option linter.unusedSimpArgs false
open Go.RowKit
theorem Rd.str5 {w : World} {B n : Nat} {A : Option Addr} {l : List ByteArray} (h : Rd w B 1 A n (strs l)) (hn : 0 < n) :
    ∃ b off, A = some ⟨b, off, none⟩ ∧ b < B ∧ ∀ (j : Nat) (hj : j < l.length), w.cell? ⟨b, off + j, none⟩ = some (.string l[j]) := by
  obtain ⟨b, off, e, hb, hc⟩ := h.2 hn
  exact ⟨b, off, e, hb, fun j hj => hc j _ (by simp [strs, hj])⟩
theorem cut_parts (s : ByteArray) : (⟨(Lib.cut s.data.toList sideS.data.toList).1.toArray⟩ : ByteArray) = firB s ∧ (⟨(Lib.cut s.data.toList sideS.data.toList).2.1.toArray⟩ : ByteArray) = sidB s := by
  have hz : s.data.toList.length = s.size := by simp
  unfold Lib.cut firB sidB
  split
  · next h =>
    constructor
    · apply ByteArray.ext
      apply Array.ext'
      simp [List.extract_eq_take_drop, Lib.indexB]
    · apply ByteArray.ext
      apply Array.ext'
      simp only [ByteArray.data_extract, Array.toList_extract, List.extract_eq_take_drop]
      rw [List.take_of_length_le (by rw [List.length_drop, hz]; exact Nat.le_refl _)]
      rfl
  · next h =>
    exact ⟨by apply ByteArray.ext; simp, rfl⟩
theorem fir_size (s : ByteArray) : (firB s).size ≤ s.size ∧ (sidB s).size ≤ s.size := by
  unfold firB sidB
  split
  · simp; omega
  · exact ⟨Nat.le_refl _, Nat.zero_le _⟩
theorem CutS_any (s : ByteArray) (w : World) (hs : s.size ≤ 1048576) (M : Mxl w) :
    Calls Tryz.prog 48 #[.string s, .string sideS] w fun e w' => ∃ b, e = .returned (.tuple #[.string (firB s), .string (sidB s), .bool b]) ∧ Below w.heap.size w w' := by
  obtain ⟨m, hm⟩ := M
  refine (Tryz.strings_Cut s sideS m w (by omega) hm).mono ?_
  rintro e w' ⟨rfl, n, rfl⟩
  rw [(cut_parts s).1, (cut_parts s).2]
  exact ⟨_, rfl, below_drewN (Below.refl _ _) n⟩
theorem cutAt_sz5 (s : ByteArray) (b : UInt8) : ∀ k, ∀ x ∈ (cutAt s b k).1, x.size ≤ s.size
  | 0, x, h => by cases h
  | k + 1, x, h => by
    rw [cutAt] at h
    split at h
    · rcases List.mem_append.1 h with h | h
      · exact cutAt_sz5 s b k x h
      · rw [List.mem_singleton.1 h]; simp; omega
    · exact cutAt_sz5 s b k x h
theorem cuts_sz5 (s : ByteArray) (b : UInt8) : ∀ x ∈ cuts s b, x.size ≤ s.size := by
  intro x h
  rcases List.mem_append.1 h with h | h
  · exact cutAt_sz5 s b _ x h
  · rw [List.mem_singleton.1 h]; simp
theorem getB {l : List ByteArray} {k : Nat} (h : k < l.length) : l.getD k ⟨#[]⟩ = l[k] := by rw [List.getD_eq_getElem?_getD, List.getElem?_eq_getElem h]; rfl
theorem pf_fail {s : ByteArray} (h : ∀ f, okFt f = true → ftB f = s → False) : pfOk s = false ∧ pfV s = ftZ := pf_none h
theorem pf_bad1 {s : ByteArray} (h : rdOk ((wsI s).getD 0 ⟨#[]⟩) = false) : pfOk s = false ∧ pfV s = ftZ := pf_fail fun f h1 h2 => by
  rw [(pf_key h1 h2).num] at h; cases h
theorem pf_bad2 {s : ByteArray} (h : okFt (cfI s) = false) : pfOk s = false ∧ pfV s = ftZ := pf_fail fun f h1 h2 => by
  rw [(pf_key h1 h2).candI, h1] at h; cases h
theorem pf_bad3 {s : ByteArray} (h : decide (ftB (cfI s) = s) = false) : pfOk s = false ∧ pfV s = ftZ := pf_fail fun f h1 h2 => by
  rw [(pf_key h1 h2).candI, decide_eq_false_iff_not] at h
  exact h h2
theorem stI_eq (p : ByteArray × ByteArray) (x : ByteArray) : stI p x = if inB whichL x = true then (x, p.2) else (p.1, x) := rfl
theorem gI_succ (ws : List ByteArray) (k : Nat) : gI ws (k + 1) = stI (gI ws k) (ws.getD (k + 1) ⟨#[]⟩) := rfl
set_option maxRecDepth 100000 in
set_option maxHeartbeats 8000000 in
theorem ParseFeature_impl {s : ByteArray} {w : World} (hs : s.size ≤ 1048576) (T : Tab w) (Y : Syn w) (M : Mxl w) :
    Calls Tryz.prog 10 #[.string s] w fun e w' => e = .returned (.tuple #[.agg #[.int .i64 (pfV s).code, .string (pfV s).which, .string (pfV s).what, .string (pfV s).look, .string (pfV s).side], .bool (pfOk s)]) ∧ Below w.heap.size w w' := by
  have HFS := Lib.hid (fir_size s)
  have HCL := Lib.hid (cuts_len (firB s) 32)
  have HCS := Lib.hid (cuts_sz5 (firB s) 32)
  have Z := Blk.new w 25 [.int .i64 0, .string ByteArray.empty, .string ByteArray.empty, .string ByteArray.empty, .string ByteArray.empty]
  have G : Below w.heap.size w (w.alloc (.cells #[.int .i64 0, .string ByteArray.empty, .string ByteArray.empty, .string ByteArray.empty, .string ByteArray.empty] 25)) := (by repeat (first | exact Below.refl _ _ | refine below_drewN ?_ _ | refine Below.drew ?_ | refine Below.alloc ?_ (by first | omega | (simp; done) | (simp; omega)) _ | refine Below.setCell ?_ (by first | omega | (simp; done) | (simp; omega)) _))
  obtain ⟨ws, hws⟩ : ∃ ws, cuts (firB s) 32 = ws := ⟨_, rfl⟩
  have HWI : Hid (wsI s = ws) := (hws : wsI s = ws)
  rw [hws] at HCL HCS
  obtain ⟨n, hn⟩ : ∃ n, ws.length = n := ⟨_, rfl⟩
  have HN := Lib.hid hn
  have hn1 : 1 ≤ n ∧ n ≤ 1048577 := by have := HCL.out; have := HFS.out; omega
  obtain ⟨x0, hx0⟩ : ∃ x0, ws.getD 0 ⟨#[]⟩ = x0 := ⟨_, rfl⟩
  have HX0 := Lib.hid hx0
  have hx0s : x0.size ≤ 1048576 := by
    rw [← hx0, getB (by omega)]
    have := HCS.out _ (List.getElem_mem (show 0 < ws.length by omega))
    have := HFS.out
    omega
  obtain ⟨xl, hxl⟩ : ∃ xl, ws.getD (n - 1) ⟨#[]⟩ = xl := ⟨_, rfl⟩
  obtain ⟨sd, hsd⟩ : ∃ sd, sidB s = sd := ⟨_, rfl⟩
  have HSD := Lib.hid hsd
  have hw1 : IntKind.i64.wrap ((n : Int) - 1) = ((n - 1 : Nat) : Int) := by rw [IntWalk.i64_in _ (by omega)]; omega
  have hl1 : ((n - 1 : Nat) : Int) < (n : Int) := by omega
  have hl2 : ¬ ((n - 1 : Nat) : Int) < 0 := by omega
  have hff : (firB s).size ≤ 1048576 := by have := HFS.out; omega
  have HC := fun (W : World) (m : Mxl W) => CutS_any s W hs m
  rw [hsd] at HC
  generalize hfir : firB s = fr at *
  have HFR := Lib.hid hfir
  have HCH := Lib.hid HC
  clear HC hfir
  obtain ⟨M0, hM0⟩ : ∃ M0, n - 2 = M0 := ⟨_, rfl⟩
  have HCF : Hid (cfI s = ⟨rdV x0, (gI ws M0).1, xl, (gI ws M0).2, sd⟩) := (by
    unfold cfI
    rw [HWI.out, HN.out, HX0.out, HSD.out, hxl, hM0] : cfI s = _)
  go_enter Tryz.func10, Tryz.ntmps10
  go_wp2_with fail
  refine (HCH.out _ (M.on G)).mono ?_
  rintro e w1 ⟨b9, rfl, hb⟩
  replace Z := Z.on hb
  replace G := G.trans (hb.mono G.size)
  clear hb
  go_wp2_with fail
  refine (Split_any fr 32 _ hff (M.on G)).mono ?_
  rintro e w2 ⟨rfl, B, hb⟩
  rw [hws, hn]
  rw [hws] at B
  have hzl := Z.lt
  replace Z := Z.on hb
  replace G := G.trans (hb.mono G.size)
  generalize hgw : w1.heap.size = gW at *
  have c0 : w2.cell? ⟨gW, 0, none⟩ = some (.string x0) := by rw [B.cell, ← hx0, getB (by omega)]; simp [strs, show 0 < ws.length by omega]
  clear hb hgw hws
  have h0n : 0 < n := by omega
  have h0i : (0 : Int) < (n : Int) := by omega
  go_wp2_with fail
  refine (ParseInt_impl hx0s (T.on G) (Y.on G)).mono ?_
  rintro e w3 ⟨rfl, hb⟩
  replace Z := Z.on hb
  replace B := B.on hb
  replace G := G.trans (hb.mono G.size)
  have cl : w3.cell? ⟨gW, n - 1, none⟩ = some (.string xl) := by rw [B.cell, ← hxl, getB (by omega)]; simp [strs, show n - 1 < ws.length by omega]
  clear hb c0 hx0 hxl
  have HB := Lib.hid (B.alloc (.cells #[.int .i64 (rdV x0), .string ByteArray.empty, .string xl, .string ByteArray.empty, .string sd] 25))
  have HZ := Lib.hid (Z.alloc (.cells #[.int .i64 (rdV x0), .string ByteArray.empty, .string xl, .string ByteArray.empty, .string sd] 25))
  have HG := Lib.hid (G.alloc G.size (.cells #[.int .i64 (rdV x0), .string ByteArray.empty, .string xl, .string ByteArray.empty, .string sd] 25))
  have HXB := Lib.hid (Blk.new w3 25 [.int .i64 (rdV x0), .string ByteArray.empty, .string xl, .string ByteArray.empty, .string sd])
  have hgW := B.lt
  have hZ3 := Z.lt
  clear B Z G
  go_upto_region 5 with (fail)
  clear cl
  go_cut [42, 43, 44] (fun a b c wx => (∃ A9 cp, a = .slice A9 M0 cp ∧ (0 < M0 → A9 = some ⟨gW, 1, none⟩)) ∧ b = .int .i64 (M0 : Int) ∧ c = .int .i64 0 ∧ Blk wx gW 9 (strs ws) ∧ Blk wx w.heap.size 25 [.int .i64 0, .string ByteArray.empty, .string ByteArray.empty, .string ByteArray.empty, .string ByteArray.empty] ∧ Blk wx w3.heap.size 25 [.int .i64 (rdV x0), .string (gI ws 0).1, .string xl, .string (gI ws 0).2, .string sd] ∧ Below w.heap.size w wx)
  case first =>
    rcases (show n = 1 ∨ n = 2 ∨ 2 < n by omega) with h1 | h2 | h3
    · have hM : M0 = 0 := by omega
      subst h1
      have hm1 : max (1 : Int) 2 = 2 := by decide
      go_wp2_with fail
      go_meet
      exact ⟨⟨_, _, by rw [hM], fun h => absurd h (by omega)⟩, by rw [hM]; rfl, rfl, HB.out, HZ.out, HXB.out, HG.out⟩
    · have hM : M0 = 0 := by omega
      subst h2
      have hm1 : max (2 : Int) 2 = 2 := by decide
      go_wp2_with fail
      go_meet
      exact ⟨⟨_, _, by rw [hM], fun h => absurd h (by omega)⟩, by rw [hM]; rfl, rfl, HB.out, HZ.out, HXB.out, HG.out⟩
    · have hm1 : max (n : Int) 2 = (n : Int) := by omega
      have hm2 : ¬ (n : Int) ≤ 2 := by omega
      have hm3 : (2 : Int) < (n : Int) := by omega
      go_wp2_with fail
      go_meet
      exact ⟨⟨_, _, by rw [← hM0]; rfl, fun _ => rfl⟩, by rw [← hM0]; rfl, rfl, HB.out, HZ.out, HXB.out, HG.out⟩
  case rest =>
  obtain ⟨⟨A9, cp9, rfl, hA9⟩, rfl, rfl, B0, Z0, X0, G0⟩ := hcut
  have HB := Lib.hid B0
  have HZ := Lib.hid Z0
  have HXB := Lib.hid X0
  have HG := Lib.hid G0
  clear B0 Z0 X0 G0
  go_wp2_with fail
  go_loopw [44] (fun i wr => ∃ k : Nat, k ≤ M0 ∧ i = .int .i64 k ∧ Blk wr gW 9 (strs ws) ∧ Blk wr w.heap.size 25 [.int .i64 0, .string ByteArray.empty, .string ByteArray.empty, .string ByteArray.empty, .string ByteArray.empty] ∧ Blk wr w3.heap.size 25 [.int .i64 (rdV x0), .string (gI ws k).1, .string xl, .string (gI ws k).2, .string sd] ∧ Below w.heap.size w wr) (fun i _ => M0 - (intOf i).toNat)
  case atStart => exact ⟨0, Nat.zero_le _, rfl, HB.out, HZ.out, HXB.out, HG.out⟩
  clear HB HZ HXB HG
  case round =>
    obtain ⟨k, hk, rfl, B, Z, X, G⟩ := hrel
    by_cases hlt : k < M0
    · have hkl : k + 1 < ws.length := by rw [HN.out]; omega
      have hA8 := hA9 (by omega)
      subst hA8
      have ck : wr.cell? ⟨gW, 1 + k, none⟩ = some (.string ws[k + 1]) := by rw [B.cell, Nat.add_comm 1 k]; simp [strs, hkl]
      have HGS : Hid (gI ws (k + 1) = stI (gI ws k) ws[k + 1]) := (by rw [gI_succ, getB hkl] : gI ws (k + 1) = _)
      generalize ws[k + 1] = x9 at *
      have hxl9 := X.lt
      have fx1 := X.frozen 1
      have fx3 := X.frozen 3
      obtain ⟨p0, p1, p2, p3, p4⟩ := blk5 X
      have hkM : (k : Int) < (M0 : Int) := by omega
      go_wp2_with fail
      refine (isWhich_any x9 _).mono ?_
      rintro e w4 ⟨rfl, rfl⟩
      cases hin : inB whichL x9
      · have HST : Hid (gI ws (k + 1) = ((gI ws k).1, x9)) := (by rw [HGS.out, stI_eq, hin]; rfl : gI ws (k + 1) = _)
        have X2 := Lib.hid (X.set_ 3 (.string x9))
        have B2 := Lib.hid (B.far (p := ⟨w3.heap.size, 3, none⟩) (by show gW ≠ w3.heap.size; omega) (.string x9))
        have Z2 := Lib.hid (Z.far (p := ⟨w3.heap.size, 3, none⟩) (by show w.heap.size ≠ w3.heap.size; omega) (.string x9))
        have G2 := Lib.hid (G.setCell (p := ⟨w3.heap.size, 3, none⟩) (by show w.heap.size ≤ w3.heap.size; omega) (.string x9))
        clear X B Z G hin
        go_wp2_with fail
        go_roundw
        case rel => exact ⟨k + 1, by omega, by go_num, B2.out, Z2.out, (by rw [HST.out]; exact X2.out), G2.out⟩
        case measure => simp [intOf]; omega
      · have HST : Hid (gI ws (k + 1) = (x9, (gI ws k).2)) := (by rw [HGS.out, stI_eq, hin]; rfl : gI ws (k + 1) = _)
        have X2 := Lib.hid (X.set_ 1 (.string x9))
        have B2 := Lib.hid (B.far (p := ⟨w3.heap.size, 1, none⟩) (by show gW ≠ w3.heap.size; omega) (.string x9))
        have Z2 := Lib.hid (Z.far (p := ⟨w3.heap.size, 1, none⟩) (by show w.heap.size ≠ w3.heap.size; omega) (.string x9))
        have G2 := Lib.hid (G.setCell (p := ⟨w3.heap.size, 1, none⟩) (by show w.heap.size ≤ w3.heap.size; omega) (.string x9))
        clear X B Z G hin
        go_wp2_with fail
        go_roundw
        case rel => exact ⟨k + 1, by omega, by go_num, B2.out, Z2.out, (by rw [HST.out]; exact X2.out), G2.out⟩
        case measure => simp [intOf]; omega
    · obtain rfl : k = M0 := by omega
      have hkn : ¬ (k : Int) < (k : Int) := by omega
      clear B
      cases hrd : rdOk x0
      · have HP := Lib.hid (pf_bad1 (s := s) (by rw [HWI.out, HX0.out]; exact hrd))
        obtain ⟨z0, z1, z2, z3, z4⟩ := blk5 Z
        have f0 := Z.frozen 0
        have f1 := Z.frozen 1
        have f2 := Z.frozen 2
        have f3 := Z.frozen 3
        have f4 := Z.frozen 4
        have Z2 := Z.put5 ftZ
        obtain ⟨q0, q1, q2, q3, q4⟩ := blk5 (show Blk _ _ _ (Ft.cells ftZ) from Z2)
        have GP := below_put5 G (Nat.le_refl w.heap.size) ftZ
        clear Z2
        simp only [ftZ] at q0 q1 q2 q3 q4 GP
        go_wp2_with fail
        refine bodyPost_ret (v := .tuple #[.agg #[.int .i64 0, .string ⟨#[]⟩, .string ⟨#[]⟩, .string ⟨#[]⟩, .string ⟨#[]⟩], .bool false]) (by simp [results, Tryz.results10, go_sem, q0, q1, q2, q3, q4]) rfl ⟨by rw [HP.out.1, HP.out.2] <;> rfl, GP⟩
      · obtain ⟨f, hf⟩ : ∃ f, cfI s = f := ⟨_, rfl⟩
        have HF := Lib.hid hf
        have X2 : Blk wr w3.heap.size 25 f.cells := by rw [← hf, HCF.out]; exact X
        have q1 := neb_test (ftB f) s
        have q2 := eqb_test (ftB f) s
        clear X hf
        obtain ⟨p0, p1, p2, p3, p4⟩ := blk5 X2
        cases hok : okFt f
        · have HP := Lib.hid (pf_bad2 (s := s) (by rw [HF.out]; exact hok))
          go_wp2_with fail
          refine (IsFeature_impl f _).mono ?_
          rintro e w5 ⟨rfl, hb⟩
          rw [hok]
          replace Z := Z.on hb
          replace G := G.trans (hb.mono G.size)
          clear hb p0 p1 p2 p3 p4 X2
          obtain ⟨z0, z1, z2, z3, z4⟩ := blk5 Z
          have f0 := Z.frozen 0
          have f1 := Z.frozen 1
          have f2 := Z.frozen 2
          have f3 := Z.frozen 3
          have f4 := Z.frozen 4
          have Z2 := Z.put5 ftZ
          obtain ⟨q0, q1, q2, q3, q4⟩ := blk5 (show Blk _ _ _ (Ft.cells ftZ) from Z2)
          have GP := below_put5 G (Nat.le_refl w.heap.size) ftZ
          clear Z2
          simp only [ftZ] at q0 q1 q2 q3 q4 GP
          go_wp2_with fail
          refine bodyPost_ret (v := .tuple #[.agg #[.int .i64 0, .string ⟨#[]⟩, .string ⟨#[]⟩, .string ⟨#[]⟩, .string ⟨#[]⟩], .bool false]) (by simp [results, Tryz.results10, go_sem, q0, q1, q2, q3, q4]) rfl ⟨by rw [HP.out.1, HP.out.2] <;> rfl, GP⟩
        · cases hz : decide (ftB f = s)
          · have HP := Lib.hid (pf_bad3 (s := s) (by rw [HF.out]; exact hz))
            rw [hz] at q1 q2
            rw [Bool.not_false] at q1
            go_wp2_with fail
            refine (IsFeature_impl f _).mono ?_
            rintro e w5 ⟨rfl, hb⟩
            rw [hok]
            replace Z := Z.on hb
            replace X2 := X2.on hb
            replace G := G.trans (hb.mono G.size)
            clear hb p0 p1 p2 p3 p4
            obtain ⟨p0, p1, p2, p3, p4⟩ := blk5 X2
            go_wp2_with fail
            refine (featureText_any hok (T.on G)).mono ?_
            rintro e w6 ⟨rfl, hb⟩
            replace Z := Z.on hb
            replace G := G.trans (hb.mono G.size)
            clear hb p0 p1 p2 p3 p4 X2
            obtain ⟨z0, z1, z2, z3, z4⟩ := blk5 Z
            have f0 := Z.frozen 0
            have f1 := Z.frozen 1
            have f2 := Z.frozen 2
            have f3 := Z.frozen 3
            have f4 := Z.frozen 4
            have Z2 := Z.put5 ftZ
            obtain ⟨q0, q1, q2, q3, q4⟩ := blk5 (show Blk _ _ _ (Ft.cells ftZ) from Z2)
            have GP := below_put5 G (Nat.le_refl w.heap.size) ftZ
            clear Z2
            simp only [ftZ] at q0 q1 q2 q3 q4 GP
            go_wp2_with fail
            refine bodyPost_ret (v := .tuple #[.agg #[.int .i64 0, .string ⟨#[]⟩, .string ⟨#[]⟩, .string ⟨#[]⟩, .string ⟨#[]⟩], .bool false]) (by simp [results, Tryz.results10, go_sem, q0, q1, q2, q3, q4]) rfl ⟨by rw [HP.out.1, HP.out.2] <;> rfl, GP⟩
          · have HP := Lib.hid (pf_some hok (of_decide_eq_true hz))
            rw [hz] at q1 q2
            rw [Bool.not_true] at q1
            go_wp2_with fail
            refine (IsFeature_impl f _).mono ?_
            rintro e w5 ⟨rfl, hb⟩
            rw [hok]
            replace Z := Z.on hb
            replace X2 := X2.on hb
            replace G := G.trans (hb.mono G.size)
            clear hb p0 p1 p2 p3 p4
            obtain ⟨p0, p1, p2, p3, p4⟩ := blk5 X2
            go_wp2_with fail
            refine (featureText_any hok (T.on G)).mono ?_
            rintro e w6 ⟨rfl, hb⟩
            replace Z := Z.on hb
            replace X2 := X2.on hb
            replace G := G.trans (hb.mono G.size)
            clear hb p0 p1 p2 p3 p4
            go_upto_region 14 with (fail)
            obtain ⟨p0, p1, p2, p3, p4⟩ := blk5 X2
            obtain ⟨z0, z1, z2, z3, z4⟩ := blk5 Z
            have f0 := Z.frozen 0
            have f1 := Z.frozen 1
            have f2 := Z.frozen 2
            have f3 := Z.frozen 3
            have f4 := Z.frozen 4
            have Z2 := Z.put5 f
            obtain ⟨q0, q1, q2, q3, q4⟩ := blk5 (show Blk _ _ _ (Ft.cells f) from Z2)
            have GP := below_put5 G (Nat.le_refl w.heap.size) f
            clear Z2
            go_wp2_with fail
            refine bodyPost_ret (v := .tuple #[.agg #[.int .i64 f.code, .string f.which, .string f.what, .string f.look, .string f.side], .bool true]) (by simp [results, Tryz.results10, go_sem, q0, q1, q2, q3, q4]) rfl ⟨by rw [HP.out.1, HP.out.2] <;> rfl, GP⟩
end Go.Proofs.YtmmpcchjalgokaaGreatDoor
