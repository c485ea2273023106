/- Contracts: MapText, the program's and the reference's. -/
import Derived.Test.YtmmpcchjalgokaaDoorMtp
import Derived.Test.YtmmpcchjalgokaaDoorStrs
import Derived.Test.YtmmpcchjalgokaaDoorApp
import Derived.Test.YtmmpcchjalgokaaDoorRg2
import Derived.Test.YtmmpcchjalgokaaDoorOpenMap
import Derived.Deep.DeepCutAuto
namespace Go.Proofs.YtmmpcchjalgokaaDoor
set_option linter.unusedVariables false
set_option linter.unusedSimpArgs false
open Go.RowKit
set_option maxRecDepth 100000 in
set_option maxHeartbeats 4000000 in
theorem MapText_impl {m : Mp} {v : Value} {w : World} (hv : MapIn w m v) (T : Tab w) :
    Calls Tryd.prog 52 #[v] w fun e w' => e = .returned (.tuple #[.string (mtV m), .bool (mtOk m)]) ∧ Below w.heap.size w w' := by
  have HM : ∀ W : World, Below w.heap.size w W → _ := fun W hb => IsMap_m (hv.on hb)
  obtain ⟨A, n, cp, B, k, d, rfl, h1, h2, h3, h4⟩ := hv
  cases ok : okM m
  · rw [ok] at HM
    have e1 := mt_inv ok
    rw [mt_no e1, e1]
    clear e1 ok
    have K0 := Blk.new w 47 [.int .i64 m.wd, .int .i64 m.ht, .slice A n cp, .slice B k d]
    have G0 : Below w.heap.size w (w.alloc (.cells #[.int .i64 m.wd, .int .i64 m.ht, .slice A n cp, .slice B k d] 47)) := (by repeat (first | exact Below.refl _ _ | refine below_drewN ?_ _ | refine Below.drew ?_ | refine Below.alloc ?_ (by first | omega | (simp; done) | (simp; omega)) _ | refine Below.setCell ?_ (by first | omega | (simp; done) | (simp; omega)) _))
    obtain ⟨k0, k1, k2, k3⟩ := blk4 K0
    go_enter Tryd.func52, Tryd.ntmps52
    go_wp2_with fail
    refine (HM _ G0).mono ?_
    rintro e w1 ⟨rfl, hb⟩
    go_wp2_with fail
    go_ret2
    exact ⟨rfl, G0.trans (hb.mono G0.size)⟩
  · rw [ok] at HM
    have V := valid_iff.1 ok
    obtain ⟨hl, w1', w6', hh1, h6', hwd, hht⟩ := cells_len V
    have hkl := h2.len
    have hnl := h1.len
    have hlc := V.lc
    have h36 : cH m * cW m ≤ 6 * 6 := Nat.mul_le_mul h6' w6'
    have hpos : 1 * 1 ≤ cH m * cW m := Nat.mul_le_mul hh1 w1'
    obtain ⟨r, orr, rfl, hrb, hrc⟩ := h1.int (show 0 < n by omega)
    obtain ⟨s, os, rfl, hsb, hsc⟩ := h2.int (show 0 < k by omega)
    obtain ⟨i0, hi0, hz0, hz1, hz2⟩ := info_parts string_info
    have VH := Lib.hid V
    have OK := Lib.hid ok
    have HL := Lib.hid hl
    have HWD := Lib.hid hwd
    have HHT := Lib.hid hht
    have HRC := Lib.hid hrc
    have HSC := Lib.hid hsc
    have HKL := Lib.hid hkl
    have HNL := Lib.hid hnl
    have HLC := Lib.hid hlc
    obtain ⟨W, hW⟩ : ∃ W, W = cW m := ⟨_, rfl⟩
    obtain ⟨H, hH⟩ : ∃ H, H = cH m := ⟨_, rfl⟩
    rw [← hW, ← hH] at HL h36
    rw [← hW] at HWD w1' w6'
    rw [← hH] at HHT h6'
    have HW := Lib.hid hW
    clear hl hwd hht hkl hnl hlc hrc hsc V ok hW hH hh1 hpos
    have K0 := Blk.new w 47 [.int .i64 m.wd, .int .i64 m.ht, .slice (some ⟨r, orr, none⟩) n cp, .slice (some ⟨s, os, none⟩) k d]
    have G0 : Below w.heap.size w (w.alloc (.cells #[.int .i64 m.wd, .int .i64 m.ht, .slice (some ⟨r, orr, none⟩) n cp, .slice (some ⟨s, os, none⟩) k d] 47)) := (by repeat (first | exact Below.refl _ _ | refine below_drewN ?_ _ | refine Below.drew ?_ | refine Below.alloc ?_ (by first | omega | (simp; done) | (simp; omega)) _ | refine Below.setCell ?_ (by first | omega | (simp; done) | (simp; omega)) _))
    obtain ⟨k0, k1, k2, k3⟩ := blk4 K0
    go_enter Tryd.func52, Tryd.ntmps52
    go_wp2_with fail
    refine (HM _ G0).mono ?_
    rintro e w1 ⟨rfl, hb⟩
    have G := G0.trans (hb.mono G0.size)
    have K := K0.on hb
    clear hb k0 k1 k2 k3 K0 G0
    obtain ⟨k0, k1, k2, k3⟩ := blk4 K
    go_wp2_with fail
    go_loopw [4, 15] (fun t i wr => ∃ y : Nat, y ≤ H ∧ i = .int .i64 y ∧ t = .string (rT m y) ∧ Hid (∀ c, c < y * W → badC m c = false) ∧ Blk wr w.heap.size 47 [.int .i64 m.wd, .int .i64 m.ht, .slice (some ⟨r, orr, none⟩) n cp, .slice (some ⟨s, os, none⟩) k d] ∧ Below w.heap.size w wr) (fun _ i _ => H - (intOf i).toNat)
    case atStart => exact ⟨0, Nat.zero_le _, rfl, rfl, (show ∀ c, c < 0 * W → badC m c = false from fun c h => absurd h (by omega)), K, G⟩
    clear K G k0 k1 k2 k3
    case round =>
      obtain ⟨y, hy, rfl, rfl, HN, K, G⟩ := hrel
      obtain ⟨k0, k1, k2, k3⟩ := blk4 K
      by_cases hlt : (y : Int) < m.ht
      · have hyh : y < H := by have := HHT.out; omega
        have hKl := K.lt
        have O0 := World.ownsRow_lit (base := w.heap.size + 1) (e := 9) (size := 1) wr #[] 0 (by omega) (by decide) rfl
        have K1 := K.alloc (.cells #[] 9)
        have G1 := G.alloc G.size (.cells #[] 9)
        have hR9 := l2T_size VH.out ((y + 1) * W)
        have hy1 : (y + 1) * W ≤ H * W := Nat.mul_le_mul_right _ (by omega)
        have HFL : Hid (rT m (y + 1) = rT m y ++ (joinS (rowW m y W) ++ (⟨#[10]⟩ : ByteArray))) := (by rw [HW.out]; rfl : rT m (y + 1) = _)
        have HRS : Hid ((rT m (y + 1)).size ≤ 2000) := (by rw [rT_eq (by rw [← HW.out]; omega), ← HW.out]; omega : (rT m (y + 1)).size ≤ 2000)
        go_wp2_with fail
        go_loopw [6, 21] (fun wd i wr => ∃ (x : Nat) (A : Option Addr) (c : Nat), x ≤ W ∧ i = .int .i64 x ∧ wd = .slice A x c ∧ wr.ownsRow (w.heap.size + 1) 9 1 (.slice A x c) x (strs (rowW m y x)) ∧ Hid (∀ c, c < y * W + x → badC m c = false) ∧ Blk wr w.heap.size 47 [.int .i64 m.wd, .int .i64 m.ht, .slice (some ⟨r, orr, none⟩) n cp, .slice (some ⟨s, os, none⟩) k d] ∧ Below w.heap.size w wr) (fun _ i _ => W - (intOf i).toNat)
        case atStart => exact ⟨0, _, 0, Nat.zero_le _, rfl, rfl, O0, (show ∀ c, c < y * W + 0 → badC m c = false from fun c h => HN.out c (by omega)), K1, G1⟩
        clear HN K G O0 K1 G1 k0 k1 k2 k3 hKl hR9
        case round =>
          obtain ⟨x, A, c, hx, rfl, rfl, O, HN, K, G⟩ := hrel
          obtain ⟨k0, k1, k2, k3⟩ := blk4 K
          by_cases hxl : (x : Int) < m.wd
          · have hxw : x < W := by have := HWD.out; omega
            have hp36 : y * W + x < H * W := by
              have h9 : (y + 1) * W ≤ H * W := hy1
              rw [Nat.succ_mul] at h9; omega
            obtain ⟨p, hp⟩ : ∃ p, p = y * W := ⟨_, rfl⟩
            rw [← hp] at hp36
            have HN3 : Hid (∀ c, c < p + x → badC m c = false) := by rw [hp]; exact HN
            obtain ⟨ix, hix⟩ : ∃ ix, ix = p + x := ⟨_, rfl⟩
            have hmul : IntKind.i64.wrap ((y : Int) * m.wd) = (p : Int) := by rw [HWD.out, ← Int.natCast_mul, ← hp]; exact IntWalk.i64_in _ (by omega)
            have hadd : IntKind.i64.wrap ((p : Int) + (x : Int)) = (ix : Int) := by rw [hix, Int.natCast_add]; exact IntWalk.i64_in _ (by omega)
            have hixl : ix < m.co.length := by have := HL.out; omega
            have hixr : ix < m.ri.length := by have := HLC.out; omega
            have hixk : ix < k := by have := HKL.out; omega
            have hixn : ix < n := by have := HNL.out; omega
            have h2w : wr.cell? ⟨s, os + ix, none⟩ = some (.int .i64 (coA m ix)) := by
              rw [(bcell G).1 s _ hsb, HSC.out ix hixl]; unfold coA; rw [List.getD_eq_getElem?_getD, List.getElem?_eq_getElem hixl]; rfl
            have h1w : wr.cell? ⟨r, orr + ix, none⟩ = some (.int .i64 (riA m ix)) := by
              rw [(bcell G).1 r _ hrb, HRC.out ix hixr]; unfold riA; rw [List.getD_eq_getElem?_getD, List.getElem?_eq_getElem hixr]; rfl
            obtain ⟨c0, c9, r0, r9⟩ := coA_bd VH.out ix
            have HRW : Hid (rowW m y (x + 1) = rowW m y x ++ [wrd m ix]) := (by rw [rowW_succ, ← HW.out, ← hp, ← hix] : rowW m y (x + 1) = _)
            have HWR : Hid (wrd m ix = if 0 < coA m ix then itoaB (coA m ix) ++ itoaB (riA m ix) else ⟨#[35, 35]⟩) := (rfl : wrd m ix = _)
            have HBA : Hid (badC m ix = (!decide (0 < coA m ix) && !decide (riA m ix = 0))) := (rfl : badC m ix = _)
            have HNX : Hid (badC m ix = false → ∀ c, c < y * W + (x + 1) → badC m c = false) := (fun h c hc => by
              rw [← hp] at hc
              rcases Nat.lt_or_eq_of_le (show c ≤ p + x by omega) with h1 | h1
              · exact HN3.out c h1
              · rw [h1, ← hix]; exact h : badC m ix = false → _)
            have HBD : Hid (badC m ix = true → mtOk m = false) := (fun h => mt_bad hixl h : badC m ix = true → _)
            generalize hwd : wrd m ix = wd at *
            generalize badC m ix = bd at *
            generalize coA m ix = cv at *
            generalize riA m ix = rv at *
            have TA : ∀ q, Tab (wr.drewN q) := fun q => T.on (below_drewN G q)
            have OA : ∀ q, (wr.drewN q).ownsRow (w.heap.size + 1) 9 1 (.slice A x c) x (strs (rowW m y x)) := fun q => own_below O (below_drewN (Below.refl _ _) q)
            have KA : ∀ q, Blk (wr.drewN q) w.heap.size 47 [.int .i64 m.wd, .int .i64 m.ht, .slice (some ⟨r, orr, none⟩) n cp, .slice (some ⟨s, os, none⟩) k d] := fun q => K
            have GA : ∀ q, Below w.heap.size w (wr.drewN q) := fun q => below_drewN G q
            clear HN HN3 hp36 hwd
            have HP := Lib.hid hp
            have HIX := Lib.hid hix
            clear hp hix
            by_cases hcv : 0 < cv
            · have HWX : Hid (wd = itoaB cv ++ itoaB rv) := (by rw [HWR.out, if_pos hcv] : wd = _)
              have HBF : Hid (bd = false) := (by rw [HBA.out]; simp [hcv] : bd = false)
              have z1 := itoaB_size (n := cv) (by omega) (by omega)
              have z2 := itoaB_size (n := rv) (by omega) (by omega)
              have hsz : ¬ 9223372036854775807 < (itoaB cv).size + (itoaB rv).size := by omega
              clear HWR HBA HBD
              go_wp2_with fail
              go_quiet (fail)
              go_wp2_with fail
              refine (Itoa_any (by omega) (by omega) (TA _)).mono ?_
              rintro e w3 ⟨rfl, hb3⟩
              have O3 := own_below (OA _) hb3
              have K3 := (KA _).on hb3
              have G3 := (GA _).trans (hb3.mono (GA _).size)
              have T3 := (TA _).on hb3
              clear OA KA GA TA O K G k0 k1 k2 k3 hb3
              go_wp2_with fail
              refine (Itoa_any (by omega) (by omega) T3).mono ?_
              rintro e w4 ⟨rfl, hb4⟩
              have O4 := own_below O3 hb4
              have K4 := K3.on hb4
              have G4 := G3.trans (hb4.mono G3.size)
              clear O3 K3 G3 hb4 T3
              have HVV := Lib.hid ((Blk.new w4 9 (strs [itoaB cv ++ itoaB rv])).rd (size := 1) (n := 1) rfl)
              have OW := O4.alloc (.cells #[.string (itoaB cv ++ itoaB rv)] 9)
              go_wp2_with (at_builtin; refine wpList_append_rd rfl _ _ 40 rfl (w.heap.size + 1) 9 i0 (.string ByteArray.empty) 1 16 Tryd.underlying40 hi0 hz0 hz1 hz2 rfl (by decide) _ _ _ rfl OW _ _ _ _ _ rfl HVV.out (strs_one _) ?c1 ?d1 ?e1 ?_)
              case c1 => simp only [maxLen]; omega
              case d1 => omega
              case e1 => simp; have := G4.size; have := K4.lt; omega
              intro A7 c7 w7 h7 own7 grow7 at7
              have K7 := (K4.alloc (.cells #[.string (itoaB cv ++ itoaB rv)] 9)).grown grow7 (fun h => by have := (OW.lt _ h.symm).1; omega)
              have G7 := (G4.alloc G4.size (.cells #[.string (itoaB cv ++ itoaB rv)] 9)).grown grow7 (by have := G4.size; have := K4.lt; simp; omega) (fun j hj => by have := (OW.lt j hj).1; omega)
              have O7 : w7.ownsRow (w.heap.size + 1) 9 1 (.slice A7 (x + 1) c7) (x + 1) (strs (rowW m y (x + 1))) := by
                have e7 : strs (rowW m y x) ++ strs [itoaB cv ++ itoaB rv] = strs (rowW m y (x + 1)) := by rw [HRW.out, HWX.out]; simp [strs]
                rw [← e7]
                exact own7
              clear own7 grow7 at7 OW O4 K4 G4
              go_wp2_with fail
              go_roundw
              case rel => exact ⟨x + 1, A7, c7, by omega, by go_num, rfl, O7, HNX.out HBF.out, K7, G7⟩
              case measure => simp [intOf]; omega
            · have hcv0 : cv = 0 := by omega
              subst hcv0
              by_cases hrv : rv = 0
              · subst hrv
                have HWX : Hid (wd = (⟨#[35, 35]⟩ : ByteArray)) := (by rw [HWR.out, if_neg (by omega)] : wd = _)
                have HBF : Hid (bd = false) := (by rw [HBA.out]; rfl : bd = false)
                clear HWR HBA HBD TA
                go_wp2_with fail
                go_quiet (fail)
                generalize hwq : wr.drewN _ = wq at *
                have Oq : wq.ownsRow (w.heap.size + 1) 9 1 (.slice A x c) x (strs (rowW m y x)) := by rw [← hwq]; exact OA _
                have Kq : Blk wq w.heap.size 47 [.int .i64 m.wd, .int .i64 m.ht, .slice (some ⟨r, orr, none⟩) n cp, .slice (some ⟨s, os, none⟩) k d] := by rw [← hwq]; exact KA 0
                have Gq : Below w.heap.size w wq := by rw [← hwq]; exact GA _
                clear hwq OA KA GA O K G k0 k1 k2 k3
                have HVV := Lib.hid ((Blk.new wq 9 (strs [(⟨#[35, 35]⟩ : ByteArray)])).rd (size := 1) (n := 1) rfl)
                have OW := Oq.alloc (.cells #[.string ((⟨#[35, 35]⟩ : ByteArray))] 9)
                go_wp2_with (at_builtin; refine wpList_append_rd rfl _ _ 40 rfl (w.heap.size + 1) 9 i0 (.string ByteArray.empty) 1 16 Tryd.underlying40 hi0 hz0 hz1 hz2 rfl (by decide) _ _ _ rfl OW _ _ _ _ _ rfl HVV.out (strs_one _) ?c2 ?d2 ?e2 ?_)
                case c2 => simp only [maxLen]; omega
                case d2 => omega
                case e2 => simp; have := Gq.size; have := Kq.lt; omega
                intro A7 c7 w7 h7 own7 grow7 at7
                have K7 := (Kq.alloc (.cells #[.string ((⟨#[35, 35]⟩ : ByteArray))] 9)).grown grow7 (fun h => by have := (OW.lt _ h.symm).1; omega)
                have G7 := (Gq.alloc Gq.size (.cells #[.string ((⟨#[35, 35]⟩ : ByteArray))] 9)).grown grow7 (by have := Gq.size; have := Kq.lt; simp; omega) (fun j hj => by have := (OW.lt j hj).1; omega)
                have O7 : w7.ownsRow (w.heap.size + 1) 9 1 (.slice A7 (x + 1) c7) (x + 1) (strs (rowW m y (x + 1))) := by
                  have e7 : strs (rowW m y x) ++ strs [(⟨#[35, 35]⟩ : ByteArray)] = strs (rowW m y (x + 1)) := by rw [HRW.out, HWX.out]; simp [strs]
                  rw [← e7]
                  exact own7
                clear own7 grow7 at7 OW Oq Kq Gq
                go_wp2_with fail
                go_roundw
                case rel => exact ⟨x + 1, A7, c7, by omega, by go_num, rfl, O7, HNX.out HBF.out, K7, G7⟩
                case measure => simp [intOf]; omega
              · have HBF : Hid (mtOk m = false) := HBD.out (by rw [HBA.out]; simp [hrv])
                have HE : Hid (mtV m = ⟨#[]⟩) := mt_no HBF.out
                have hrb0 : (rv == 0) = false := by simp [hrv]
                go_wp2_with fail
                go_quiet (fail)
                go_wp2_with fail
                go_ret2
                exact ⟨by rw [HBF.out, HE.out]; rfl, GA _⟩
          · have hxe : x = W := by have := HWD.out; omega
            subst hxe
            have HN2 : Hid (∀ c, c < (y + 1) * x → badC m c = false) := (fun c hc => HN.out c (by rw [Nat.succ_mul] at hc; omega) : ∀ c, c < (y + 1) * x → badC m c = false)
            have hxd : (decide ((x : Int) < m.wd)) = false := by simpa using hxl
            generalize hJJ : joinS (rowW m y x) = JJ at *
            obtain ⟨bl, off, rfl, hbl, hca⟩ := (Rd.of_own O).2 (by omega)
            have hfs : (rT m y).size + (JJ.size + 1) ≤ 2000 := by
              have h9 := HRS.out
              rw [HFL.out, ByteArray.size_append, ByteArray.size_append] at h9
              exact h9
            have HJO : Calls Tryd.prog 108 #[.slice (some ⟨bl, off, none⟩) x c, .string ⟨#[32]⟩] wr fun e w' => e = .returned (.string JJ) ∧ Below wr.heap.size wr w' := by
              have h9 := Tryd.strings_Join bl off c (rowW m y x) ⟨#[32]⟩ wr (fun j u hu => by
                have := hca j (.string u) (by simp [strs, hu])
                exact this) hbl (by rw [rowW_len]; omega) (by rw [rowW_len]; have := own_cap O; omega) (by
                have h8 : (joinS (rowW m y x)).size = (Lib.join ((rowW m y x).map (·.data.toList)) [32]).length := by
                  unfold joinS; show (List.toArray _).size = _; simp
                show (Lib.join ((rowW m y x).map (·.data.toList)) [32]).length ≤ _
                rw [← h8, hJJ]; omega)
              rw [rowW_len] at h9
              have h7 : (⟨(Lib.join ((rowW m y x).map (·.data.toList)) (⟨#[32]⟩ : ByteArray).data.toList).toArray⟩ : ByteArray) = JJ := hJJ
              rw [h7] at h9
              exact h9
            have hs1 : ¬ 9223372036854775807 < JJ.size + 1 := by omega
            have hs2 : ¬ 9223372036854775807 < (rT m y).size + (JJ.size + 1) := by omega
            clear hca hJJ O HN
            go_wp2_with fail
            refine HJO.mono ?_
            rintro e w8 ⟨rfl, hb8⟩
            have K8 := K.on hb8
            have G8 := G.trans (hb8.mono G.size)
            clear hb8 HJO K G k0 k1 k2 k3
            go_wp2_with fail
            go_roundw
            case rel => exact ⟨y + 1, by omega, by go_num, by rw [HFL.out], HN2, K8, G8⟩
            case measure => simp [intOf]; omega
      · have hye : y = H := by have := HHT.out; omega
        subst hye
        have hyd : (decide ((y : Int) < m.ht)) = false := by simpa using hlt
        have hT : mtOk m = true := mt_yes OK.out (fun c hc => HN.out c (by rw [← HL.out]; exact hc))
        have HE : Hid (mtOk m = true ∧ mtV m = rT m y) := ⟨hT, by rw [mt_v hT, rT_eq (by rw [← HW.out]; omega), HL.out, ← HW.out]⟩
        clear hT HN
        go_wp2_with fail
        go_ret2
        exact ⟨by rw [HE.out.1, HE.out.2]; rfl, G⟩
set_option maxRecDepth 100000 in
set_option maxHeartbeats 8000000 in
theorem l2Text_any {m : Mp} {v : Value} {w : World} (hv : MapIn w m v) (ok : okM m = true) :
    Calls Tryd.prog 84 #[v] w fun e w' => e = .returned (.tuple #[.string (mtV m), .bool (mtOk m)]) ∧ Below w.heap.size w w' := by
  obtain ⟨A, n, cp, B, k, d, rfl, h1, h2, h3, h4⟩ := hv
  have V := valid_iff.1 ok
  obtain ⟨hl, w1', w6', hh1, h6', hwd, hht⟩ := cells_len V
  have hkl := h2.len
  have hnl := h1.len
  have hlc := V.lc
  have h36 : cH m * cW m ≤ 6 * 6 := Nat.mul_le_mul h6' w6'
  have hpos : 1 * 1 ≤ cH m * cW m := Nat.mul_le_mul hh1 w1'
  obtain ⟨r, orr, rfl, hrb, hrc⟩ := h1.int (show 0 < n by omega)
  obtain ⟨s, os, rfl, hsb, hsc⟩ := h2.int (show 0 < k by omega)
  have hk36 : k ≤ 36 := by omega
  have VH := Lib.hid V
  have OK := Lib.hid ok
  have HWD := Lib.hid hwd
  have HRC := Lib.hid hrc
  have HSC := Lib.hid hsc
  have HKL := Lib.hid hkl
  have HNL := Lib.hid hnl
  have HLC := Lib.hid hlc
  obtain ⟨W, hW⟩ : ∃ W, W = cW m := ⟨_, rfl⟩
  rw [← hW] at HWD w1' w6'
  have HW := Lib.hid hW
  clear hl hwd hht hkl hnl hlc hrc hsc V ok hW hh1 hpos h6' h36
  have K0 := Blk.new w 47 [.int .i64 m.wd, .int .i64 m.ht, .slice (some ⟨r, orr, none⟩) n cp, .slice (some ⟨s, os, none⟩) k d]
  have G0 : Below w.heap.size w (w.alloc (.cells #[.int .i64 m.wd, .int .i64 m.ht, .slice (some ⟨r, orr, none⟩) n cp, .slice (some ⟨s, os, none⟩) k d] 47)) := (by repeat (first | exact Below.refl _ _ | refine below_drewN ?_ _ | refine Below.drew ?_ | refine Below.alloc ?_ (by first | omega | (simp; done) | (simp; omega)) _ | refine Below.setCell ?_ (by first | omega | (simp; done) | (simp; omega)) _))
  obtain ⟨k0, k1, k2, k3⟩ := blk4 K0
  go_enter Tryd.func84, Tryd.ntmps84
  go_wp2_with fail
  go_loopw [4, 5] (fun t i wr => ∃ c : Nat, c ≤ k ∧ i = .int .i64 c ∧ t = .string (l2T m c) ∧ Hid (∀ j, j < c → badC m j = false) ∧ Blk wr w.heap.size 47 [.int .i64 m.wd, .int .i64 m.ht, .slice (some ⟨r, orr, none⟩) n cp, .slice (some ⟨s, os, none⟩) k d] ∧ Below w.heap.size w wr) (fun _ i _ => k - (intOf i).toNat)
  case atStart => exact ⟨0, Nat.zero_le _, rfl, rfl, (show ∀ j, j < 0 → badC m j = false from fun j h => absurd h (by omega)), K0, G0⟩
  clear K0 G0 k0 k1 k2 k3
  case round =>
    obtain ⟨c, hc, rfl, rfl, HN, K, G⟩ := hrel
    obtain ⟨k0, k1, k2, k3⟩ := blk4 K
    by_cases hlt : c < k
    · have hixl : c < m.co.length := by have := HKL.out; omega
      have hixr : c < m.ri.length := by have := HLC.out; omega
      have hcn : c < n := by have := HNL.out; omega
      have h2w : wr.cell? ⟨s, os + c, none⟩ = some (.int .i64 (coA m c)) := by
        rw [(bcell G).1 s _ hsb, HSC.out c hixl]; unfold coA; rw [List.getD_eq_getElem?_getD, List.getElem?_eq_getElem hixl]; rfl
      have h1w : wr.cell? ⟨r, orr + c, none⟩ = some (.int .i64 (riA m c)) := by
        rw [(bcell G).1 r _ hrb, HRC.out c hixr]; unfold riA; rw [List.getD_eq_getElem?_getD, List.getElem?_eq_getElem hixr]; rfl
      obtain ⟨c0, c9, r0, r9⟩ := coA_bd VH.out c
      obtain ⟨md, hmd⟩ : ∃ md, md = c % W := ⟨_, rfl⟩
      have hmW : md < W := by rw [hmd]; exact Nat.mod_lt _ (by omega)
      have htm : (c : Int).tmod m.wd = (md : Int) := by rw [HWD.out, Int.tmod_eq_emod_of_nonneg (by omega), hmd]; rfl
      have hw0 : ¬ m.wd = 0 := by rw [HWD.out]; omega
      have hw1 : IntKind.i64.wrap (m.wd - 1) = ((W - 1 : Nat) : Int) := by rw [HWD.out, show (W : Int) - 1 = ((W - 1 : Nat) : Int) by omega]; exact IntWalk.i64_in _ (by omega)
      have HLT : Hid (l2T m (c + 1) = if md = W - 1 then (if 0 < md then l2T m c ++ (⟨#[32]⟩ : ByteArray) else l2T m c) ++ wrd m c ++ (⟨#[10]⟩ : ByteArray) else (if 0 < md then l2T m c ++ (⟨#[32]⟩ : ByteArray) else l2T m c) ++ wrd m c) := (by rw [l2T, hmd, HW.out] : l2T m (c + 1) = _)
      have HWR : Hid (wrd m c = if 0 < coA m c then itoaB (coA m c) ++ itoaB (riA m c) else ⟨#[35, 35]⟩) := (rfl : wrd m c = _)
      have HBA : Hid (badC m c = (!decide (0 < coA m c) && !decide (riA m c = 0))) := (rfl : badC m c = _)
      have HNX : Hid (badC m c = false → ∀ j, j < c + 1 → badC m j = false) := (fun h j hj => by
        rcases Nat.lt_or_eq_of_le (show j ≤ c by omega) with h1 | h1
        · exact HN.out j h1
        · rw [h1]; exact h : badC m c = false → _)
      have HBD : Hid (badC m c = true → mtOk m = false) := (fun h => mt_bad hixl h : badC m c = true → _)
      have hsz := l2T_size VH.out c
      have hwz := wrd_size VH.out c
      generalize wrd m c = wd at *
      generalize badC m c = bd at *
      generalize coA m c = cv at *
      generalize riA m c = rv at *
      have z1 := itoaB_size (n := cv) (by omega) (by omega)
      have z2 := itoaB_size (n := rv) (by omega) (by omega)
      generalize hTT : l2T m c = TT at *
      clear HN hmd hTT
      by_cases hm0 : 0 < md
      · have hmd1 : decide ((0 : Int) < ((md : Nat) : Int)) = true := by simp; omega
        by_cases hcv : 0 < cv
        · have HWX : Hid (wd = itoaB cv ++ itoaB rv) := (by rw [HWR.out, if_pos hcv] : wd = _)
          have HBF : Hid (bd = false) := (by rw [HBA.out]; simp [hcv] : bd = false)
          have s0 : ¬ 9223372036854775807 < TT.size + 1 := by omega
          have s1 : ¬ 9223372036854775807 < TT.size + 1 + (itoaB cv).size := by omega
          have s2 : ¬ 9223372036854775807 < TT.size + 1 + (itoaB cv).size + (itoaB rv).size := by omega
          have s3 : ¬ 9223372036854775807 < TT.size + 1 + (itoaB cv).size + (itoaB rv).size + 1 := by omega
          clear HWR HBA HBD
          by_cases hme : md = W - 1
          · have HL2 : Hid (l2T m (c + 1) = (TT ++ (⟨#[32]⟩ : ByteArray)) ++ itoaB cv ++ itoaB rv ++ (⟨#[10]⟩ : ByteArray)) := (by rw [HLT.out, if_pos hme, if_pos hm0, HWX.out]; simp only [ByteArray.append_assoc] : l2T m (c + 1) = _)
            have hmd2 : (((md : Nat) : Int) == ((W - 1 : Nat) : Int)) = true := by simp; omega
            have HS9 : ∀ W', Blk W' w.heap.size 47 [.int .i64 m.wd, .int .i64 m.ht, .slice (some ⟨r, orr, none⟩) n cp, .slice (some ⟨s, os, none⟩) k d] → Below w.heap.size w W' → wr.heap.size ≤ W'.heap.size → Below wr.heap.size wr W' → Blk W' w.heap.size 47 [.int .i64 m.wd, .int .i64 m.ht, .slice (some ⟨r, orr, none⟩) n cp, .slice (some ⟨s, os, none⟩) k d] ∧ W'.cell? ⟨s, os + c, none⟩ = some (.int .i64 cv) ∧ W'.cell? ⟨r, orr + c, none⟩ = some (.int .i64 rv) ∧ Below w.heap.size w W' ∧ Below wr.heap.size wr W' := fun W' hb hg _ hw => ⟨hb, by rw [(bcell hw).1 s _ (by have := G.size; omega)]; exact h2w, by rw [(bcell hw).1 r _ (by have := G.size; omega)]; exact h1w, hg, hw⟩
            go_upto_region 9 with (fail)
            refine wp_region_held_drew (S := fun w' => Blk w' w.heap.size 47 [.int .i64 m.wd, .int .i64 m.ht, .slice (some ⟨r, orr, none⟩) n cp, .slice (some ⟨s, os, none⟩) k d] ∧ w'.cell? ⟨s, os + c, none⟩ = some (.int .i64 cv) ∧ w'.cell? ⟨r, orr + c, none⟩ = some (.int .i64 rv) ∧ Below w.heap.size w w' ∧ Below wr.heap.size wr w') (by kernel_rfl) ?_ (fun hHeld => ?_)
            · (try dsimp only)
              first | exact ⟨K.drew, h2w, h1w, G.drew, (Below.refl _ _).drew⟩ | exact hHeld
            refine rgTake (i := 0) (d := 27) (v := ?_) rfl rfl (by kernel_rfl) (by kernel_rfl) (by kernel_rfl) (fun _ _ _ h => h) (by rfl) ?_ (by assumption) ?_
            rotate_left
            · ((intro w hSw); (try dsimp only at hSw); go_simp; (try with_reducible rfl))
            try simp only [Act.put, List.setIfInBounds_toArray, List.set_cons_zero, List.set_cons_succ]
            refine rgTake (i := 1) (d := 28) (v := ?_) rfl rfl (by kernel_rfl) (by kernel_rfl) (by kernel_rfl) (fun _ _ _ h => h) (by rfl) ?_ (by assumption) ?_
            rotate_left
            · ((intro w hSw); (try dsimp only at hSw); go_simp; (try with_reducible rfl))
            try simp only [Act.put, List.setIfInBounds_toArray, List.set_cons_zero, List.set_cons_succ]
            refine rgTake (i := 2) (d := 29) (v := ?_) rfl rfl (by kernel_rfl) (by kernel_rfl) (by kernel_rfl) (fun _ _ _ h => h) (by rfl) ?_ (by assumption) ?_
            rotate_left
            · ((intro w hSw); (try dsimp only at hSw); (obtain ⟨⟨x0, x1, x2, x3⟩, y1, y2⟩ := (⟨blk4 hSw.1, hSw.2.1, hSw.2.2.1⟩ : _ ∧ _ ∧ _)); go_simp; (try with_reducible rfl))
            try simp only [Act.put, List.setIfInBounds_toArray, List.set_cons_zero, List.set_cons_succ]
            refine rgTake (i := 3) (d := 30) (v := ?_) rfl rfl (by kernel_rfl) (by kernel_rfl) (by kernel_rfl) (fun _ _ _ h => h) (by rfl) ?_ (by assumption) ?_
            rotate_left
            · ((intro w hSw); (try dsimp only at hSw); go_simp; (try with_reducible rfl))
            try simp only [Act.put, List.setIfInBounds_toArray, List.set_cons_zero, List.set_cons_succ]
            refine rgTake (i := 4) (d := 31) (v := ?_) rfl rfl (by kernel_rfl) (by kernel_rfl) (by kernel_rfl) (fun _ _ _ h => h) (by rfl) ?_ (by assumption) ?_
            rotate_left
            · ((intro w hSw); (try dsimp only at hSw); go_simp; (try with_reducible rfl))
            try simp only [Act.put, List.setIfInBounds_toArray, List.set_cons_zero, List.set_cons_succ]
            refine rgTake (i := 5) (d := 32) (v := ?_) rfl rfl (by kernel_rfl) (by kernel_rfl) (by kernel_rfl) (fun _ _ _ h => h) (by rfl) ?_ (by assumption) ?_
            rotate_left
            · ((intro w hSw); (try dsimp only at hSw); (obtain ⟨⟨x0, x1, x2, x3⟩, y1, y2⟩ := (⟨blk4 hSw.1, hSw.2.1, hSw.2.2.1⟩ : _ ∧ _ ∧ _)); go_simp; (try with_reducible rfl))
            try simp only [Act.put, List.setIfInBounds_toArray, List.set_cons_zero, List.set_cons_succ]
            refine rgTake (i := 8) (d := 35) (v := ?_) rfl rfl (by kernel_rfl) (by kernel_rfl) (by kernel_rfl) (fun _ _ _ h => h) (by rfl) ?_ (by assumption) ?_
            rotate_left
            · ((intro w hSw); (try dsimp only at hSw); go_simp; (try with_reducible rfl))
            try simp only [Act.put, List.setIfInBounds_toArray, List.set_cons_zero, List.set_cons_succ]
            refine rgTake (i := 9) (d := 36) (v := ?_) rfl rfl (by kernel_rfl) (by kernel_rfl) (by kernel_rfl) (fun _ _ _ h => h) (by rfl) ?_ (by assumption) ?_
            rotate_left
            · ((intro w hSw); (try dsimp only at hSw); (obtain ⟨⟨x0, x1, x2, x3⟩, y1, y2⟩ := (⟨blk4 hSw.1, hSw.2.1, hSw.2.2.1⟩ : _ ∧ _ ∧ _)); go_simp; (try with_reducible rfl))
            try simp only [Act.put, List.setIfInBounds_toArray, List.set_cons_zero, List.set_cons_succ]
            refine rgTake (i := 10) (d := 37) (v := ?_) rfl rfl (by kernel_rfl) (by kernel_rfl) (by kernel_rfl) (fun _ _ _ h => h) (by rfl) ?_ (by assumption) ?_
            rotate_left
            · ((intro w hSw); (try dsimp only at hSw); go_simp; (try with_reducible rfl))
            try simp only [Act.put, List.setIfInBounds_toArray, List.set_cons_zero, List.set_cons_succ]
            refine rgTake (i := 11) (d := 38) (v := ?_) rfl rfl (by kernel_rfl) (by kernel_rfl) (by kernel_rfl) (fun _ _ _ h => h) (by rfl) ?_ (by assumption) ?_
            rotate_left
            · ((intro w hSw); (try dsimp only at hSw); go_simp; (try with_reducible rfl))
            try simp only [Act.put, List.setIfInBounds_toArray, List.set_cons_zero, List.set_cons_succ]
            refine rgTake (i := 12) (d := 39) (v := ?_) rfl rfl (by kernel_rfl) (by kernel_rfl) (by kernel_rfl) (fun _ _ _ h => h) (by rfl) ?_ (by assumption) ?_
            rotate_left
            · ((intro w hSw); (try dsimp only at hSw); (obtain ⟨⟨x0, x1, x2, x3⟩, y1, y2⟩ := (⟨blk4 hSw.1, hSw.2.1, hSw.2.2.1⟩ : _ ∧ _ ∧ _)); go_simp; (try with_reducible rfl))
            try simp only [Act.put, List.setIfInBounds_toArray, List.set_cons_zero, List.set_cons_succ]
            refine wpAnyH_ready (rs := [6]) (by kernel_rfl) (by simp) ?_
            refine AllReadyH.cons rfl (fun K hK => ?_) AllReadyH.nil
            go_simp
            refine (l1Num_any (by omega) (by omega)).mono ?_; rintro e w9 ⟨rfl, hb9⟩
            go_wp2_with fail
            refine hK.out _ _ ?_ (fun hHeld => ?_)
            · (try dsimp only)
              exact HS9 _ (hHeld.1.on hb9) (hHeld.2.2.2.1.trans (hb9.mono hHeld.2.2.2.1.size)) (by have := hHeld.2.2.2.2.size; have := hb9.size; omega) (hHeld.2.2.2.2.trans (hb9.mono hHeld.2.2.2.2.size))
            clear hK K
            try simp only [Act.put, List.setIfInBounds_toArray, List.set_cons_zero, List.set_cons_succ]
            refine rgTake (i := 7) (d := 34) (v := ?_) rfl rfl (by kernel_rfl) (by kernel_rfl) (by kernel_rfl) (fun _ _ _ h => h) (by rfl) ?_ (by assumption) ?_
            rotate_left
            · ((intro w hSw); (try dsimp only at hSw); go_simp; (try with_reducible rfl))
            try simp only [Act.put, List.setIfInBounds_toArray, List.set_cons_zero, List.set_cons_succ]
            refine wpAnyH_ready (rs := [13]) (by kernel_rfl) (by simp) ?_
            refine AllReadyH.cons rfl (fun K hK => ?_) AllReadyH.nil
            go_simp
            refine (l1Num_any (by omega) (by omega)).mono ?_; rintro e w9 ⟨rfl, hb9⟩
            go_wp2_with fail
            refine hK.out _ _ ?_ (fun hHeld => ?_)
            · (try dsimp only)
              exact HS9 _ (hHeld.1.on hb9) (hHeld.2.2.2.1.trans (hb9.mono hHeld.2.2.2.1.size)) (by have := hHeld.2.2.2.2.size; have := hb9.size; omega) (hHeld.2.2.2.2.trans (hb9.mono hHeld.2.2.2.2.size))
            clear hK K
            try simp only [Act.put, List.setIfInBounds_toArray, List.set_cons_zero, List.set_cons_succ]
            refine rgTake (i := 14) (d := 41) (v := ?_) rfl rfl (by kernel_rfl) (by kernel_rfl) (by kernel_rfl) (fun _ _ _ h => h) (by rfl) ?_ (by assumption) ?_
            rotate_left
            · ((intro w hSw); (try dsimp only at hSw); go_simp; (try with_reducible rfl))
            try simp only [Act.put, List.setIfInBounds_toArray, List.set_cons_zero, List.set_cons_succ]
            refine rgTake (i := 15) (d := 4) (v := ?_) rfl rfl (by kernel_rfl) (by kernel_rfl) (by kernel_rfl) (fun _ _ _ h => h) (by rfl) ?_ (by assumption) ?_
            rotate_left
            · ((intro w hSw); (try dsimp only at hSw); go_simp; (try with_reducible rfl))
            try simp only [Act.put, List.setIfInBounds_toArray, List.set_cons_zero, List.set_cons_succ]
            refine wpAnyH_done (by kernel_rfl) ?_ _
            obtain ⟨x0, x1, x2, x3⟩ := blk4 hHeld.1
            go_wp2_with fail
            go_quiet (fail)
            go_wp2_with fail
            go_roundw
            case rel => exact ⟨c + 1, by omega, by go_num, by rw [HL2.out], HNX.out HBF.out, hHeld.1.drewN _, below_drewN hHeld.2.2.2.1 _⟩
            case measure => simp [intOf]; omega
          · have HL2 : Hid (l2T m (c + 1) = (TT ++ (⟨#[32]⟩ : ByteArray)) ++ itoaB cv ++ itoaB rv) := (by rw [HLT.out, if_neg hme, if_pos hm0, HWX.out]; simp only [ByteArray.append_assoc] : l2T m (c + 1) = _)
            have hmd2 : (((md : Nat) : Int) == ((W - 1 : Nat) : Int)) = false := by simp; omega
            have HS9 : ∀ W', Blk W' w.heap.size 47 [.int .i64 m.wd, .int .i64 m.ht, .slice (some ⟨r, orr, none⟩) n cp, .slice (some ⟨s, os, none⟩) k d] → Below w.heap.size w W' → wr.heap.size ≤ W'.heap.size → Below wr.heap.size wr W' → Blk W' w.heap.size 47 [.int .i64 m.wd, .int .i64 m.ht, .slice (some ⟨r, orr, none⟩) n cp, .slice (some ⟨s, os, none⟩) k d] ∧ W'.cell? ⟨s, os + c, none⟩ = some (.int .i64 cv) ∧ W'.cell? ⟨r, orr + c, none⟩ = some (.int .i64 rv) ∧ Below w.heap.size w W' ∧ Below wr.heap.size wr W' := fun W' hb hg _ hw => ⟨hb, by rw [(bcell hw).1 s _ (by have := G.size; omega)]; exact h2w, by rw [(bcell hw).1 r _ (by have := G.size; omega)]; exact h1w, hg, hw⟩
            go_upto_region 9 with (fail)
            refine wp_region_held_drew (S := fun w' => Blk w' w.heap.size 47 [.int .i64 m.wd, .int .i64 m.ht, .slice (some ⟨r, orr, none⟩) n cp, .slice (some ⟨s, os, none⟩) k d] ∧ w'.cell? ⟨s, os + c, none⟩ = some (.int .i64 cv) ∧ w'.cell? ⟨r, orr + c, none⟩ = some (.int .i64 rv) ∧ Below w.heap.size w w' ∧ Below wr.heap.size wr w') (by kernel_rfl) ?_ (fun hHeld => ?_)
            · (try dsimp only)
              first | exact ⟨K.drew, h2w, h1w, G.drew, (Below.refl _ _).drew⟩ | exact hHeld
            refine rgTake (i := 0) (d := 27) (v := ?_) rfl rfl (by kernel_rfl) (by kernel_rfl) (by kernel_rfl) (fun _ _ _ h => h) (by rfl) ?_ (by assumption) ?_
            rotate_left
            · ((intro w hSw); (try dsimp only at hSw); go_simp; (try with_reducible rfl))
            try simp only [Act.put, List.setIfInBounds_toArray, List.set_cons_zero, List.set_cons_succ]
            refine rgTake (i := 1) (d := 28) (v := ?_) rfl rfl (by kernel_rfl) (by kernel_rfl) (by kernel_rfl) (fun _ _ _ h => h) (by rfl) ?_ (by assumption) ?_
            rotate_left
            · ((intro w hSw); (try dsimp only at hSw); go_simp; (try with_reducible rfl))
            try simp only [Act.put, List.setIfInBounds_toArray, List.set_cons_zero, List.set_cons_succ]
            refine rgTake (i := 2) (d := 29) (v := ?_) rfl rfl (by kernel_rfl) (by kernel_rfl) (by kernel_rfl) (fun _ _ _ h => h) (by rfl) ?_ (by assumption) ?_
            rotate_left
            · ((intro w hSw); (try dsimp only at hSw); (obtain ⟨⟨x0, x1, x2, x3⟩, y1, y2⟩ := (⟨blk4 hSw.1, hSw.2.1, hSw.2.2.1⟩ : _ ∧ _ ∧ _)); go_simp; (try with_reducible rfl))
            try simp only [Act.put, List.setIfInBounds_toArray, List.set_cons_zero, List.set_cons_succ]
            refine rgTake (i := 3) (d := 30) (v := ?_) rfl rfl (by kernel_rfl) (by kernel_rfl) (by kernel_rfl) (fun _ _ _ h => h) (by rfl) ?_ (by assumption) ?_
            rotate_left
            · ((intro w hSw); (try dsimp only at hSw); go_simp; (try with_reducible rfl))
            try simp only [Act.put, List.setIfInBounds_toArray, List.set_cons_zero, List.set_cons_succ]
            refine rgTake (i := 4) (d := 31) (v := ?_) rfl rfl (by kernel_rfl) (by kernel_rfl) (by kernel_rfl) (fun _ _ _ h => h) (by rfl) ?_ (by assumption) ?_
            rotate_left
            · ((intro w hSw); (try dsimp only at hSw); go_simp; (try with_reducible rfl))
            try simp only [Act.put, List.setIfInBounds_toArray, List.set_cons_zero, List.set_cons_succ]
            refine rgTake (i := 5) (d := 32) (v := ?_) rfl rfl (by kernel_rfl) (by kernel_rfl) (by kernel_rfl) (fun _ _ _ h => h) (by rfl) ?_ (by assumption) ?_
            rotate_left
            · ((intro w hSw); (try dsimp only at hSw); (obtain ⟨⟨x0, x1, x2, x3⟩, y1, y2⟩ := (⟨blk4 hSw.1, hSw.2.1, hSw.2.2.1⟩ : _ ∧ _ ∧ _)); go_simp; (try with_reducible rfl))
            try simp only [Act.put, List.setIfInBounds_toArray, List.set_cons_zero, List.set_cons_succ]
            refine rgTake (i := 8) (d := 35) (v := ?_) rfl rfl (by kernel_rfl) (by kernel_rfl) (by kernel_rfl) (fun _ _ _ h => h) (by rfl) ?_ (by assumption) ?_
            rotate_left
            · ((intro w hSw); (try dsimp only at hSw); go_simp; (try with_reducible rfl))
            try simp only [Act.put, List.setIfInBounds_toArray, List.set_cons_zero, List.set_cons_succ]
            refine rgTake (i := 9) (d := 36) (v := ?_) rfl rfl (by kernel_rfl) (by kernel_rfl) (by kernel_rfl) (fun _ _ _ h => h) (by rfl) ?_ (by assumption) ?_
            rotate_left
            · ((intro w hSw); (try dsimp only at hSw); (obtain ⟨⟨x0, x1, x2, x3⟩, y1, y2⟩ := (⟨blk4 hSw.1, hSw.2.1, hSw.2.2.1⟩ : _ ∧ _ ∧ _)); go_simp; (try with_reducible rfl))
            try simp only [Act.put, List.setIfInBounds_toArray, List.set_cons_zero, List.set_cons_succ]
            refine rgTake (i := 10) (d := 37) (v := ?_) rfl rfl (by kernel_rfl) (by kernel_rfl) (by kernel_rfl) (fun _ _ _ h => h) (by rfl) ?_ (by assumption) ?_
            rotate_left
            · ((intro w hSw); (try dsimp only at hSw); go_simp; (try with_reducible rfl))
            try simp only [Act.put, List.setIfInBounds_toArray, List.set_cons_zero, List.set_cons_succ]
            refine rgTake (i := 11) (d := 38) (v := ?_) rfl rfl (by kernel_rfl) (by kernel_rfl) (by kernel_rfl) (fun _ _ _ h => h) (by rfl) ?_ (by assumption) ?_
            rotate_left
            · ((intro w hSw); (try dsimp only at hSw); go_simp; (try with_reducible rfl))
            try simp only [Act.put, List.setIfInBounds_toArray, List.set_cons_zero, List.set_cons_succ]
            refine rgTake (i := 12) (d := 39) (v := ?_) rfl rfl (by kernel_rfl) (by kernel_rfl) (by kernel_rfl) (fun _ _ _ h => h) (by rfl) ?_ (by assumption) ?_
            rotate_left
            · ((intro w hSw); (try dsimp only at hSw); (obtain ⟨⟨x0, x1, x2, x3⟩, y1, y2⟩ := (⟨blk4 hSw.1, hSw.2.1, hSw.2.2.1⟩ : _ ∧ _ ∧ _)); go_simp; (try with_reducible rfl))
            try simp only [Act.put, List.setIfInBounds_toArray, List.set_cons_zero, List.set_cons_succ]
            refine wpAnyH_ready (rs := [6]) (by kernel_rfl) (by simp) ?_
            refine AllReadyH.cons rfl (fun K hK => ?_) AllReadyH.nil
            go_simp
            refine (l1Num_any (by omega) (by omega)).mono ?_; rintro e w9 ⟨rfl, hb9⟩
            go_wp2_with fail
            refine hK.out _ _ ?_ (fun hHeld => ?_)
            · (try dsimp only)
              exact HS9 _ (hHeld.1.on hb9) (hHeld.2.2.2.1.trans (hb9.mono hHeld.2.2.2.1.size)) (by have := hHeld.2.2.2.2.size; have := hb9.size; omega) (hHeld.2.2.2.2.trans (hb9.mono hHeld.2.2.2.2.size))
            clear hK K
            try simp only [Act.put, List.setIfInBounds_toArray, List.set_cons_zero, List.set_cons_succ]
            refine rgTake (i := 7) (d := 34) (v := ?_) rfl rfl (by kernel_rfl) (by kernel_rfl) (by kernel_rfl) (fun _ _ _ h => h) (by rfl) ?_ (by assumption) ?_
            rotate_left
            · ((intro w hSw); (try dsimp only at hSw); go_simp; (try with_reducible rfl))
            try simp only [Act.put, List.setIfInBounds_toArray, List.set_cons_zero, List.set_cons_succ]
            refine wpAnyH_ready (rs := [13]) (by kernel_rfl) (by simp) ?_
            refine AllReadyH.cons rfl (fun K hK => ?_) AllReadyH.nil
            go_simp
            refine (l1Num_any (by omega) (by omega)).mono ?_; rintro e w9 ⟨rfl, hb9⟩
            go_wp2_with fail
            refine hK.out _ _ ?_ (fun hHeld => ?_)
            · (try dsimp only)
              exact HS9 _ (hHeld.1.on hb9) (hHeld.2.2.2.1.trans (hb9.mono hHeld.2.2.2.1.size)) (by have := hHeld.2.2.2.2.size; have := hb9.size; omega) (hHeld.2.2.2.2.trans (hb9.mono hHeld.2.2.2.2.size))
            clear hK K
            try simp only [Act.put, List.setIfInBounds_toArray, List.set_cons_zero, List.set_cons_succ]
            refine rgTake (i := 14) (d := 41) (v := ?_) rfl rfl (by kernel_rfl) (by kernel_rfl) (by kernel_rfl) (fun _ _ _ h => h) (by rfl) ?_ (by assumption) ?_
            rotate_left
            · ((intro w hSw); (try dsimp only at hSw); go_simp; (try with_reducible rfl))
            try simp only [Act.put, List.setIfInBounds_toArray, List.set_cons_zero, List.set_cons_succ]
            refine rgTake (i := 15) (d := 4) (v := ?_) rfl rfl (by kernel_rfl) (by kernel_rfl) (by kernel_rfl) (fun _ _ _ h => h) (by rfl) ?_ (by assumption) ?_
            rotate_left
            · ((intro w hSw); (try dsimp only at hSw); go_simp; (try with_reducible rfl))
            try simp only [Act.put, List.setIfInBounds_toArray, List.set_cons_zero, List.set_cons_succ]
            refine wpAnyH_done (by kernel_rfl) ?_ _
            obtain ⟨x0, x1, x2, x3⟩ := blk4 hHeld.1
            go_wp2_with fail
            go_quiet (fail)
            go_wp2_with fail
            go_roundw
            case rel => exact ⟨c + 1, by omega, by go_num, by rw [HL2.out], HNX.out HBF.out, hHeld.1.drewN _, below_drewN hHeld.2.2.2.1 _⟩
            case measure => simp [intOf]; omega
        · by_cases hrv : rv = 0
          · have hcv0 : cv = 0 := by omega
            subst hcv0
            have HWX : Hid (wd = (⟨#[35, 35]⟩ : ByteArray)) := (by rw [HWR.out, if_neg (by omega)] : wd = _)
            have HBF : Hid (bd = false) := (by rw [HBA.out, hrv]; rfl : bd = false)
            have s0 : ¬ 9223372036854775807 < TT.size + 1 := by omega
            have s1 : ¬ 9223372036854775807 < TT.size + 1 + 2 := by omega
            have s2 : ¬ 9223372036854775807 < TT.size + 1 + 2 + 1 := by omega
            clear HWR HBA HBD
            by_cases hme : md = W - 1
            · have HL2 : Hid (l2T m (c + 1) = (TT ++ (⟨#[32]⟩ : ByteArray)) ++ (⟨#[35, 35]⟩ : ByteArray) ++ (⟨#[10]⟩ : ByteArray)) := (by rw [HLT.out, if_pos hme, if_pos hm0, HWX.out] : l2T m (c + 1) = _)
              have hmd2 : (((md : Nat) : Int) == ((W - 1 : Nat) : Int)) = true := by simp; omega
              go_wp2_with fail
              go_quiet (fail)
              go_wp2_with fail
              go_roundw
              case rel => exact ⟨c + 1, by omega, by go_num, by rw [HL2.out], HNX.out HBF.out, K.drewN _, below_drewN G _⟩
              case measure => simp [intOf]; omega
            · have HL2 : Hid (l2T m (c + 1) = (TT ++ (⟨#[32]⟩ : ByteArray)) ++ (⟨#[35, 35]⟩ : ByteArray)) := (by rw [HLT.out, if_neg hme, if_pos hm0, HWX.out] : l2T m (c + 1) = _)
              have hmd2 : (((md : Nat) : Int) == ((W - 1 : Nat) : Int)) = false := by simp; omega
              go_wp2_with fail
              go_quiet (fail)
              go_wp2_with fail
              go_roundw
              case rel => exact ⟨c + 1, by omega, by go_num, by rw [HL2.out], HNX.out HBF.out, K.drewN _, below_drewN G _⟩
              case measure => simp [intOf]; omega
          · have hcv0 : cv = 0 := by omega
            subst hcv0
            have HBF : Hid (mtOk m = false) := HBD.out (by rw [HBA.out]; simp [hrv])
            have HE : Hid (mtV m = ⟨#[]⟩) := mt_no HBF.out
            have s0 : ¬ 9223372036854775807 < TT.size + 1 := by omega
            have hrb0 : (rv == 0) = false := by simp [hrv]
            go_wp2_with fail
            go_ret2
            exact ⟨by rw [HBF.out, HE.out]; rfl, G⟩
      · have hmd1 : decide ((0 : Int) < ((md : Nat) : Int)) = false := by simp; omega
        by_cases hcv : 0 < cv
        · have HWX : Hid (wd = itoaB cv ++ itoaB rv) := (by rw [HWR.out, if_pos hcv] : wd = _)
          have HBF : Hid (bd = false) := (by rw [HBA.out]; simp [hcv] : bd = false)
          have s0 : ¬ 9223372036854775807 < TT.size + (itoaB cv).size := by omega
          have s1 : ¬ 9223372036854775807 < TT.size + (itoaB cv).size + (itoaB rv).size := by omega
          have s2 : ¬ 9223372036854775807 < TT.size + (itoaB cv).size + (itoaB rv).size + 1 := by omega
          clear HWR HBA HBD
          by_cases hme : md = W - 1
          · have HL2 : Hid (l2T m (c + 1) = (TT) ++ itoaB cv ++ itoaB rv ++ (⟨#[10]⟩ : ByteArray)) := (by rw [HLT.out, if_pos hme, if_neg hm0, HWX.out]; simp only [ByteArray.append_assoc] : l2T m (c + 1) = _)
            have hmd2 : (((md : Nat) : Int) == ((W - 1 : Nat) : Int)) = true := by simp; omega
            have HS9 : ∀ W', Blk W' w.heap.size 47 [.int .i64 m.wd, .int .i64 m.ht, .slice (some ⟨r, orr, none⟩) n cp, .slice (some ⟨s, os, none⟩) k d] → Below w.heap.size w W' → wr.heap.size ≤ W'.heap.size → Below wr.heap.size wr W' → Blk W' w.heap.size 47 [.int .i64 m.wd, .int .i64 m.ht, .slice (some ⟨r, orr, none⟩) n cp, .slice (some ⟨s, os, none⟩) k d] ∧ W'.cell? ⟨s, os + c, none⟩ = some (.int .i64 cv) ∧ W'.cell? ⟨r, orr + c, none⟩ = some (.int .i64 rv) ∧ Below w.heap.size w W' ∧ Below wr.heap.size wr W' := fun W' hb hg _ hw => ⟨hb, by rw [(bcell hw).1 s _ (by have := G.size; omega)]; exact h2w, by rw [(bcell hw).1 r _ (by have := G.size; omega)]; exact h1w, hg, hw⟩
            go_upto_region 9 with (fail)
            refine wp_region_held_drew (S := fun w' => Blk w' w.heap.size 47 [.int .i64 m.wd, .int .i64 m.ht, .slice (some ⟨r, orr, none⟩) n cp, .slice (some ⟨s, os, none⟩) k d] ∧ w'.cell? ⟨s, os + c, none⟩ = some (.int .i64 cv) ∧ w'.cell? ⟨r, orr + c, none⟩ = some (.int .i64 rv) ∧ Below w.heap.size w w' ∧ Below wr.heap.size wr w') (by kernel_rfl) ?_ (fun hHeld => ?_)
            · (try dsimp only)
              first | exact ⟨K.drew, h2w, h1w, G.drew, (Below.refl _ _).drew⟩ | exact hHeld
            refine rgTake (i := 0) (d := 27) (v := ?_) rfl rfl (by kernel_rfl) (by kernel_rfl) (by kernel_rfl) (fun _ _ _ h => h) (by rfl) ?_ (by assumption) ?_
            rotate_left
            · ((intro w hSw); (try dsimp only at hSw); go_simp; (try with_reducible rfl))
            try simp only [Act.put, List.setIfInBounds_toArray, List.set_cons_zero, List.set_cons_succ]
            refine rgTake (i := 1) (d := 28) (v := ?_) rfl rfl (by kernel_rfl) (by kernel_rfl) (by kernel_rfl) (fun _ _ _ h => h) (by rfl) ?_ (by assumption) ?_
            rotate_left
            · ((intro w hSw); (try dsimp only at hSw); go_simp; (try with_reducible rfl))
            try simp only [Act.put, List.setIfInBounds_toArray, List.set_cons_zero, List.set_cons_succ]
            refine rgTake (i := 2) (d := 29) (v := ?_) rfl rfl (by kernel_rfl) (by kernel_rfl) (by kernel_rfl) (fun _ _ _ h => h) (by rfl) ?_ (by assumption) ?_
            rotate_left
            · ((intro w hSw); (try dsimp only at hSw); (obtain ⟨⟨x0, x1, x2, x3⟩, y1, y2⟩ := (⟨blk4 hSw.1, hSw.2.1, hSw.2.2.1⟩ : _ ∧ _ ∧ _)); go_simp; (try with_reducible rfl))
            try simp only [Act.put, List.setIfInBounds_toArray, List.set_cons_zero, List.set_cons_succ]
            refine rgTake (i := 3) (d := 30) (v := ?_) rfl rfl (by kernel_rfl) (by kernel_rfl) (by kernel_rfl) (fun _ _ _ h => h) (by rfl) ?_ (by assumption) ?_
            rotate_left
            · ((intro w hSw); (try dsimp only at hSw); go_simp; (try with_reducible rfl))
            try simp only [Act.put, List.setIfInBounds_toArray, List.set_cons_zero, List.set_cons_succ]
            refine rgTake (i := 4) (d := 31) (v := ?_) rfl rfl (by kernel_rfl) (by kernel_rfl) (by kernel_rfl) (fun _ _ _ h => h) (by rfl) ?_ (by assumption) ?_
            rotate_left
            · ((intro w hSw); (try dsimp only at hSw); go_simp; (try with_reducible rfl))
            try simp only [Act.put, List.setIfInBounds_toArray, List.set_cons_zero, List.set_cons_succ]
            refine rgTake (i := 5) (d := 32) (v := ?_) rfl rfl (by kernel_rfl) (by kernel_rfl) (by kernel_rfl) (fun _ _ _ h => h) (by rfl) ?_ (by assumption) ?_
            rotate_left
            · ((intro w hSw); (try dsimp only at hSw); (obtain ⟨⟨x0, x1, x2, x3⟩, y1, y2⟩ := (⟨blk4 hSw.1, hSw.2.1, hSw.2.2.1⟩ : _ ∧ _ ∧ _)); go_simp; (try with_reducible rfl))
            try simp only [Act.put, List.setIfInBounds_toArray, List.set_cons_zero, List.set_cons_succ]
            refine rgTake (i := 8) (d := 35) (v := ?_) rfl rfl (by kernel_rfl) (by kernel_rfl) (by kernel_rfl) (fun _ _ _ h => h) (by rfl) ?_ (by assumption) ?_
            rotate_left
            · ((intro w hSw); (try dsimp only at hSw); go_simp; (try with_reducible rfl))
            try simp only [Act.put, List.setIfInBounds_toArray, List.set_cons_zero, List.set_cons_succ]
            refine rgTake (i := 9) (d := 36) (v := ?_) rfl rfl (by kernel_rfl) (by kernel_rfl) (by kernel_rfl) (fun _ _ _ h => h) (by rfl) ?_ (by assumption) ?_
            rotate_left
            · ((intro w hSw); (try dsimp only at hSw); (obtain ⟨⟨x0, x1, x2, x3⟩, y1, y2⟩ := (⟨blk4 hSw.1, hSw.2.1, hSw.2.2.1⟩ : _ ∧ _ ∧ _)); go_simp; (try with_reducible rfl))
            try simp only [Act.put, List.setIfInBounds_toArray, List.set_cons_zero, List.set_cons_succ]
            refine rgTake (i := 10) (d := 37) (v := ?_) rfl rfl (by kernel_rfl) (by kernel_rfl) (by kernel_rfl) (fun _ _ _ h => h) (by rfl) ?_ (by assumption) ?_
            rotate_left
            · ((intro w hSw); (try dsimp only at hSw); go_simp; (try with_reducible rfl))
            try simp only [Act.put, List.setIfInBounds_toArray, List.set_cons_zero, List.set_cons_succ]
            refine rgTake (i := 11) (d := 38) (v := ?_) rfl rfl (by kernel_rfl) (by kernel_rfl) (by kernel_rfl) (fun _ _ _ h => h) (by rfl) ?_ (by assumption) ?_
            rotate_left
            · ((intro w hSw); (try dsimp only at hSw); go_simp; (try with_reducible rfl))
            try simp only [Act.put, List.setIfInBounds_toArray, List.set_cons_zero, List.set_cons_succ]
            refine rgTake (i := 12) (d := 39) (v := ?_) rfl rfl (by kernel_rfl) (by kernel_rfl) (by kernel_rfl) (fun _ _ _ h => h) (by rfl) ?_ (by assumption) ?_
            rotate_left
            · ((intro w hSw); (try dsimp only at hSw); (obtain ⟨⟨x0, x1, x2, x3⟩, y1, y2⟩ := (⟨blk4 hSw.1, hSw.2.1, hSw.2.2.1⟩ : _ ∧ _ ∧ _)); go_simp; (try with_reducible rfl))
            try simp only [Act.put, List.setIfInBounds_toArray, List.set_cons_zero, List.set_cons_succ]
            refine wpAnyH_ready (rs := [6]) (by kernel_rfl) (by simp) ?_
            refine AllReadyH.cons rfl (fun K hK => ?_) AllReadyH.nil
            go_simp
            refine (l1Num_any (by omega) (by omega)).mono ?_; rintro e w9 ⟨rfl, hb9⟩
            go_wp2_with fail
            refine hK.out _ _ ?_ (fun hHeld => ?_)
            · (try dsimp only)
              exact HS9 _ (hHeld.1.on hb9) (hHeld.2.2.2.1.trans (hb9.mono hHeld.2.2.2.1.size)) (by have := hHeld.2.2.2.2.size; have := hb9.size; omega) (hHeld.2.2.2.2.trans (hb9.mono hHeld.2.2.2.2.size))
            clear hK K
            try simp only [Act.put, List.setIfInBounds_toArray, List.set_cons_zero, List.set_cons_succ]
            refine rgTake (i := 7) (d := 34) (v := ?_) rfl rfl (by kernel_rfl) (by kernel_rfl) (by kernel_rfl) (fun _ _ _ h => h) (by rfl) ?_ (by assumption) ?_
            rotate_left
            · ((intro w hSw); (try dsimp only at hSw); go_simp; (try with_reducible rfl))
            try simp only [Act.put, List.setIfInBounds_toArray, List.set_cons_zero, List.set_cons_succ]
            refine wpAnyH_ready (rs := [13]) (by kernel_rfl) (by simp) ?_
            refine AllReadyH.cons rfl (fun K hK => ?_) AllReadyH.nil
            go_simp
            refine (l1Num_any (by omega) (by omega)).mono ?_; rintro e w9 ⟨rfl, hb9⟩
            go_wp2_with fail
            refine hK.out _ _ ?_ (fun hHeld => ?_)
            · (try dsimp only)
              exact HS9 _ (hHeld.1.on hb9) (hHeld.2.2.2.1.trans (hb9.mono hHeld.2.2.2.1.size)) (by have := hHeld.2.2.2.2.size; have := hb9.size; omega) (hHeld.2.2.2.2.trans (hb9.mono hHeld.2.2.2.2.size))
            clear hK K
            try simp only [Act.put, List.setIfInBounds_toArray, List.set_cons_zero, List.set_cons_succ]
            refine rgTake (i := 14) (d := 41) (v := ?_) rfl rfl (by kernel_rfl) (by kernel_rfl) (by kernel_rfl) (fun _ _ _ h => h) (by rfl) ?_ (by assumption) ?_
            rotate_left
            · ((intro w hSw); (try dsimp only at hSw); go_simp; (try with_reducible rfl))
            try simp only [Act.put, List.setIfInBounds_toArray, List.set_cons_zero, List.set_cons_succ]
            refine rgTake (i := 15) (d := 4) (v := ?_) rfl rfl (by kernel_rfl) (by kernel_rfl) (by kernel_rfl) (fun _ _ _ h => h) (by rfl) ?_ (by assumption) ?_
            rotate_left
            · ((intro w hSw); (try dsimp only at hSw); go_simp; (try with_reducible rfl))
            try simp only [Act.put, List.setIfInBounds_toArray, List.set_cons_zero, List.set_cons_succ]
            refine wpAnyH_done (by kernel_rfl) ?_ _
            obtain ⟨x0, x1, x2, x3⟩ := blk4 hHeld.1
            go_wp2_with fail
            go_quiet (fail)
            go_wp2_with fail
            go_roundw
            case rel => exact ⟨c + 1, by omega, by go_num, by rw [HL2.out], HNX.out HBF.out, hHeld.1.drewN _, below_drewN hHeld.2.2.2.1 _⟩
            case measure => simp [intOf]; omega
          · have HL2 : Hid (l2T m (c + 1) = (TT) ++ itoaB cv ++ itoaB rv) := (by rw [HLT.out, if_neg hme, if_neg hm0, HWX.out]; simp only [ByteArray.append_assoc] : l2T m (c + 1) = _)
            have hmd2 : (((md : Nat) : Int) == ((W - 1 : Nat) : Int)) = false := by simp; omega
            have HS9 : ∀ W', Blk W' w.heap.size 47 [.int .i64 m.wd, .int .i64 m.ht, .slice (some ⟨r, orr, none⟩) n cp, .slice (some ⟨s, os, none⟩) k d] → Below w.heap.size w W' → wr.heap.size ≤ W'.heap.size → Below wr.heap.size wr W' → Blk W' w.heap.size 47 [.int .i64 m.wd, .int .i64 m.ht, .slice (some ⟨r, orr, none⟩) n cp, .slice (some ⟨s, os, none⟩) k d] ∧ W'.cell? ⟨s, os + c, none⟩ = some (.int .i64 cv) ∧ W'.cell? ⟨r, orr + c, none⟩ = some (.int .i64 rv) ∧ Below w.heap.size w W' ∧ Below wr.heap.size wr W' := fun W' hb hg _ hw => ⟨hb, by rw [(bcell hw).1 s _ (by have := G.size; omega)]; exact h2w, by rw [(bcell hw).1 r _ (by have := G.size; omega)]; exact h1w, hg, hw⟩
            go_upto_region 9 with (fail)
            refine wp_region_held_drew (S := fun w' => Blk w' w.heap.size 47 [.int .i64 m.wd, .int .i64 m.ht, .slice (some ⟨r, orr, none⟩) n cp, .slice (some ⟨s, os, none⟩) k d] ∧ w'.cell? ⟨s, os + c, none⟩ = some (.int .i64 cv) ∧ w'.cell? ⟨r, orr + c, none⟩ = some (.int .i64 rv) ∧ Below w.heap.size w w' ∧ Below wr.heap.size wr w') (by kernel_rfl) ?_ (fun hHeld => ?_)
            · (try dsimp only)
              first | exact ⟨K.drew, h2w, h1w, G.drew, (Below.refl _ _).drew⟩ | exact hHeld
            refine rgTake (i := 0) (d := 27) (v := ?_) rfl rfl (by kernel_rfl) (by kernel_rfl) (by kernel_rfl) (fun _ _ _ h => h) (by rfl) ?_ (by assumption) ?_
            rotate_left
            · ((intro w hSw); (try dsimp only at hSw); go_simp; (try with_reducible rfl))
            try simp only [Act.put, List.setIfInBounds_toArray, List.set_cons_zero, List.set_cons_succ]
            refine rgTake (i := 1) (d := 28) (v := ?_) rfl rfl (by kernel_rfl) (by kernel_rfl) (by kernel_rfl) (fun _ _ _ h => h) (by rfl) ?_ (by assumption) ?_
            rotate_left
            · ((intro w hSw); (try dsimp only at hSw); go_simp; (try with_reducible rfl))
            try simp only [Act.put, List.setIfInBounds_toArray, List.set_cons_zero, List.set_cons_succ]
            refine rgTake (i := 2) (d := 29) (v := ?_) rfl rfl (by kernel_rfl) (by kernel_rfl) (by kernel_rfl) (fun _ _ _ h => h) (by rfl) ?_ (by assumption) ?_
            rotate_left
            · ((intro w hSw); (try dsimp only at hSw); (obtain ⟨⟨x0, x1, x2, x3⟩, y1, y2⟩ := (⟨blk4 hSw.1, hSw.2.1, hSw.2.2.1⟩ : _ ∧ _ ∧ _)); go_simp; (try with_reducible rfl))
            try simp only [Act.put, List.setIfInBounds_toArray, List.set_cons_zero, List.set_cons_succ]
            refine rgTake (i := 3) (d := 30) (v := ?_) rfl rfl (by kernel_rfl) (by kernel_rfl) (by kernel_rfl) (fun _ _ _ h => h) (by rfl) ?_ (by assumption) ?_
            rotate_left
            · ((intro w hSw); (try dsimp only at hSw); go_simp; (try with_reducible rfl))
            try simp only [Act.put, List.setIfInBounds_toArray, List.set_cons_zero, List.set_cons_succ]
            refine rgTake (i := 4) (d := 31) (v := ?_) rfl rfl (by kernel_rfl) (by kernel_rfl) (by kernel_rfl) (fun _ _ _ h => h) (by rfl) ?_ (by assumption) ?_
            rotate_left
            · ((intro w hSw); (try dsimp only at hSw); go_simp; (try with_reducible rfl))
            try simp only [Act.put, List.setIfInBounds_toArray, List.set_cons_zero, List.set_cons_succ]
            refine rgTake (i := 5) (d := 32) (v := ?_) rfl rfl (by kernel_rfl) (by kernel_rfl) (by kernel_rfl) (fun _ _ _ h => h) (by rfl) ?_ (by assumption) ?_
            rotate_left
            · ((intro w hSw); (try dsimp only at hSw); (obtain ⟨⟨x0, x1, x2, x3⟩, y1, y2⟩ := (⟨blk4 hSw.1, hSw.2.1, hSw.2.2.1⟩ : _ ∧ _ ∧ _)); go_simp; (try with_reducible rfl))
            try simp only [Act.put, List.setIfInBounds_toArray, List.set_cons_zero, List.set_cons_succ]
            refine rgTake (i := 8) (d := 35) (v := ?_) rfl rfl (by kernel_rfl) (by kernel_rfl) (by kernel_rfl) (fun _ _ _ h => h) (by rfl) ?_ (by assumption) ?_
            rotate_left
            · ((intro w hSw); (try dsimp only at hSw); go_simp; (try with_reducible rfl))
            try simp only [Act.put, List.setIfInBounds_toArray, List.set_cons_zero, List.set_cons_succ]
            refine rgTake (i := 9) (d := 36) (v := ?_) rfl rfl (by kernel_rfl) (by kernel_rfl) (by kernel_rfl) (fun _ _ _ h => h) (by rfl) ?_ (by assumption) ?_
            rotate_left
            · ((intro w hSw); (try dsimp only at hSw); (obtain ⟨⟨x0, x1, x2, x3⟩, y1, y2⟩ := (⟨blk4 hSw.1, hSw.2.1, hSw.2.2.1⟩ : _ ∧ _ ∧ _)); go_simp; (try with_reducible rfl))
            try simp only [Act.put, List.setIfInBounds_toArray, List.set_cons_zero, List.set_cons_succ]
            refine rgTake (i := 10) (d := 37) (v := ?_) rfl rfl (by kernel_rfl) (by kernel_rfl) (by kernel_rfl) (fun _ _ _ h => h) (by rfl) ?_ (by assumption) ?_
            rotate_left
            · ((intro w hSw); (try dsimp only at hSw); go_simp; (try with_reducible rfl))
            try simp only [Act.put, List.setIfInBounds_toArray, List.set_cons_zero, List.set_cons_succ]
            refine rgTake (i := 11) (d := 38) (v := ?_) rfl rfl (by kernel_rfl) (by kernel_rfl) (by kernel_rfl) (fun _ _ _ h => h) (by rfl) ?_ (by assumption) ?_
            rotate_left
            · ((intro w hSw); (try dsimp only at hSw); go_simp; (try with_reducible rfl))
            try simp only [Act.put, List.setIfInBounds_toArray, List.set_cons_zero, List.set_cons_succ]
            refine rgTake (i := 12) (d := 39) (v := ?_) rfl rfl (by kernel_rfl) (by kernel_rfl) (by kernel_rfl) (fun _ _ _ h => h) (by rfl) ?_ (by assumption) ?_
            rotate_left
            · ((intro w hSw); (try dsimp only at hSw); (obtain ⟨⟨x0, x1, x2, x3⟩, y1, y2⟩ := (⟨blk4 hSw.1, hSw.2.1, hSw.2.2.1⟩ : _ ∧ _ ∧ _)); go_simp; (try with_reducible rfl))
            try simp only [Act.put, List.setIfInBounds_toArray, List.set_cons_zero, List.set_cons_succ]
            refine wpAnyH_ready (rs := [6]) (by kernel_rfl) (by simp) ?_
            refine AllReadyH.cons rfl (fun K hK => ?_) AllReadyH.nil
            go_simp
            refine (l1Num_any (by omega) (by omega)).mono ?_; rintro e w9 ⟨rfl, hb9⟩
            go_wp2_with fail
            refine hK.out _ _ ?_ (fun hHeld => ?_)
            · (try dsimp only)
              exact HS9 _ (hHeld.1.on hb9) (hHeld.2.2.2.1.trans (hb9.mono hHeld.2.2.2.1.size)) (by have := hHeld.2.2.2.2.size; have := hb9.size; omega) (hHeld.2.2.2.2.trans (hb9.mono hHeld.2.2.2.2.size))
            clear hK K
            try simp only [Act.put, List.setIfInBounds_toArray, List.set_cons_zero, List.set_cons_succ]
            refine rgTake (i := 7) (d := 34) (v := ?_) rfl rfl (by kernel_rfl) (by kernel_rfl) (by kernel_rfl) (fun _ _ _ h => h) (by rfl) ?_ (by assumption) ?_
            rotate_left
            · ((intro w hSw); (try dsimp only at hSw); go_simp; (try with_reducible rfl))
            try simp only [Act.put, List.setIfInBounds_toArray, List.set_cons_zero, List.set_cons_succ]
            refine wpAnyH_ready (rs := [13]) (by kernel_rfl) (by simp) ?_
            refine AllReadyH.cons rfl (fun K hK => ?_) AllReadyH.nil
            go_simp
            refine (l1Num_any (by omega) (by omega)).mono ?_; rintro e w9 ⟨rfl, hb9⟩
            go_wp2_with fail
            refine hK.out _ _ ?_ (fun hHeld => ?_)
            · (try dsimp only)
              exact HS9 _ (hHeld.1.on hb9) (hHeld.2.2.2.1.trans (hb9.mono hHeld.2.2.2.1.size)) (by have := hHeld.2.2.2.2.size; have := hb9.size; omega) (hHeld.2.2.2.2.trans (hb9.mono hHeld.2.2.2.2.size))
            clear hK K
            try simp only [Act.put, List.setIfInBounds_toArray, List.set_cons_zero, List.set_cons_succ]
            refine rgTake (i := 14) (d := 41) (v := ?_) rfl rfl (by kernel_rfl) (by kernel_rfl) (by kernel_rfl) (fun _ _ _ h => h) (by rfl) ?_ (by assumption) ?_
            rotate_left
            · ((intro w hSw); (try dsimp only at hSw); go_simp; (try with_reducible rfl))
            try simp only [Act.put, List.setIfInBounds_toArray, List.set_cons_zero, List.set_cons_succ]
            refine rgTake (i := 15) (d := 4) (v := ?_) rfl rfl (by kernel_rfl) (by kernel_rfl) (by kernel_rfl) (fun _ _ _ h => h) (by rfl) ?_ (by assumption) ?_
            rotate_left
            · ((intro w hSw); (try dsimp only at hSw); go_simp; (try with_reducible rfl))
            try simp only [Act.put, List.setIfInBounds_toArray, List.set_cons_zero, List.set_cons_succ]
            refine wpAnyH_done (by kernel_rfl) ?_ _
            obtain ⟨x0, x1, x2, x3⟩ := blk4 hHeld.1
            go_wp2_with fail
            go_quiet (fail)
            go_wp2_with fail
            go_roundw
            case rel => exact ⟨c + 1, by omega, by go_num, by rw [HL2.out], HNX.out HBF.out, hHeld.1.drewN _, below_drewN hHeld.2.2.2.1 _⟩
            case measure => simp [intOf]; omega
        · by_cases hrv : rv = 0
          · have hcv0 : cv = 0 := by omega
            subst hcv0
            have HWX : Hid (wd = (⟨#[35, 35]⟩ : ByteArray)) := (by rw [HWR.out, if_neg (by omega)] : wd = _)
            have HBF : Hid (bd = false) := (by rw [HBA.out, hrv]; rfl : bd = false)
            have s0 : ¬ 9223372036854775807 < TT.size + 2 := by omega
            have s1 : ¬ 9223372036854775807 < TT.size + 2 + 1 := by omega
            clear HWR HBA HBD
            by_cases hme : md = W - 1
            · have HL2 : Hid (l2T m (c + 1) = (TT) ++ (⟨#[35, 35]⟩ : ByteArray) ++ (⟨#[10]⟩ : ByteArray)) := (by rw [HLT.out, if_pos hme, if_neg hm0, HWX.out] : l2T m (c + 1) = _)
              have hmd2 : (((md : Nat) : Int) == ((W - 1 : Nat) : Int)) = true := by simp; omega
              go_wp2_with fail
              go_quiet (fail)
              go_wp2_with fail
              go_roundw
              case rel => exact ⟨c + 1, by omega, by go_num, by rw [HL2.out], HNX.out HBF.out, K.drewN _, below_drewN G _⟩
              case measure => simp [intOf]; omega
            · have HL2 : Hid (l2T m (c + 1) = (TT) ++ (⟨#[35, 35]⟩ : ByteArray)) := (by rw [HLT.out, if_neg hme, if_neg hm0, HWX.out] : l2T m (c + 1) = _)
              have hmd2 : (((md : Nat) : Int) == ((W - 1 : Nat) : Int)) = false := by simp; omega
              go_wp2_with fail
              go_quiet (fail)
              go_wp2_with fail
              go_roundw
              case rel => exact ⟨c + 1, by omega, by go_num, by rw [HL2.out], HNX.out HBF.out, K.drewN _, below_drewN G _⟩
              case measure => simp [intOf]; omega
          · have hcv0 : cv = 0 := by omega
            subst hcv0
            have HBF : Hid (mtOk m = false) := HBD.out (by rw [HBA.out]; simp [hrv])
            have HE : Hid (mtV m = ⟨#[]⟩) := mt_no HBF.out
            have hrb0 : (rv == 0) = false := by simp [hrv]
            go_wp2_with fail
            go_ret2
            exact ⟨by rw [HBF.out, HE.out]; rfl, G⟩
    · have hck : c = k := by omega
      subst hck
      have hT : mtOk m = true := mt_yes OK.out (fun j hj => HN.out j (by rw [← HKL.out]; exact hj))
      have HE : Hid (mtOk m = true ∧ mtV m = l2T m c) := ⟨hT, by rw [mt_v hT, HKL.out]⟩
      clear hT HN
      go_wp2_with fail
      go_ret2
      exact ⟨by rw [HE.out.1, HE.out.2]; rfl, G⟩
theorem MapText_spec {m : Mp} {v : Value} {w : World} (hv : MapIn w m v) :
    Calls Tryd.prog 53 #[v] w fun e w' => e = .returned (.tuple #[.string (mtV m), .bool (mtOk m)]) ∧ Below w.heap.size w w' := by
  have HM : ∀ W : World, Below w.heap.size w W → _ := fun W hb => l2Map_m (hv.on hb)
  have HT : ∀ W : World, Below w.heap.size w W → okM m = true → _ := fun W hb ok => l2Text_any (hv.on hb) ok
  obtain ⟨A, n, cp, B, k, d, rfl, h1, h2, h3, h4⟩ := hv
  have K0 := Blk.new w 47 [.int .i64 m.wd, .int .i64 m.ht, .slice A n cp, .slice B k d]
  have G0 : Below w.heap.size w (w.alloc (.cells #[.int .i64 m.wd, .int .i64 m.ht, .slice A n cp, .slice B k d] 47)) := (by repeat (first | exact Below.refl _ _ | refine below_drewN ?_ _ | refine Below.drew ?_ | refine Below.alloc ?_ (by first | omega | (simp; done) | (simp; omega)) _ | refine Below.setCell ?_ (by first | omega | (simp; done) | (simp; omega)) _))
  obtain ⟨k0, k1, k2, k3⟩ := blk4 K0
  cases ok : okM m
  · rw [ok] at HM
    have e1 := mt_inv ok
    rw [mt_no e1, e1]
    clear e1 ok HT
    go_enter Tryd.func53, Tryd.ntmps53
    go_wp2_with fail
    refine (HM _ G0).mono ?_
    rintro e w1 ⟨rfl, hb⟩
    go_wp2_with fail
    go_ret2
    exact ⟨rfl, G0.trans (hb.mono G0.size)⟩
  · rw [ok] at HM
    have OK := Lib.hid ok
    clear ok
    go_enter Tryd.func53, Tryd.ntmps53
    go_wp2_with fail
    refine (HM _ G0).mono ?_
    rintro e w1 ⟨rfl, hb⟩
    have G := G0.trans (hb.mono G0.size)
    have K := K0.on hb
    clear hb k0 k1 k2 k3 K0 G0
    obtain ⟨k0, k1, k2, k3⟩ := blk4 K
    go_wp2_with fail
    refine (HT _ G OK.out).mono ?_
    rintro e w2 ⟨rfl, hb⟩
    go_wp2_with fail
    go_ret2
    exact ⟨rfl, G.trans (hb.mono G.size)⟩
end Go.Proofs.YtmmpcchjalgokaaDoor
