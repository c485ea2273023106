/- The walk of FnStrings. -/
import Derived.Test.YtmmpcchjalgokaaDoorDsn
import Derived.Test.YtmmpcchjalgokaaDoorVcm
import Derived.Test.YtmmpcchjalgokaaDoorPint
import Derived.Test.YtmmpcchjalgokaaDoorStp
import Derived.Laws.IdiomStrings
import Derived.Laws.BitsAllLaws
import Derived.Lib.Strings
namespace Go.Proofs.YtmmpcchjalgokaaDoor
set_option linter.unusedVariables false
set_option linter.unusedSimpArgs false
open Go.RowKit
theorem xor_ne {a b : Nat} (hb : 0 < b) : a ^^^ b ≠ a := by
  intro e
  have h1 : a ^^^ (a ^^^ b) = b := by rw [← Nat.xor_assoc, Nat.xor_self, Nat.zero_xor]
  rw [e, Nat.xor_self] at h1
  omega
/-- The bytes of a text with one changed. -/
def nums (Y : ByteArray) : List Int := Y.data.toList.map fun b => (b.toNat : Int)
theorem nums_len (Y : ByteArray) : (nums Y).length = Y.size := by unfold nums; rw [List.length_map]; rfl
theorem str_set (Y : ByteArray) (k v : Nat) : (strOfNums ((nums Y).set k (v : Int))).data.toList = Y.data.toList.set k (UInt8.ofNat v) := by
  rw [strOfNums_data, List.map_set]
  unfold nums
  rw [List.map_map]
  congr 1
  conv => rhs; rw [← List.map_id Y.data.toList]
  apply List.map_congr_left
  intro b _
  simp
theorem fs_num {n : Int} (h : fmtOk n = true) : rdOk (fmtV n) = true ∧ rdV (fmtV n) = n := by
  have e : fmtV n = itoaB n := by unfold fmtV; rw [if_pos h]
  have hb := insideB_iff.1 h
  rw [e]
  exact rd_itoa hb.1 hb.2
theorem fmtV_size (n : Int) : (fmtV n).size ≤ 100 := by
  unfold fmtV
  split
  · next h =>
    have hb := insideB_iff.1 h
    have := itoaB_size (n := n) (by omega) (by omega)
    omega
  · show 0 ≤ 100; omega
theorem fs_seal {x : ByteArray} (h : acOk x = true) : acV x = sealB x ∧ 1 ≤ (sealB x).size ∧ (sealB x).size ≤ 4000 ∧ vcOk (acV x) = true ∧ vcV (acV x) = x := by
  have e : acV x = sealB x := by unfold acV; rw [if_pos h]
  have h2 := vc_seal h
  have h3 := (ac_imp h).2.1
  refine ⟨e, ?_, h3, by rw [e]; exact h2.1, by rw [e]; exact h2.2⟩
  have := congrArg List.length (seal_list x)
  have e3 : (sealB x).data.toList.length = (sealB x).size := rfl
  rw [e3] at this
  simp at this
  omega
theorem fs_none {x : ByteArray} (h : acOk x = false) : acV x = ⟨#[]⟩ := by unfold acV; rw [h]; rfl
/-- A byte of a sealed text is changed: it is found. -/
theorem fs_flip {x Y : ByteArray} {k v : Nat} (h : acOk x = true) (hY : Y = sealB x) (hk : k < Y.size) (hv : v < 256) (hne : v ≠ (Y[k]'hk).toNat) : vcOk (strOfNums ((nums Y).set k (v : Int))) = false := by
  subst hY
  refine vc_flip (k := k) (v := UInt8.ofNat v) h hk ?_ (str_set _ k v)
  intro e
  rw [byte_at _ k hk] at e
  have e2 : (sealB x)[k] = UInt8.ofNat v := Option.some.inj e
  apply hne
  rw [e2]
  simp
  omega
theorem conv_cells {w : World} {Z : ByteArray} {cap : Nat} {ob : Obj} (hob : ob = Obj.cells (bytesRow Z cap) 5 ((bytesRow Z cap).size, (bytesRow Z cap).size + 1)) :
    (∀ (j : Nat) (hj : j < Z.size), (w.drew.alloc ob).cell? ⟨w.heap.size, j, none⟩ = some (.int .u8 ((Z[j]'hj).toNat : Int))) ∧ (∀ j, j < Z.size → (w.drew.alloc ob).frozen? ⟨w.heap.size, j, none⟩ = false) := by
  subst hob
  constructor
  · intro j hj
    have h1 := World.cell?_alloc_mark w.drew (bytesRow Z cap) 5 ((bytesRow Z cap).size, (bytesRow Z cap).size + 1) j
    exact h1.trans (bytesRow_at Z cap j hj)
  · intro j hj
    have h1 := World.frozen?_alloc_mark w.drew (bytesRow Z cap) 5 (bytesRow Z cap).size ((bytesRow Z cap).size + 1) j
    refine h1.trans ?_
    have h2 : Z.size ≤ (bytesRow Z cap).size := by
      unfold bytesRow
      rw [Array.size_append, Array.size_map]
      exact Nat.le_add_right _ _
    rw [decide_eq_false (by omega)]; rfl
theorem back_cells {w : World} {gb kk : Nat} {vv : Int} {Z : ByteArray} (hall : ∀ (j : Nat) (hj : j < Z.size), w.cell? ⟨gb, j, none⟩ = some (.int .u8 ((Z[j]'hj).toNat : Int))) (hk : kk < Z.size) :
    ∀ i, i < Z.size → (w.setCell ⟨gb, kk, none⟩ (.int .u8 vv)).cell? ⟨gb, 0 + i, none⟩ = some (.int .u8 (((nums Z).set kk vv).getD i 0)) := by
  intro i hi
  rw [Nat.zero_add]
  have hl : i < (nums Z).length := by rw [nums_len]; exact hi
  by_cases h : kk = i
  · subst h
    rw [World.cell?_setCell_same (w := w) (a := ⟨gb, kk, none⟩) (v := .int .u8 vv) (hall kk hk)]
    simp [List.getD, hl]
  · rw [World.cell?_setCell_other (w := w) (a := ⟨gb, kk, none⟩) (b := ⟨gb, i, none⟩) (v := .int .u8 vv) (by intro e; injection e with _ e _; exact h e), hall i hi]
    have e : (nums Z)[i]? = some ((Z[i]'hi).toNat : Int) := by
      unfold nums
      rw [List.getElem?_map, byte_at Z i hi]
      rfl
    rw [List.getD_eq_getElem?_getD, List.getElem?_set_ne h, e]
    rfl
theorem zero_lt_of (s : Nat) (h : 1 ≤ s) : (s : Int) ≠ 0 := by omega
set_option maxRecDepth 100000 in
set_option maxHeartbeats 4000000 in
theorem law_Strings {R0 : Option Addr} {q0 c0 : Nat} {a0 : List Int} (w : World) (ha0 : q0 ≤ maxLen ∧ c0 ≤ maxLen ∧ a0.length = q0 ∧ Rd w w.heap.size 1 R0 q0 (a0.flatMap fun b => [Value.int .u8 b]) ∧ ∀ x ∈ a0, 0 ≤ x ∧ x ≤ 255) (TY : Tab w ∧ Syn w) :
    Calls Tryd.prog 6 #[.slice R0 q0 c0] w fun e w' => e = .returned (.bool true) ∧ Below w.heap.size w w' := by
  obtain ⟨m0, _, hq0, hR0, hl0⟩ := ha0
  obtain ⟨TA, Y⟩ := TY
  have hR : Rd w w.heap.size 1 R0 q0 (bys a0) := hR0
  have HL := Lib.hid hl0
  have HQ := Lib.hid hq0
  clear hR0 hl0 hq0
  by_cases hbig : (65536 : Int) < (q0 : Int)
  · have hd : decide ((65536 : Int) < (q0 : Int)) = true := by simpa using hbig
    go_enter Tryd.func6, Tryd.ntmps6
    go_wp2_with fail
    refine (vBig_any m0).mono ?_
    rintro e w1 ⟨rfl, G⟩
    rw [hd]
    go_wp2_with fail
    go_ret
    exact ⟨rfl, G⟩
  have hd : decide ((65536 : Int) < (q0 : Int)) = false := by simpa using hbig
  go_enter Tryd.func6, Tryd.ntmps6
  go_wp2_with fail
  refine (vBig_any m0).mono ?_
  rintro e w1 ⟨rfl, G⟩
  rw [hd]
  go_wp2_with fail
  refine (DrawFormatInt_any (hR.on G) HL.out (by omega)).mono ?_
  rintro e w2 ⟨n, rfl, hn0, hn1, hb⟩
  replace G := G.trans (hb.mono G.size)
  clear hb
  have F1 : Hid (fmtOk n = true → rdOk (fmtV n) = true ∧ rdV (fmtV n) = n) := (fun h => fs_num h : fmtOk n = true → rdOk (fmtV n) = true ∧ rdV (fmtV n) = n)
  have hs1 := fmtV_size n
  have HFI := Lib.hid (fun (W : World) (t : Tab W) => FormatInt_impl (n := n) (w := W) t)
  have HFS := Lib.hid (fun (W : World) => FormatInt_spec (n := n) (w := W))
  generalize fmtV n = S1 at *
  generalize fmtOk n = O1 at *
  go_wp2_with fail
  refine (HFI.out _ (TA.on G)).mono ?_
  rintro e w3 ⟨rfl, hb⟩
  replace G := G.trans (hb.mono G.size)
  clear hb
  go_wp2_with fail
  refine (HFS.out _).mono ?_
  rintro e w4 ⟨rfl, hb⟩
  replace G := G.trans (hb.mono G.size)
  clear hb
  clear HFI HFS
  go_wp2_with fail
  refine (DrawParseInt_any (hR.on G) HL.out (by omega)).mono ?_
  rintro e w5 ⟨t, ht, rfl, hb⟩
  replace G := G.trans (hb.mono G.size)
  clear hb
  have HPI := Lib.hid (fun (W : World) (t9 : Tab W) (y : Syn W) => ParseInt_impl (s := t) (w := W) (by omega) t9 y)
  have HPS := Lib.hid (fun (W : World) => ParseInt_spec (s := t) (w := W) (by omega))
  generalize rdV t = M at *
  generalize rdOk t = F at *
  go_wp2_with fail
  refine (HPI.out _ (TA.on G) (Y.on G)).mono ?_
  rintro e w6 ⟨rfl, hb⟩
  replace G := G.trans (hb.mono G.size)
  clear hb
  go_wp2_with fail
  refine (HPS.out _).mono ?_
  rintro e w7 ⟨rfl, hb⟩
  replace G := G.trans (hb.mono G.size)
  clear hb
  clear HPI HPS
  go_wp2_with fail
  refine (DrawAppendChecksum_any (hR.on G) HL.out (by omega)).mono ?_
  rintro e w8 ⟨x, hx, rfl, hb⟩
  replace G := G.trans (hb.mono G.size)
  clear hb
  have HAI := Lib.hid (fun (W : World) (t : Tab W) => AppendChecksum_impl (s := x) (w := W) (by omega) t)
  have HAS := Lib.hid (fun (W : World) => AppendChecksum_spec (s := x) (w := W) (by omega))
  have F2 : Hid (acOk x = true → acV x = sealB x ∧ 1 ≤ (sealB x).size ∧ (sealB x).size ≤ 4000 ∧ vcOk (acV x) = true ∧ vcV (acV x) = x) := (fun h => fs_seal h : acOk x = true → _)
  have F3 : Hid (acOk x = false → acV x = ⟨#[]⟩) := (fun h => fs_none h : acOk x = false → _)
  have F4 : Hid (acOk x = true → acOk x = true) := (fun h => h : acOk x = true → acOk x = true)
  obtain ⟨Z, hZ⟩ : ∃ Z, acV x = Z := ⟨_, rfl⟩
  obtain ⟨SL, hSL⟩ : ∃ SL, acOk x = SL := ⟨_, rfl⟩
  rw [hZ] at HAI HAS F2 F3
  rw [hSL] at HAI HAS
  have HSL := Lib.hid hSL
  clear hSL hZ F4
  go_wp2_with fail
  refine (HAI.out _ (TA.on G)).mono ?_
  rintro e w9 ⟨rfl, hb⟩
  replace G := G.trans (hb.mono G.size)
  clear hb
  go_wp2_with fail
  refine (HAS.out _).mono ?_
  rintro e w10 ⟨rfl, hb⟩
  replace G := G.trans (hb.mono G.size)
  clear hb
  clear HAI HAS
  have v1 : (S1.toList != S1.toList) = false := by simp
  have v2 : (O1 != O1) = false := by simp
  have v3 : (M != M) = false := by simp
  have v4 : (F != F) = false := by simp
  have v5 : (Z.toList != Z.toList) = false := by simp
  have v6 : (SL != SL) = false := by simp
  have HPI := Lib.hid (fun (W : World) (t9 : Tab W) (y : Syn W) => ParseInt_impl (s := S1) (w := W) (by omega) t9 y)
  generalize rdV S1 = B1 at *
  generalize rdOk S1 = T1 at *
  go_wp2_with fail
  refine (HPI.out _ (TA.on G) (Y.on G)).mono ?_
  rintro e w11 ⟨rfl, hb⟩
  replace G := G.trans (hb.mono G.size)
  clear hb
  clear HPI v1 v2 v3 v4 v5 v6
  go_upto_region 15 with (fail)
  go_cut [106] (fun z wx => z = .bool false ∧ Below w.heap.size w wx)
  case first =>
    cases O1
    · go_wp2_with fail
      go_meet
      exact ⟨rfl, G⟩
    · obtain ⟨h1, h2⟩ := F1.out rfl
      subst h1 h2
      have v7 : (B1 != B1) = false := by simp
      go_wp2_with fail
      go_meet
      exact ⟨rfl, G⟩
  case rest =>
  obtain ⟨rfl, G⟩ := hcut
  clear F1
  cases SL
  · have e1 : Z = ⟨#[]⟩ := F3.out HSL.out
    have v8 : (Z.toList == []) = true := by rw [e1, Lib.toList_data]; rfl
    have v9 : Z.toList.isEmpty = true := by rw [e1, Lib.toList_data]; rfl
    clear F2 F3 HSL e1
    go_wp2_with fail
    go_ret
    exact ⟨rfl, G⟩
  · obtain ⟨e1, s1, s2, o1, o2⟩ := F2.out HSL.out
    rw [← e1] at s1 s2
    have HAC := Lib.hid HSL.out
    have HE := Lib.hid e1
    have HV : Hid (∀ (W : World) (t : Tab W), Calls Tryd.prog 42 #[.string Z] W fun e w' => e = .returned (.tuple #[.string x, .bool true]) ∧ Below W.heap.size W w') := by
      show ∀ (W : World) (t : Tab W), _
      intro W t
      have h := VerifyChecksum_impl (s := Z) (w := W) (by omega) t
      rw [o1, o2] at h
      exact h
    clear F2 F3 HSL e1 o1 o2
    go_wp2_with fail
    refine (HV.out _ (TA.on G)).mono ?_
    rintro e w13 ⟨rfl, hb⟩
    replace G := G.trans (hb.mono G.size)
    clear hb
    clear HV
    have hcv := run_bytes_of_string (P := Tryd.prog) w13 9 28 5 Z (by kernel_rfl) (by kernel_rfl) (by kernel_rfl)
    generalize grownCap w13 Z.size 0 5 = cap at *
    obtain ⟨ob, hob⟩ : ∃ ob, ob = Obj.cells (bytesRow Z cap) 5 ((bytesRow Z cap).size, (bytesRow Z cap).size + 1) := ⟨_, rfl⟩
    obtain ⟨hce, hfz⟩ := conv_cells (w := w13) hob
    rw [← hob] at hcv
    have G14 : Below w.heap.size w (w13.drew.alloc ob) := (Below.drew G).alloc G.size ob
    have hsz14 : (w13.drew.alloc ob).heap.size = w13.heap.size + 1 := World.size_alloc _ _
    obtain ⟨w14, hw14⟩ : ∃ w14, w13.drew.alloc ob = w14 := ⟨_, rfl⟩
    rw [hw14] at hcv hce hfz G14 hsz14
    clear hw14 hob
    have hgw : w.heap.size ≤ w13.heap.size := G.size
    obtain ⟨gb, hgb⟩ : ∃ gb, w13.heap.size = gb := ⟨_, rfl⟩
    have hgb9 := hgb
    rw [hgb] at hce hfz hsz14 hgw
    have hlt14 : gb < w14.heap.size := by omega
    have ALL := Lib.hid hce
    have FRZ := Lib.hid hfz
    clear hce hfz hsz14 G
    rw [hgb] at hcv
    clear hgb hgb9
    go_wp2_with fail
    refine (vAt_any (hR.on G14) HQ.out HL.out (by omega) (by omega) (by omega)).mono ?_
    rintro e w15 ⟨r, rfl, hr0, hr1, hb⟩
    have CE : ∀ (j : Nat) (hj : j < Z.size), w15.cell? ⟨gb, j, none⟩ = some (.int .u8 ((Z[j]'hj).toNat : Int)) := fun j hj => ((bcell hb).1 gb j hlt14).trans (ALL.out j hj)
    have FE : ∀ j, j < Z.size → w15.frozen? ⟨gb, j, none⟩ = false := fun j hj => ((bcell hb).2 gb j hlt14).trans (FRZ.out j hj)
    replace G := G14.trans (hb.mono G14.size)
    replace hlt14 : gb < w15.heap.size := Nat.lt_of_lt_of_le hlt14 hb.size
    have hz0 := zero_lt_of Z.size s1
    obtain ⟨kk, hkk⟩ := Int.eq_ofNat_of_zero_le (Int.emod_nonneg r hz0)
    have hkb : kk < Z.size := by have := Int.emod_lt_of_pos r (show (0 : Int) < (Z.size : Int) by omega); omega
    have hkt : r.tmod (Z.size : Int) = (kk : Int) := by rw [Int.tmod_eq_emod_of_nonneg hr0]; exact hkk
    have hkw : IntKind.i64.wrap (kk : Int) = (kk : Int) := IntWalk.i64_in _ (by omega)
    have CL := CE kk hkb
    have FZ := FE kk hkb
    have hvb := (Z[kk]'hkb).toNat_lt
    have HN : Hid (∀ vv : Nat, vv < 256 → vv ≠ (Z[kk]'hkb).toNat → vcOk (strOfNums ((nums Z).set kk (vv : Int))) = false) := (fun vv h1 h2 => fs_flip HAC.out HE.out hkb h1 h2 : ∀ vv : Nat, vv < 256 → vv ≠ (Z[kk]'hkb).toNat → _)
    generalize (Z[kk]'hkb).toNat = v at *
    have HCE := Lib.hid CE
    clear CE FE ALL FRZ hb G14 hcv
    go_upto_region 22 with (fail)
    refine wp_region_held_drew (S := fun w' => Ch (fun j => j = gb) w15 w') (by kernel_rfl) ?_ (fun hHeld => ?_)
    · (try dsimp only)
      exact (ch_refl w15).drew
    have hre : w15.heap.size = w15.drew.heap.size := rfl; replace CL : w15.drew.cell? ⟨gb, kk, none⟩ = some (.int .u8 (v : Int)) := CL; replace FZ : w15.drew.frozen? ⟨gb, kk, none⟩ = false := FZ; replace HCE : Hid (∀ (j : Nat) (hj : j < Z.size), w15.drew.cell? ⟨gb, j, none⟩ = some (.int .u8 ((Z[j]'hj).toNat : Int))) := HCE; replace G := Below.drew G; replace hlt14 : gb < w15.drew.heap.size := hlt14; generalize w15.drew = wx at *
    refine rgTake (i := 0) (d := 123) (v := ?_) rfl rfl (by kernel_rfl) (by kernel_rfl) (by kernel_rfl) (fun _ _ _ h => h) (by rfl) ?_ (by assumption) ?_
    rotate_left
    · ((intro w hSw); (try dsimp only at hSw); go_simp; (try with_reducible rfl))
    try simp only [Act.put, List.setIfInBounds_toArray, List.set_cons_zero, List.set_cons_succ]
    refine rgTake (i := 1) (d := 124) (v := ?_) rfl rfl (by kernel_rfl) (by kernel_rfl) (by kernel_rfl) (fun _ _ _ h => h) (by rfl) ?_ (by assumption) ?_
    rotate_left
    · ((intro w hSw); (try dsimp only at hSw); go_simp; (try with_reducible rfl))
    try simp only [Act.put, List.setIfInBounds_toArray, List.set_cons_zero, List.set_cons_succ]
    refine rgTake (i := 2) (d := 125) (v := ?_) rfl rfl (by kernel_rfl) (by kernel_rfl) (by kernel_rfl) (fun _ _ _ h => h) (by rfl) ?_ (by assumption) ?_
    rotate_left
    · ((intro w hSw); (try dsimp only at hSw); go_simp; (try with_reducible rfl))
    try simp only [Act.put, List.setIfInBounds_toArray, List.set_cons_zero, List.set_cons_succ]
    refine rgTake (i := 3) (d := 126) (v := ?_) rfl rfl (by kernel_rfl) (by kernel_rfl) (by kernel_rfl) (fun _ _ _ h => h) (by rfl) ?_ (by assumption) ?_
    rotate_left
    · ((intro w hSw); (try dsimp only at hSw); go_simp; (try with_reducible rfl))
    try simp only [Act.put, List.setIfInBounds_toArray, List.set_cons_zero, List.set_cons_succ]
    refine rgTake (i := 4) (d := 127) (v := ?_) rfl rfl (by kernel_rfl) (by kernel_rfl) (by kernel_rfl) (fun _ _ _ h => h) (by rfl) ?_ (by assumption) ?_
    rotate_left
    · ((intro w hSw); (try dsimp only at hSw); go_simp; (try with_reducible rfl))
    try simp only [Act.put, List.setIfInBounds_toArray, List.set_cons_zero, List.set_cons_succ]
    refine rgTake (i := 6) (d := 129) (v := ?_) rfl rfl (by kernel_rfl) (by kernel_rfl) (by kernel_rfl) (fun _ _ _ h => h) (by rfl) ?_ (by assumption) ?_
    rotate_left
    · ((intro w hSw); (try dsimp only at hSw); go_simp; (try with_reducible rfl))
    try simp only [Act.put, List.setIfInBounds_toArray, List.set_cons_zero, List.set_cons_succ]
    refine wpAnyH_ready (rs := [5, 7]) (by kernel_rfl) (by simp) ?_
    refine AllReadyH.cons rfl (fun K hK => ?_) ?_
    ·
      go_simp
      refine hK.out _ _ ?_ (fun hHeld => ?_)
      · (try dsimp only)
        exact hHeld
      clear hK K
      try simp only [Act.put, List.setIfInBounds_toArray, List.set_cons_zero, List.set_cons_succ]
      refine wpAnyH_ready (rs := [7]) (by kernel_rfl) (by simp) ?_
      refine AllReadyH.cons rfl (fun K hK => ?_) AllReadyH.nil
      go_simp
      refine (vAt_any (hR.on G) HQ.out HL.out (by omega) (by omega) (by omega)).mono ?_; rintro e wz ⟨r2, rfl, hr2, hr3, hb⟩; have hq0 := Int.emod_nonneg r2 (show (255 : Int) ≠ 0 by omega); have hq9 := Int.emod_lt_of_pos r2 (show (0 : Int) < 255 by omega); obtain ⟨q, hq⟩ := Int.eq_ofNat_of_zero_le hq0; have hqb : q < 255 := (by omega); have hqt : r2.tmod 255 = (q : Int) := (Int.tmod_eq_emod_of_nonneg hr2).trans hq; have hqw : IntKind.i64.wrap (q : Int) = (q : Int) := IntWalk.i64_in _ (by omega); have hqw1 : IntKind.i64.wrap (1 + (q : Int)) = 1 + (q : Int) := IntWalk.i64_in _ (by omega); have hqu : IntKind.u8.wrap (1 + (q : Int)) = 1 + (q : Int) := (by have h9 := IntKind.wrap_u8 (1 + (q : Int)); omega); have hxr : bits .xor .u8 (v : Int) (1 + (q : Int)) = ((v ^^^ (1 + q) : Nat) : Int) := u8_xor_nat v (1 + q) hvb (by omega); have hxl : v ^^^ (1 + q) < 256 := Nat.xor_lt_two_pow (n := 8) (by omega) (by omega); have hxn : v ^^^ (1 + q) ≠ v := xor_ne (by omega); replace CL := ((bcell hb).1 gb kk hlt14).trans CL; replace FZ := ((bcell hb).2 gb kk hlt14).trans FZ; replace HCE : Hid (∀ (j : Nat) (hj : j < Z.size), wz.cell? ⟨gb, j, none⟩ = some (.int .u8 ((Z[j]'hj).toNat : Int))) := (fun j hj => ((bcell hb).1 gb j hlt14).trans (HCE.out j hj) : ∀ (j : Nat) (hj : j < Z.size), wz.cell? ⟨gb, j, none⟩ = some (.int .u8 ((Z[j]'hj).toNat : Int))); replace G := G.trans (hb.mono G.size); generalize v ^^^ (1 + q) = vv at *
      go_wp2_with fail
      refine hK.out _ _ ?_ (fun hHeld => ?_)
      · (try dsimp only)
        exact hHeld.trans (Ch.of_below hb)
      clear hK K
      try simp only [Act.put, List.setIfInBounds_toArray, List.set_cons_zero, List.set_cons_succ]
      refine rgTake (i := 8) (d := 131) (v := ?_) rfl rfl (by kernel_rfl) (by kernel_rfl) (by kernel_rfl) (fun _ _ _ h => h) (by rfl) ?_ (by assumption) ?_
      rotate_left
      · ((intro w hSw); (try dsimp only at hSw); go_simp; (try with_reducible rfl))
      try simp only [Act.put, List.setIfInBounds_toArray, List.set_cons_zero, List.set_cons_succ]
      refine rgTake (i := 9) (d := 132) (v := ?_) rfl rfl (by kernel_rfl) (by kernel_rfl) (by kernel_rfl) (fun _ _ _ h => h) (by rfl) ?_ (by assumption) ?_
      rotate_left
      · ((intro w hSw); (try dsimp only at hSw); go_simp; (try with_reducible rfl))
      try simp only [Act.put, List.setIfInBounds_toArray, List.set_cons_zero, List.set_cons_succ]
      refine rgTake (i := 10) (d := 133) (v := ?_) rfl rfl (by kernel_rfl) (by kernel_rfl) (by kernel_rfl) (fun _ _ _ h => h) (by rfl) ?_ (by assumption) ?_
      rotate_left
      · ((intro w hSw); (try dsimp only at hSw); go_simp; (try with_reducible rfl))
      try simp only [Act.put, List.setIfInBounds_toArray, List.set_cons_zero, List.set_cons_succ]
      refine rgTake (i := 11) (d := 134) (v := ?_) rfl rfl (by kernel_rfl) (by kernel_rfl) (by kernel_rfl) (fun _ _ _ h => h) (by rfl) ?_ (by assumption) ?_
      rotate_left
      · ((intro w hSw); (try dsimp only at hSw); go_simp; (try with_reducible rfl))
      try simp only [Act.put, List.setIfInBounds_toArray, List.set_cons_zero, List.set_cons_succ]
      refine rgTake (i := 12) (d := 135) (v := ?_) rfl rfl (by kernel_rfl) (by kernel_rfl) (by kernel_rfl) (fun _ _ _ h => h) (by rfl) ?_ (by assumption) ?_
      rotate_left
      · ((intro w hSw); (try dsimp only at hSw); go_simp; (try with_reducible rfl))
      try simp only [Act.put, List.setIfInBounds_toArray, List.set_cons_zero, List.set_cons_succ]
      refine wpAnyH_ready (rs := [13]) (by kernel_rfl) (by simp) ?_
      refine AllReadyH.cons rfl (fun K hK => ?_) AllReadyH.nil
      go_simp
      refine hK.out _ _ ?_ (fun hHeld => ?_)
      · (try dsimp only)
        exact hHeld.trans (ch_set_ _)
      clear hK K
      try simp only [Act.put, List.setIfInBounds_toArray, List.set_cons_zero, List.set_cons_succ]
      refine wpAnyH_done (by kernel_rfl) ?_ _
      have hbk := run_convert_bytes_arg (P := Tryd.prog) (wz.setCell ⟨gb, kk, none⟩ (.int .u8 (vv : Int))) 28 5 (by kernel_rfl) (by kernel_rfl) gb 0 Z.size cap ((nums Z).set kk (vv : Int)) (by rw [List.length_set, nums_len]) (back_cells HCE.out hkb) 9 (by kernel_rfl)
      have hss : (strOfNums ((nums Z).set kk (vv : Int))).size = Z.size := (by rw [strOfNums_size, List.length_set, nums_len])
      have hno := HN.out vv hxl hxn
      have HV9 := Lib.hid (fun (W : World) (t : Tab W) => VerifyChecksum_impl (s := strOfNums ((nums Z).set kk (vv : Int))) (w := W) (by omega) t)
      rw [hno] at HV9
      generalize strOfNums ((nums Z).set kk (vv : Int)) = S9 at *
      generalize vcV S9 = V9 at *
      have GE := Below.setCell G (p := ⟨gb, kk, none⟩) hgw (.int .u8 (vv : Int))
      have v8 : (x.toList == x.toList) = true := (by simp)
      go_wp2_with fail
      refine (HV9.out _ (TA.on GE)).mono ?_
      rintro e w20 ⟨rfl, hb⟩
      replace GE := GE.trans (hb.mono GE.size)
      go_wp2_with fail
      go_ret
      exact ⟨rfl, GE⟩
    refine AllReadyH.cons rfl (fun K hK => ?_) ?_
    ·
      go_simp
      refine (vAt_any (hR.on G) HQ.out HL.out (by omega) (by omega) (by omega)).mono ?_; rintro e wz ⟨r2, rfl, hr2, hr3, hb⟩; have hq0 := Int.emod_nonneg r2 (show (255 : Int) ≠ 0 by omega); have hq9 := Int.emod_lt_of_pos r2 (show (0 : Int) < 255 by omega); obtain ⟨q, hq⟩ := Int.eq_ofNat_of_zero_le hq0; have hqb : q < 255 := (by omega); have hqt : r2.tmod 255 = (q : Int) := (Int.tmod_eq_emod_of_nonneg hr2).trans hq; have hqw : IntKind.i64.wrap (q : Int) = (q : Int) := IntWalk.i64_in _ (by omega); have hqw1 : IntKind.i64.wrap (1 + (q : Int)) = 1 + (q : Int) := IntWalk.i64_in _ (by omega); have hqu : IntKind.u8.wrap (1 + (q : Int)) = 1 + (q : Int) := (by have h9 := IntKind.wrap_u8 (1 + (q : Int)); omega); have hxr : bits .xor .u8 (v : Int) (1 + (q : Int)) = ((v ^^^ (1 + q) : Nat) : Int) := u8_xor_nat v (1 + q) hvb (by omega); have hxl : v ^^^ (1 + q) < 256 := Nat.xor_lt_two_pow (n := 8) (by omega) (by omega); have hxn : v ^^^ (1 + q) ≠ v := xor_ne (by omega); replace CL := ((bcell hb).1 gb kk hlt14).trans CL; replace FZ := ((bcell hb).2 gb kk hlt14).trans FZ; replace HCE : Hid (∀ (j : Nat) (hj : j < Z.size), wz.cell? ⟨gb, j, none⟩ = some (.int .u8 ((Z[j]'hj).toNat : Int))) := (fun j hj => ((bcell hb).1 gb j hlt14).trans (HCE.out j hj) : ∀ (j : Nat) (hj : j < Z.size), wz.cell? ⟨gb, j, none⟩ = some (.int .u8 ((Z[j]'hj).toNat : Int))); replace G := G.trans (hb.mono G.size); generalize v ^^^ (1 + q) = vv at *
      go_wp2_with fail
      refine hK.out _ _ ?_ (fun hHeld => ?_)
      · (try dsimp only)
        exact hHeld.trans (Ch.of_below hb)
      clear hK K
      try simp only [Act.put, List.setIfInBounds_toArray, List.set_cons_zero, List.set_cons_succ]
      refine rgTake (i := 8) (d := 131) (v := ?_) rfl rfl (by kernel_rfl) (by kernel_rfl) (by kernel_rfl) (fun _ _ _ h => h) (by rfl) ?_ (by assumption) ?_
      rotate_left
      · ((intro w hSw); (try dsimp only at hSw); go_simp; (try with_reducible rfl))
      try simp only [Act.put, List.setIfInBounds_toArray, List.set_cons_zero, List.set_cons_succ]
      refine rgTake (i := 9) (d := 132) (v := ?_) rfl rfl (by kernel_rfl) (by kernel_rfl) (by kernel_rfl) (fun _ _ _ h => h) (by rfl) ?_ (by assumption) ?_
      rotate_left
      · ((intro w hSw); (try dsimp only at hSw); go_simp; (try with_reducible rfl))
      try simp only [Act.put, List.setIfInBounds_toArray, List.set_cons_zero, List.set_cons_succ]
      refine rgTake (i := 10) (d := 133) (v := ?_) rfl rfl (by kernel_rfl) (by kernel_rfl) (by kernel_rfl) (fun _ _ _ h => h) (by rfl) ?_ (by assumption) ?_
      rotate_left
      · ((intro w hSw); (try dsimp only at hSw); go_simp; (try with_reducible rfl))
      try simp only [Act.put, List.setIfInBounds_toArray, List.set_cons_zero, List.set_cons_succ]
      refine wpAnyH_ready (rs := [5]) (by kernel_rfl) (by simp) ?_
      refine AllReadyH.cons rfl (fun K hK => ?_) AllReadyH.nil
      go_simp
      refine hK.out _ _ ?_ (fun hHeld => ?_)
      · (try dsimp only)
        exact hHeld
      clear hK K
      try simp only [Act.put, List.setIfInBounds_toArray, List.set_cons_zero, List.set_cons_succ]
      refine rgTake (i := 11) (d := 134) (v := ?_) rfl rfl (by kernel_rfl) (by kernel_rfl) (by kernel_rfl) (fun _ _ _ h => h) (by rfl) ?_ (by assumption) ?_
      rotate_left
      · ((intro w hSw); (try dsimp only at hSw); go_simp; (try with_reducible rfl))
      try simp only [Act.put, List.setIfInBounds_toArray, List.set_cons_zero, List.set_cons_succ]
      refine rgTake (i := 12) (d := 135) (v := ?_) rfl rfl (by kernel_rfl) (by kernel_rfl) (by kernel_rfl) (fun _ _ _ h => h) (by rfl) ?_ (by assumption) ?_
      rotate_left
      · ((intro w hSw); (try dsimp only at hSw); go_simp; (try with_reducible rfl))
      try simp only [Act.put, List.setIfInBounds_toArray, List.set_cons_zero, List.set_cons_succ]
      refine wpAnyH_ready (rs := [13]) (by kernel_rfl) (by simp) ?_
      refine AllReadyH.cons rfl (fun K hK => ?_) AllReadyH.nil
      go_simp
      refine hK.out _ _ ?_ (fun hHeld => ?_)
      · (try dsimp only)
        exact hHeld.trans (ch_set_ _)
      clear hK K
      try simp only [Act.put, List.setIfInBounds_toArray, List.set_cons_zero, List.set_cons_succ]
      refine wpAnyH_done (by kernel_rfl) ?_ _
      have hbk := run_convert_bytes_arg (P := Tryd.prog) (wz.setCell ⟨gb, kk, none⟩ (.int .u8 (vv : Int))) 28 5 (by kernel_rfl) (by kernel_rfl) gb 0 Z.size cap ((nums Z).set kk (vv : Int)) (by rw [List.length_set, nums_len]) (back_cells HCE.out hkb) 9 (by kernel_rfl)
      have hss : (strOfNums ((nums Z).set kk (vv : Int))).size = Z.size := (by rw [strOfNums_size, List.length_set, nums_len])
      have hno := HN.out vv hxl hxn
      have HV9 := Lib.hid (fun (W : World) (t : Tab W) => VerifyChecksum_impl (s := strOfNums ((nums Z).set kk (vv : Int))) (w := W) (by omega) t)
      rw [hno] at HV9
      generalize strOfNums ((nums Z).set kk (vv : Int)) = S9 at *
      generalize vcV S9 = V9 at *
      have GE := Below.setCell G (p := ⟨gb, kk, none⟩) hgw (.int .u8 (vv : Int))
      have v8 : (x.toList == x.toList) = true := (by simp)
      go_wp2_with fail
      refine (HV9.out _ (TA.on GE)).mono ?_
      rintro e w20 ⟨rfl, hb⟩
      replace GE := GE.trans (hb.mono GE.size)
      go_wp2_with fail
      go_ret
      exact ⟨rfl, GE⟩
    exact AllReadyH.nil
end Go.Proofs.YtmmpcchjalgokaaDoor
