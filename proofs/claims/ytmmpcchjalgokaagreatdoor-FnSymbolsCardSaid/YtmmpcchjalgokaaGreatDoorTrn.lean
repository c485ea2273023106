/- Contracts: TurnSides, the program's and the reference's. -/
import Derived.Test.YtmmpcchjalgokaaGreatDoorFtl
namespace Go.Proofs.YtmmpcchjalgokaaGreatDoor
set_option linter.unusedVariables false
set_option linter.unusedSimpArgs false
open Go.RowKit
def w4 : List Bs := [[110, 111, 114, 116, 104], [101, 97, 115, 116], [115, 111, 117, 116, 104], [119, 101, 115, 116]]
def w4B : List ByteArray := w4.map mk
def turnS (s : ByteArray) (q : Int) : ByteArray := if Lib.idxOfS w4B s < 0 then s else w4B.getD ((Lib.idxOfS w4B s + q) % 4).toNat ByteArray.empty
theorem idx_lt (s : ByteArray) : Lib.idxOfS w4B s < 4 ∧ -1 ≤ Lib.idxOfS w4B s := by
  by_cases h : inB w4 s = true
  · have hp := (idx_pos h).2.1
    have hm : s ∈ w4B := (Lib.idxOfS_nonneg_iff _ _).1 hp
    have h4 : w4B.length = 4 := rfl
    have hq : ∃ k, k < w4B.length ∧ w4B.getD k ByteArray.empty = s ∧ ∀ j, j < k → w4B.getD j ByteArray.empty ≠ s := by
      have hex : ∃ k, k < w4B.length ∧ w4B.getD k ByteArray.empty = s := by
        obtain ⟨k, hk, e⟩ := List.mem_iff_getElem.1 hm
        exact ⟨k, hk, by simp [List.getD, List.getElem?_eq_getElem hk, e]⟩
      by_cases h0 : w4B.getD 0 ByteArray.empty = s
      · exact ⟨0, by omega, h0, fun j hj => absurd hj (by omega)⟩
      by_cases h1 : w4B.getD 1 ByteArray.empty = s
      · exact ⟨1, by omega, h1, fun j hj => by obtain rfl : j = 0 := by omega
                                               exact h0⟩
      by_cases h2 : w4B.getD 2 ByteArray.empty = s
      · exact ⟨2, by omega, h2, fun j hj => by rcases (show j = 0 ∨ j = 1 by omega) with rfl | rfl <;> assumption⟩
      by_cases h3 : w4B.getD 3 ByteArray.empty = s
      · exact ⟨3, by omega, h3, fun j hj => by rcases (show j = 0 ∨ j = 1 ∨ j = 2 by omega) with rfl | rfl | rfl <;> assumption⟩
      · obtain ⟨k, hk, e⟩ := hex
        rcases (show k = 0 ∨ k = 1 ∨ k = 2 ∨ k = 3 by omega) with rfl | rfl | rfl | rfl <;> contradiction
    obtain ⟨k, hk, e, hn⟩ := hq
    have := Lib.idxFromS_hit s w4B k 0 hk e hn
    unfold Lib.idxOfS
    omega
  · have h' : inB w4 s = false := by simpa using h
    have hn := (idx_neg h').1
    have hmiss : Lib.idxOfS w4B s = -1 := by
      unfold Lib.idxOfS
      refine Lib.idxFromS_miss s w4B 0 fun j hj e => ?_
      have : s ∈ w4B := by
        rw [← e]
        simp only [List.getD, List.getElem?_eq_getElem hj, Option.getD_some]
        exact List.getElem_mem hj
      have := (Lib.idxOfS_nonneg_iff w4B s).2 this
      have hn' : Lib.idxOfS w4B s < 0 := hn
      omega
    omega
set_option maxHeartbeats 2000000 in
theorem turnedSide_any (s : ByteArray) (q : Int) (w : World) (h0 : 0 ≤ q) (h3 : q ≤ 3) : Calls Tryz.prog 63 #[.string s, .int .i64 q] w fun e w' => e = .returned (.string (turnS s q)) ∧ Below w.heap.size w w' := by
  have B := Blk.new w 9 (strs w4B)
  have G : Below w.heap.size w (w.alloc (.cells (strs w4B).toArray 9)) := (by repeat (first | exact Below.refl _ _ | refine below_drewN ?_ _ | refine Below.drew ?_ | refine Below.alloc ?_ (by first | omega | (simp; done) | (simp; omega)) _ | refine Below.setCell ?_ (by first | omega | (simp; done) | (simp; omega)) _))
  obtain ⟨hi4, him⟩ := idx_lt s
  by_cases hn : Lib.idxOfS w4B s < 0
  · have HV : Hid (turnS s q = s) := by show _ = _; unfold turnS; rw [if_pos hn]
    have hn2 : ¬ 0 ≤ Lib.idxOfS w4B s := by omega
    have hn3 : decide (0 ≤ Lib.idxOfS w4B s) = false := by simpa using hn2
    go_enter Tryz.func63, Tryz.ntmps63
    go_wp2_with fail
    have hcI := Tryz.slices_Index_string w.heap.size 0 4 4 w4B s (w.alloc (.cells (strs w4B).toArray 9)) (by decide) (by omega) (fun j hj => by
      rw [Nat.zero_add, B.cell]
      unfold strs
      rw [List.getElem?_map, List.getElem?_eq_getElem hj]
      simp [List.getD, List.getElem?_eq_getElem hj])
    rw [show w4B.take 4 = w4B from rfl] at hcI
    refine hcI.mono ?_
    clear hcI
    rintro e w1 ⟨rfl, rfl⟩
    generalize Lib.idxOfS w4B s = ix at *
    go_wp2_with fail
    go_ret
    rw [HV.out]
    exact ⟨rfl, G⟩
  · have HV : Hid (turnS s q = w4B.getD ((Lib.idxOfS w4B s + q) % 4).toNat ByteArray.empty) := by show _ = _; unfold turnS; rw [if_neg hn]
    have hn2 : 0 ≤ Lib.idxOfS w4B s := by omega
    have hn3 : decide (Lib.idxOfS w4B s < 0) = false := by simpa using hn2
    go_enter Tryz.func63, Tryz.ntmps63
    go_wp2_with fail
    have hcI := Tryz.slices_Index_string w.heap.size 0 4 4 w4B s (w.alloc (.cells (strs w4B).toArray 9)) (by decide) (by omega) (fun j hj => by
      rw [Nat.zero_add, B.cell]
      unfold strs
      rw [List.getElem?_map, List.getElem?_eq_getElem hj]
      simp [List.getD, List.getElem?_eq_getElem hj])
    rw [show w4B.take 4 = w4B from rfl] at hcI
    refine hcI.mono ?_
    clear hcI
    rintro e w1 ⟨rfl, rfl⟩
    generalize Lib.idxOfS w4B s = ix at *
    have m0 : 0 ≤ (ix + q) % 4 := by omega
    have m4 : (ix + q) % 4 < 4 := by omega
    have cell : (w.alloc (.cells (strs w4B).toArray 9)).cell? ⟨w.heap.size, ((ix + q) % 4).toNat, none⟩ = some (.string (w4B.getD ((ix + q) % 4).toNat ByteArray.empty)) := by
      rw [B.cell]
      rcases (show ((ix + q) % 4).toNat = 0 ∨ ((ix + q) % 4).toNat = 1 ∨ ((ix + q) % 4).toNat = 2 ∨ ((ix + q) % 4).toNat = 3 by omega) with e | e | e | e <;> rw [e] <;> rfl
    have hp : IntKind.i64.wrap (ix + q) = ix + q := IntWalk.i64_in _ (by omega)
    have hb9 : 0 ≤ ix + q := by omega
    generalize w.alloc (.cells (strs w4B).toArray 9) = wb at *
    go_wp2_with fail
    go_ret
    rw [HV.out]
    exact ⟨rfl, G⟩
set_option maxHeartbeats 2000000 in
theorem l3Turn_any (s : ByteArray) (q : Int) (w : World) (h0 : 0 ≤ q) (h3 : q ≤ 3) : Calls Tryz.prog 65 #[.string s, .int .i64 q] w fun e w' => e = .returned (.string (turnS s q)) ∧ Below w.heap.size w w' := by
  have B := Blk.new w 9 (strs w4B)
  have G : Below w.heap.size w (w.alloc (.cells (strs w4B).toArray 9)) := (by repeat (first | exact Below.refl _ _ | refine below_drewN ?_ _ | refine Below.drew ?_ | refine Below.alloc ?_ (by first | omega | (simp; done) | (simp; omega)) _ | refine Below.setCell ?_ (by first | omega | (simp; done) | (simp; omega)) _))
  obtain ⟨hi4, him⟩ := idx_lt s
  by_cases hn : Lib.idxOfS w4B s < 0
  · have HV : Hid (turnS s q = s) := by show _ = _; unfold turnS; rw [if_pos hn]
    have hn2 : ¬ 0 ≤ Lib.idxOfS w4B s := by omega
    have hn3 : decide (0 ≤ Lib.idxOfS w4B s) = false := by simpa using hn2
    go_enter Tryz.func65, Tryz.ntmps65
    go_wp2_with fail
    refine (l3At_any (B.rd2 (n := 4) rfl B.lt) (by omega)).mono ?_
    rintro e w1 ⟨rfl, rfl⟩
    generalize Lib.idxOfS w4B s = ix at *
    go_wp2_with fail
    go_ret
    rw [HV.out]
    exact ⟨rfl, G⟩
  · have HV : Hid (turnS s q = w4B.getD ((Lib.idxOfS w4B s + q) % 4).toNat ByteArray.empty) := by show _ = _; unfold turnS; rw [if_neg hn]
    have hn2 : 0 ≤ Lib.idxOfS w4B s := by omega
    have hn3 : decide (Lib.idxOfS w4B s < 0) = false := by simpa using hn2
    go_enter Tryz.func65, Tryz.ntmps65
    go_wp2_with fail
    refine (l3At_any (B.rd2 (n := 4) rfl B.lt) (by omega)).mono ?_
    rintro e w1 ⟨rfl, rfl⟩
    generalize Lib.idxOfS w4B s = ix at *
    have m0 : 0 ≤ (ix + q) % 4 := by omega
    have m4 : (ix + q) % 4 < 4 := by omega
    have cell : (w.alloc (.cells (strs w4B).toArray 9)).cell? ⟨w.heap.size, ((ix + q) % 4).toNat, none⟩ = some (.string (w4B.getD ((ix + q) % 4).toNat ByteArray.empty)) := by
      rw [B.cell]
      rcases (show ((ix + q) % 4).toNat = 0 ∨ ((ix + q) % 4).toNat = 1 ∨ ((ix + q) % 4).toNat = 2 ∨ ((ix + q) % 4).toNat = 3 by omega) with e | e | e | e <;> rw [e] <;> rfl
    have hp : IntKind.i64.wrap (ix + q) = ix + q := IntWalk.i64_in _ (by omega)
    have hb9 : 0 ≤ ix + q := by omega
    generalize w.alloc (.cells (strs w4B).toArray 9) = wb at *
    go_wp2_with fail
    go_ret
    rw [HV.out]
    exact ⟨rfl, G⟩
def ftZ : Ft := ⟨0, ⟨#[]⟩, ⟨#[]⟩, ⟨#[]⟩, ⟨#[]⟩⟩
def tsOk (f : Ft) (q : Int) : Bool := okFt f && insideB q 0 3
def tsF (f : Ft) (q : Int) : Ft := { f with which := turnS f.which q, side := turnS f.side q }
def tsR (f : Ft) (q : Int) : Ft := if tsOk f q = true then tsF f q else ftZ
def put5 (cs : List Value) (f : Ft) : List Value := ((((cs.set 0 (.int .i64 f.code)).set 1 (.string f.which)).set 2 (.string f.what)).set 3 (.string f.look)).set 4 (.string f.side)
theorem Blk.put5 {w : World} {g : Nat} {t : TypeId} {cs : List Value} (h : Blk w g t cs) (f : Ft) : Blk (World.setCell (World.setCell (World.setCell (World.setCell (World.setCell w ⟨g, 0, none⟩ (.int .i64 f.code)) ⟨g, 1, none⟩ (.string f.which)) ⟨g, 2, none⟩ (.string f.what)) ⟨g, 3, none⟩ (.string f.look)) ⟨g, 4, none⟩ (.string f.side)) g t (put5 cs f) := ((((h.set_ 0 _).set_ 1 _).set_ 2 _).set_ 3 _).set_ 4 _
theorem below_put5 {B g : Nat} {w0 w : World} (h : Below B w0 w) (hg : B ≤ g) (f : Ft) : Below B w0 (World.setCell (World.setCell (World.setCell (World.setCell (World.setCell w ⟨g, 0, none⟩ (.int .i64 f.code)) ⟨g, 1, none⟩ (.string f.which)) ⟨g, 2, none⟩ (.string f.what)) ⟨g, 3, none⟩ (.string f.look)) ⟨g, 4, none⟩ (.string f.side)) :=
  Below.setCell (Below.setCell (Below.setCell (Below.setCell (Below.setCell h hg _) hg _) hg _) hg _) hg _
theorem put5_cells (f g : Ft) : put5 f.cells g = g.cells := rfl
set_option maxRecDepth 100000 in
set_option maxHeartbeats 8000000 in
theorem TurnSides_impl (f : Ft) (q : Int) (w : World) : Calls Tryz.prog 14 #[.agg #[.int .i64 f.code, .string f.which, .string f.what, .string f.look, .string f.side], .int .i64 q] w fun e w' => e = .returned (.tuple #[.agg #[.int .i64 (tsR f q).code, .string (tsR f q).which, .string (tsR f q).what, .string (tsR f q).look, .string (tsR f q).side], .bool (tsOk f q)]) ∧ Below w.heap.size w w' := by
  obtain ⟨K, Z⟩ := two_newT w 25 25 [.int .i64 f.code, .string f.which, .string f.what, .string f.look, .string f.side] ftZ.cells
  have G : Below w.heap.size w ((w.alloc (.cells #[.int .i64 f.code, .string f.which, .string f.what, .string f.look, .string f.side] 25)).alloc (.cells ftZ.cells.toArray 25)) := (by repeat (first | exact Below.refl _ _ | refine below_drewN ?_ _ | refine Below.drew ?_ | refine Below.alloc ?_ (by first | omega | (simp; done) | (simp; omega)) _ | refine Below.setCell ?_ (by first | omega | (simp; done) | (simp; omega)) _))
  obtain ⟨k0, k1, k2, k3, k4⟩ := blk5 K
  cases hok : okFt f
  · have e1 : tsOk f q = false := by unfold tsOk; rw [hok]; rfl
    have e2 : tsR f q = ftZ := by unfold tsR; rw [e1]; rfl
    rw [e1, e2]; clear e1 e2
    have HOK := Lib.hid hok
    clear hok
    go_enter Tryz.func14, Tryz.ntmps14
    go_wp2_with fail
    refine (IsFeature_impl f _).mono ?_
    rintro e w1 ⟨rfl, hb⟩
    replace K := K.on hb
    replace Z := Z.on hb
    replace G := G.trans (hb.mono G.size)
    clear hb k0 k1 k2 k3 k4
    rw [HOK.out]
    go_upto_region 2 with (fail)
    obtain ⟨z0, z1, z2, z3, z4⟩ := blk5 Z
    have f0 := Z.frozen 0
    have f1 := Z.frozen 1
    have f2 := Z.frozen 2
    have f3 := Z.frozen 3
    have f4 := Z.frozen 4
    have Z2 := Z.put5 ftZ
    obtain ⟨q0, q1, q2, q3, q4⟩ := blk5 (show Blk _ _ _ (Ft.cells ftZ) from Z2)
    have GP := below_put5 G (Nat.le_succ w.heap.size) ftZ
    clear Z2
    simp only [ftZ] at q0 q1 q2 q3 q4 GP
    go_wp2_with fail
    refine bodyPost_ret (v := .tuple #[.agg #[.int .i64 0, .string ⟨#[]⟩, .string ⟨#[]⟩, .string ⟨#[]⟩, .string ⟨#[]⟩], .bool false]) (by simp [results, Tryz.results14, go_sem, q0, q1, q2, q3, q4]) rfl ⟨rfl, GP⟩
  have HOK := Lib.hid hok
  cases hin : insideB q 0 3
  · have e1 : tsOk f q = false := by unfold tsOk; rw [hok, hin]; rfl
    have e2 : tsR f q = ftZ := by unfold tsR; rw [e1]; rfl
    rw [e1, e2]; clear e1 e2
    have HIN := Lib.hid hin
    clear hok hin
    go_enter Tryz.func14, Tryz.ntmps14
    go_wp2_with fail
    refine (IsFeature_impl f _).mono ?_
    rintro e w1 ⟨rfl, hb⟩
    replace K := K.on hb
    replace Z := Z.on hb
    replace G := G.trans (hb.mono G.size)
    clear hb k0 k1 k2 k3 k4
    rw [HOK.out]
    go_wp2_with fail
    refine (inside_any _ _ _ _).mono ?_
    rintro e w2 ⟨rfl, rfl⟩
    rw [HIN.out]
    go_upto_region 2 with (fail)
    obtain ⟨z0, z1, z2, z3, z4⟩ := blk5 Z
    have f0 := Z.frozen 0
    have f1 := Z.frozen 1
    have f2 := Z.frozen 2
    have f3 := Z.frozen 3
    have f4 := Z.frozen 4
    have Z2 := Z.put5 ftZ
    obtain ⟨q0, q1, q2, q3, q4⟩ := blk5 (show Blk _ _ _ (Ft.cells ftZ) from Z2)
    have GP := below_put5 G (Nat.le_succ w.heap.size) ftZ
    clear Z2
    simp only [ftZ] at q0 q1 q2 q3 q4 GP
    go_wp2_with fail
    refine bodyPost_ret (v := .tuple #[.agg #[.int .i64 0, .string ⟨#[]⟩, .string ⟨#[]⟩, .string ⟨#[]⟩, .string ⟨#[]⟩], .bool false]) (by simp [results, Tryz.results14, go_sem, q0, q1, q2, q3, q4]) rfl ⟨rfl, GP⟩
  have e1 : tsOk f q = true := by unfold tsOk; rw [hok, hin]; rfl
  have e2 : tsR f q = tsF f q := by unfold tsR; rw [e1]; rfl
  rw [e1, e2]; clear e1 e2
  have HIN := Lib.hid hin
  obtain ⟨hq0, hq3⟩ := insideB_iff.1 hin
  clear hok hin
  go_enter Tryz.func14, Tryz.ntmps14
  go_wp2_with fail
  refine (IsFeature_impl f _).mono ?_
  rintro e w1 ⟨rfl, hb⟩
  replace K := K.on hb
  replace Z := Z.on hb
  replace G := G.trans (hb.mono G.size)
  clear hb k0 k1 k2 k3 k4
  rw [HOK.out]
  go_wp2_with fail
  refine (inside_any _ _ _ _).mono ?_
  rintro e w2 ⟨rfl, rfl⟩
  rw [HIN.out]
  go_upto_region 3 with (fail)
  go_cut [22] (fun _ wx => Blk wx w.heap.size 25 (tsF f q).cells ∧ Blk wx (w.heap.size + 1) 25 ftZ.cells ∧ Below w.heap.size w wx)
  case first =>
    have KB := K.drew
    clear K
    replace Z := Z.drew
    obtain ⟨k0, k1, k2, k3, k4⟩ := blk5 KB
    refine wp_region_held_drew (S := fun w' => Below w.heap.size w w') (by kernel_rfl) ?_ (fun hHeld => ?_)
    · (try dsimp only)
      exact G.drew
    refine rgTake (i := 0) (d := 15) (v := ?_) rfl rfl (by kernel_rfl) (by kernel_rfl) (by kernel_rfl) (fun _ _ _ h => h) (by rfl) ?_ (by assumption) ?_
    rotate_left
    · ((intro w hSw); (try dsimp only at hSw); go_simp; (try with_reducible rfl))
    try simp only [Act.put, List.setIfInBounds_toArray, List.set_cons_zero, List.set_cons_succ]
    refine rgTake (i := 2) (d := 17) (v := ?_) rfl rfl (by kernel_rfl) (by kernel_rfl) (by kernel_rfl) (fun _ _ _ h => h) (by rfl) ?_ (by assumption) ?_
    rotate_left
    · ((intro w hSw); (try dsimp only at hSw); go_simp; (try with_reducible rfl))
    try simp only [Act.put, List.setIfInBounds_toArray, List.set_cons_zero, List.set_cons_succ]
    refine rgTake (i := 4) (d := 19) (v := ?_) rfl rfl (by kernel_rfl) (by kernel_rfl) (by kernel_rfl) (fun _ _ _ h => h) (by rfl) ?_ (by assumption) ?_
    rotate_left
    · ((intro w hSw); (try dsimp only at hSw); go_simp; (try with_reducible rfl))
    try simp only [Act.put, List.setIfInBounds_toArray, List.set_cons_zero, List.set_cons_succ]
    refine rgTake (i := 6) (d := 21) (v := ?_) rfl rfl (by kernel_rfl) (by kernel_rfl) (by kernel_rfl) (fun _ _ _ h => h) (by rfl) ?_ (by assumption) ?_
    rotate_left
    · ((intro w hSw); (try dsimp only at hSw); go_simp; (try with_reducible rfl))
    try simp only [Act.put, List.setIfInBounds_toArray, List.set_cons_zero, List.set_cons_succ]
    refine wpAnyH_ready (rs := [1, 5]) (by kernel_rfl) (by simp) ?_
    refine AllReadyH.cons rfl (fun K hK => ?_) ?_
    ·
      go_simp
      refine hK.out _ _ ?_ (fun hHeld => ?_)
      · (try dsimp only)
        exact hHeld
      clear hK K
      try simp only [Act.put, List.setIfInBounds_toArray, List.set_cons_zero, List.set_cons_succ]
      refine wpAnyH_ready (rs := [3, 5]) (by kernel_rfl) (by simp) ?_
      refine AllReadyH.cons rfl (fun K hK => ?_) ?_
      ·
        go_simp
        refine (turnedSide_any f.which q _ hq0 hq3).mono ?_; rintro e wy ⟨rfl, hb6⟩; replace KB := KB.on hb6; replace Z := Z.on hb6; obtain ⟨k0, k1, k2, k3, k4⟩ := blk5 KB; have kf1 := KB.frozen 1; have kf4 := KB.frozen 4
        go_wp2_with fail
        refine hK.out _ _ ?_ (fun hHeld => ?_)
        · (try dsimp only)
          exact hHeld.trans (hb6.mono hHeld.size)
        clear hK K
        try simp only [Act.put, List.setIfInBounds_toArray, List.set_cons_zero, List.set_cons_succ]
        refine wpAnyH_ready (rs := [5]) (by kernel_rfl) (by simp) ?_
        refine AllReadyH.cons rfl (fun K hK => ?_) AllReadyH.nil
        go_simp
        refine hK.out _ _ ?_ (fun hHeld => ?_)
        · (try dsimp only)
          exact hHeld
        clear hK K
        try simp only [Act.put, List.setIfInBounds_toArray, List.set_cons_zero, List.set_cons_succ]
        refine rgTake (i := 8) (d := 23) (v := ?_) rfl rfl (by kernel_rfl) (by kernel_rfl) (by kernel_rfl) (fun _ _ _ h => h) (by rfl) ?_ (by assumption) ?_
        rotate_left
        · ((intro w hSw); (try dsimp only at hSw); go_simp; (try with_reducible rfl))
        try simp only [Act.put, List.setIfInBounds_toArray, List.set_cons_zero, List.set_cons_succ]
        refine wpAnyH_ready (rs := [7]) (by kernel_rfl) (by simp) ?_
        refine AllReadyH.cons rfl (fun K hK => ?_) AllReadyH.nil
        go_simp
        refine (turnedSide_any f.side q _ hq0 hq3).mono ?_; rintro e wy ⟨rfl, hb6⟩; replace KB := KB.on hb6; replace Z := Z.on hb6; obtain ⟨k0, k1, k2, k3, k4⟩ := blk5 KB; have kf1 := KB.frozen 1; have kf4 := KB.frozen 4
        go_wp2_with fail
        refine hK.out _ _ ?_ (fun hHeld => ?_)
        · (try dsimp only)
          exact hHeld.trans (hb6.mono hHeld.size)
        clear hK K
        try simp only [Act.put, List.setIfInBounds_toArray, List.set_cons_zero, List.set_cons_succ]
        refine wpAnyH_ready (rs := [9]) (by kernel_rfl) (by simp) ?_
        refine AllReadyH.cons rfl (fun K hK => ?_) AllReadyH.nil
        go_simp
        refine hK.out _ _ ?_ (fun hHeld => ?_)
        · (try dsimp only)
          exact Below.setCell hHeld (Nat.le_refl _) _
        clear hK K
        try simp only [Act.put, List.setIfInBounds_toArray, List.set_cons_zero, List.set_cons_succ]
        refine rgTake (i := 10) (d := 24) (v := ?_) rfl rfl (by kernel_rfl) (by kernel_rfl) (by kernel_rfl) (fun _ _ _ h => h) (by rfl) ?_ (by assumption) ?_
        rotate_left
        · ((intro w hSw); (try dsimp only at hSw); go_simp; (try with_reducible rfl))
        try simp only [Act.put, List.setIfInBounds_toArray, List.set_cons_zero, List.set_cons_succ]
        refine wpAnyH_ready (rs := [11]) (by kernel_rfl) (by simp) ?_
        refine AllReadyH.cons rfl (fun K hK => ?_) AllReadyH.nil
        go_simp
        refine hK.out _ _ ?_ (fun hHeld => ?_)
        · (try dsimp only)
          exact Below.setCell hHeld (Nat.le_refl _) _
        clear hK K
        try simp only [Act.put, List.setIfInBounds_toArray, List.set_cons_zero, List.set_cons_succ]
        refine wpAnyH_done (by kernel_rfl) ?_ _
        go_wp2_with fail
        go_meet
        first | exact ⟨(KB.set_ 1 (.string (turnS f.which q))).set_ 4 (.string (turnS f.side q)), (Z.far (by simp) _).far (by simp) _, hHeld⟩ | exact ⟨(KB.set_ 4 (.string (turnS f.side q))).set_ 1 (.string (turnS f.which q)), (Z.far (by simp) _).far (by simp) _, hHeld⟩
      refine AllReadyH.cons rfl (fun K hK => ?_) ?_
      ·
        go_simp
        refine hK.out _ _ ?_ (fun hHeld => ?_)
        · (try dsimp only)
          exact hHeld
        clear hK K
        try simp only [Act.put, List.setIfInBounds_toArray, List.set_cons_zero, List.set_cons_succ]
        refine wpAnyH_ready (rs := [3]) (by kernel_rfl) (by simp) ?_
        refine AllReadyH.cons rfl (fun K hK => ?_) AllReadyH.nil
        go_simp
        refine (turnedSide_any f.which q _ hq0 hq3).mono ?_; rintro e wy ⟨rfl, hb6⟩; replace KB := KB.on hb6; replace Z := Z.on hb6; obtain ⟨k0, k1, k2, k3, k4⟩ := blk5 KB; have kf1 := KB.frozen 1; have kf4 := KB.frozen 4
        go_wp2_with fail
        refine hK.out _ _ ?_ (fun hHeld => ?_)
        · (try dsimp only)
          exact hHeld.trans (hb6.mono hHeld.size)
        clear hK K
        try simp only [Act.put, List.setIfInBounds_toArray, List.set_cons_zero, List.set_cons_succ]
        refine rgTake (i := 8) (d := 23) (v := ?_) rfl rfl (by kernel_rfl) (by kernel_rfl) (by kernel_rfl) (fun _ _ _ h => h) (by rfl) ?_ (by assumption) ?_
        rotate_left
        · ((intro w hSw); (try dsimp only at hSw); go_simp; (try with_reducible rfl))
        try simp only [Act.put, List.setIfInBounds_toArray, List.set_cons_zero, List.set_cons_succ]
        refine wpAnyH_ready (rs := [7]) (by kernel_rfl) (by simp) ?_
        refine AllReadyH.cons rfl (fun K hK => ?_) AllReadyH.nil
        go_simp
        refine (turnedSide_any f.side q _ hq0 hq3).mono ?_; rintro e wy ⟨rfl, hb6⟩; replace KB := KB.on hb6; replace Z := Z.on hb6; obtain ⟨k0, k1, k2, k3, k4⟩ := blk5 KB; have kf1 := KB.frozen 1; have kf4 := KB.frozen 4
        go_wp2_with fail
        refine hK.out _ _ ?_ (fun hHeld => ?_)
        · (try dsimp only)
          exact hHeld.trans (hb6.mono hHeld.size)
        clear hK K
        try simp only [Act.put, List.setIfInBounds_toArray, List.set_cons_zero, List.set_cons_succ]
        refine wpAnyH_ready (rs := [9]) (by kernel_rfl) (by simp) ?_
        refine AllReadyH.cons rfl (fun K hK => ?_) AllReadyH.nil
        go_simp
        refine hK.out _ _ ?_ (fun hHeld => ?_)
        · (try dsimp only)
          exact Below.setCell hHeld (Nat.le_refl _) _
        clear hK K
        try simp only [Act.put, List.setIfInBounds_toArray, List.set_cons_zero, List.set_cons_succ]
        refine rgTake (i := 10) (d := 24) (v := ?_) rfl rfl (by kernel_rfl) (by kernel_rfl) (by kernel_rfl) (fun _ _ _ h => h) (by rfl) ?_ (by assumption) ?_
        rotate_left
        · ((intro w hSw); (try dsimp only at hSw); go_simp; (try with_reducible rfl))
        try simp only [Act.put, List.setIfInBounds_toArray, List.set_cons_zero, List.set_cons_succ]
        refine wpAnyH_ready (rs := [11]) (by kernel_rfl) (by simp) ?_
        refine AllReadyH.cons rfl (fun K hK => ?_) AllReadyH.nil
        go_simp
        refine hK.out _ _ ?_ (fun hHeld => ?_)
        · (try dsimp only)
          exact Below.setCell hHeld (Nat.le_refl _) _
        clear hK K
        try simp only [Act.put, List.setIfInBounds_toArray, List.set_cons_zero, List.set_cons_succ]
        refine wpAnyH_done (by kernel_rfl) ?_ _
        go_wp2_with fail
        go_meet
        first | exact ⟨(KB.set_ 1 (.string (turnS f.which q))).set_ 4 (.string (turnS f.side q)), (Z.far (by simp) _).far (by simp) _, hHeld⟩ | exact ⟨(KB.set_ 4 (.string (turnS f.side q))).set_ 1 (.string (turnS f.which q)), (Z.far (by simp) _).far (by simp) _, hHeld⟩
      exact AllReadyH.nil
    refine AllReadyH.cons rfl (fun K hK => ?_) ?_
    ·
      go_simp
      refine hK.out _ _ ?_ (fun hHeld => ?_)
      · (try dsimp only)
        exact hHeld
      clear hK K
      try simp only [Act.put, List.setIfInBounds_toArray, List.set_cons_zero, List.set_cons_succ]
      refine wpAnyH_ready (rs := [1]) (by kernel_rfl) (by simp) ?_
      refine AllReadyH.cons rfl (fun K hK => ?_) AllReadyH.nil
      go_simp
      refine hK.out _ _ ?_ (fun hHeld => ?_)
      · (try dsimp only)
        exact hHeld
      clear hK K
      try simp only [Act.put, List.setIfInBounds_toArray, List.set_cons_zero, List.set_cons_succ]
      refine wpAnyH_ready (rs := [3]) (by kernel_rfl) (by simp) ?_
      refine AllReadyH.cons rfl (fun K hK => ?_) AllReadyH.nil
      go_simp
      refine (turnedSide_any f.which q _ hq0 hq3).mono ?_; rintro e wy ⟨rfl, hb6⟩; replace KB := KB.on hb6; replace Z := Z.on hb6; obtain ⟨k0, k1, k2, k3, k4⟩ := blk5 KB; have kf1 := KB.frozen 1; have kf4 := KB.frozen 4
      go_wp2_with fail
      refine hK.out _ _ ?_ (fun hHeld => ?_)
      · (try dsimp only)
        exact hHeld.trans (hb6.mono hHeld.size)
      clear hK K
      try simp only [Act.put, List.setIfInBounds_toArray, List.set_cons_zero, List.set_cons_succ]
      refine rgTake (i := 8) (d := 23) (v := ?_) rfl rfl (by kernel_rfl) (by kernel_rfl) (by kernel_rfl) (fun _ _ _ h => h) (by rfl) ?_ (by assumption) ?_
      rotate_left
      · ((intro w hSw); (try dsimp only at hSw); go_simp; (try with_reducible rfl))
      try simp only [Act.put, List.setIfInBounds_toArray, List.set_cons_zero, List.set_cons_succ]
      refine wpAnyH_ready (rs := [7]) (by kernel_rfl) (by simp) ?_
      refine AllReadyH.cons rfl (fun K hK => ?_) AllReadyH.nil
      go_simp
      refine (turnedSide_any f.side q _ hq0 hq3).mono ?_; rintro e wy ⟨rfl, hb6⟩; replace KB := KB.on hb6; replace Z := Z.on hb6; obtain ⟨k0, k1, k2, k3, k4⟩ := blk5 KB; have kf1 := KB.frozen 1; have kf4 := KB.frozen 4
      go_wp2_with fail
      refine hK.out _ _ ?_ (fun hHeld => ?_)
      · (try dsimp only)
        exact hHeld.trans (hb6.mono hHeld.size)
      clear hK K
      try simp only [Act.put, List.setIfInBounds_toArray, List.set_cons_zero, List.set_cons_succ]
      refine wpAnyH_ready (rs := [9]) (by kernel_rfl) (by simp) ?_
      refine AllReadyH.cons rfl (fun K hK => ?_) AllReadyH.nil
      go_simp
      refine hK.out _ _ ?_ (fun hHeld => ?_)
      · (try dsimp only)
        exact Below.setCell hHeld (Nat.le_refl _) _
      clear hK K
      try simp only [Act.put, List.setIfInBounds_toArray, List.set_cons_zero, List.set_cons_succ]
      refine rgTake (i := 10) (d := 24) (v := ?_) rfl rfl (by kernel_rfl) (by kernel_rfl) (by kernel_rfl) (fun _ _ _ h => h) (by rfl) ?_ (by assumption) ?_
      rotate_left
      · ((intro w hSw); (try dsimp only at hSw); go_simp; (try with_reducible rfl))
      try simp only [Act.put, List.setIfInBounds_toArray, List.set_cons_zero, List.set_cons_succ]
      refine wpAnyH_ready (rs := [11]) (by kernel_rfl) (by simp) ?_
      refine AllReadyH.cons rfl (fun K hK => ?_) AllReadyH.nil
      go_simp
      refine hK.out _ _ ?_ (fun hHeld => ?_)
      · (try dsimp only)
        exact Below.setCell hHeld (Nat.le_refl _) _
      clear hK K
      try simp only [Act.put, List.setIfInBounds_toArray, List.set_cons_zero, List.set_cons_succ]
      refine wpAnyH_done (by kernel_rfl) ?_ _
      go_wp2_with fail
      go_meet
      first | exact ⟨(KB.set_ 1 (.string (turnS f.which q))).set_ 4 (.string (turnS f.side q)), (Z.far (by simp) _).far (by simp) _, hHeld⟩ | exact ⟨(KB.set_ 4 (.string (turnS f.side q))).set_ 1 (.string (turnS f.which q)), (Z.far (by simp) _).far (by simp) _, hHeld⟩
    exact AllReadyH.nil
  case rest =>
    obtain ⟨K, Z, G⟩ := hcut
    obtain ⟨k0, k1, k2, k3, k4⟩ := blk5 K
    simp only [tsF] at k0 k1 k2 k3 k4
    obtain ⟨z0, z1, z2, z3, z4⟩ := blk5 Z
    have f0 := Z.frozen 0
    have f1 := Z.frozen 1
    have f2 := Z.frozen 2
    have f3 := Z.frozen 3
    have f4 := Z.frozen 4
    have Z2 := Z.put5 (tsF f q)
    obtain ⟨q0, q1, q2, q3, q4⟩ := blk5 (show Blk _ _ _ (Ft.cells (tsF f q)) from Z2)
    have GP := below_put5 G (Nat.le_succ w.heap.size) (tsF f q)
    clear Z2
    simp only [tsF] at q0 q1 q2 q3 q4 GP
    go_wp2_with fail
    refine bodyPost_ret (v := .tuple #[.agg #[.int .i64 f.code, .string (turnS f.which q), .string f.what, .string f.look, .string (turnS f.side q)], .bool true]) (by simp [results, Tryz.results14, go_sem, q0, q1, q2, q3, q4]) rfl ⟨rfl, GP⟩
set_option maxRecDepth 100000 in
set_option maxHeartbeats 8000000 in
theorem TurnSides_spec (f : Ft) (q : Int) (w : World) : Calls Tryz.prog 15 #[.agg #[.int .i64 f.code, .string f.which, .string f.what, .string f.look, .string f.side], .int .i64 q] w fun e w' => e = .returned (.tuple #[.agg #[.int .i64 (tsR f q).code, .string (tsR f q).which, .string (tsR f q).what, .string (tsR f q).look, .string (tsR f q).side], .bool (tsOk f q)]) ∧ Below w.heap.size w w' := by
  obtain ⟨K, Z⟩ := two_newT w 25 25 [.int .i64 f.code, .string f.which, .string f.what, .string f.look, .string f.side] ftZ.cells
  have G : Below w.heap.size w ((w.alloc (.cells #[.int .i64 f.code, .string f.which, .string f.what, .string f.look, .string f.side] 25)).alloc (.cells ftZ.cells.toArray 25)) := (by repeat (first | exact Below.refl _ _ | refine below_drewN ?_ _ | refine Below.drew ?_ | refine Below.alloc ?_ (by first | omega | (simp; done) | (simp; omega)) _ | refine Below.setCell ?_ (by first | omega | (simp; done) | (simp; omega)) _))
  obtain ⟨k0, k1, k2, k3, k4⟩ := blk5 K
  cases hok : okFt f
  · have e1 : tsOk f q = false := by unfold tsOk; rw [hok]; rfl
    have e2 : tsR f q = ftZ := by unfold tsR; rw [e1]; rfl
    rw [e1, e2]; clear e1 e2
    have HOK := Lib.hid hok
    clear hok
    go_enter Tryz.func15, Tryz.ntmps15
    go_wp2_with fail
    refine (l3One_any f _).mono ?_
    rintro e w1 ⟨rfl, hb⟩
    replace K := K.on hb
    replace Z := Z.on hb
    replace G := G.trans (hb.mono G.size)
    clear hb k0 k1 k2 k3 k4
    rw [HOK.out]
    go_upto_region 2 with (fail)
    obtain ⟨z0, z1, z2, z3, z4⟩ := blk5 Z
    have f0 := Z.frozen 0
    have f1 := Z.frozen 1
    have f2 := Z.frozen 2
    have f3 := Z.frozen 3
    have f4 := Z.frozen 4
    have Z2 := Z.put5 ftZ
    obtain ⟨q0, q1, q2, q3, q4⟩ := blk5 (show Blk _ _ _ (Ft.cells ftZ) from Z2)
    have GP := below_put5 G (Nat.le_succ w.heap.size) ftZ
    clear Z2
    simp only [ftZ] at q0 q1 q2 q3 q4 GP
    go_wp2_with fail
    refine bodyPost_ret (v := .tuple #[.agg #[.int .i64 0, .string ⟨#[]⟩, .string ⟨#[]⟩, .string ⟨#[]⟩, .string ⟨#[]⟩], .bool false]) (by simp [results, Tryz.results15, go_sem, q0, q1, q2, q3, q4]) rfl ⟨rfl, GP⟩
  have HOK := Lib.hid hok
  cases hin : insideB q 0 3
  · have e1 : tsOk f q = false := by unfold tsOk; rw [hok, hin]; rfl
    have e2 : tsR f q = ftZ := by unfold tsR; rw [e1]; rfl
    rw [e1, e2]; clear e1 e2
    have HIN := Lib.hid hin
    clear hok hin
    go_enter Tryz.func15, Tryz.ntmps15
    go_wp2_with fail
    refine (l3One_any f _).mono ?_
    rintro e w1 ⟨rfl, hb⟩
    replace K := K.on hb
    replace Z := Z.on hb
    replace G := G.trans (hb.mono G.size)
    clear hb k0 k1 k2 k3 k4
    rw [HOK.out]
    go_wp2_with fail
    refine (l1In_any _ _ _ _).mono ?_
    rintro e w2 ⟨rfl, rfl⟩
    rw [HIN.out]
    go_upto_region 2 with (fail)
    obtain ⟨z0, z1, z2, z3, z4⟩ := blk5 Z
    have f0 := Z.frozen 0
    have f1 := Z.frozen 1
    have f2 := Z.frozen 2
    have f3 := Z.frozen 3
    have f4 := Z.frozen 4
    have Z2 := Z.put5 ftZ
    obtain ⟨q0, q1, q2, q3, q4⟩ := blk5 (show Blk _ _ _ (Ft.cells ftZ) from Z2)
    have GP := below_put5 G (Nat.le_succ w.heap.size) ftZ
    clear Z2
    simp only [ftZ] at q0 q1 q2 q3 q4 GP
    go_wp2_with fail
    refine bodyPost_ret (v := .tuple #[.agg #[.int .i64 0, .string ⟨#[]⟩, .string ⟨#[]⟩, .string ⟨#[]⟩, .string ⟨#[]⟩], .bool false]) (by simp [results, Tryz.results15, go_sem, q0, q1, q2, q3, q4]) rfl ⟨rfl, GP⟩
  have e1 : tsOk f q = true := by unfold tsOk; rw [hok, hin]; rfl
  have e2 : tsR f q = tsF f q := by unfold tsR; rw [e1]; rfl
  rw [e1, e2]; clear e1 e2
  have HIN := Lib.hid hin
  obtain ⟨hq0, hq3⟩ := insideB_iff.1 hin
  clear hok hin
  go_enter Tryz.func15, Tryz.ntmps15
  go_wp2_with fail
  refine (l3One_any f _).mono ?_
  rintro e w1 ⟨rfl, hb⟩
  replace K := K.on hb
  replace Z := Z.on hb
  replace G := G.trans (hb.mono G.size)
  clear hb k0 k1 k2 k3 k4
  rw [HOK.out]
  go_wp2_with fail
  refine (l1In_any _ _ _ _).mono ?_
  rintro e w2 ⟨rfl, rfl⟩
  rw [HIN.out]
  go_upto_region 3 with (fail)
  replace Z := Z.drew
  refine wp_region_held_drew (S := fun w' => Blk w' w.heap.size 25 [.int .i64 f.code, .string f.which, .string f.what, .string f.look, .string f.side] ∧ Below w.heap.size w w') (by kernel_rfl) ?_ (fun hHeld => ?_)
  · (try dsimp only)
    exact ⟨K.drew, G.drew⟩
  refine rgTake (i := 0) (d := 15) (v := ?_) rfl rfl (by kernel_rfl) (by kernel_rfl) (by kernel_rfl) (fun _ _ _ h => h) (by rfl) ?_ (by assumption) ?_
  rotate_left
  · ((intro w hSw); (try dsimp only at hSw); go_simp; (try with_reducible rfl))
  try simp only [Act.put, List.setIfInBounds_toArray, List.set_cons_zero, List.set_cons_succ]
  refine rgTake (i := 1) (d := 16) (v := ?_) rfl rfl (by kernel_rfl) (by kernel_rfl) (by kernel_rfl) (fun _ _ _ h => h) (by rfl) ?_ (by assumption) ?_
  rotate_left
  · ((intro w hSw); (try dsimp only at hSw); (obtain ⟨k0, k1, k2, k3, k4⟩ := blk5 hSw.1); go_simp; (try with_reducible rfl))
  try simp only [Act.put, List.setIfInBounds_toArray, List.set_cons_zero, List.set_cons_succ]
  refine rgTake (i := 2) (d := 17) (v := ?_) rfl rfl (by kernel_rfl) (by kernel_rfl) (by kernel_rfl) (fun _ _ _ h => h) (by rfl) ?_ (by assumption) ?_
  rotate_left
  · ((intro w hSw); (try dsimp only at hSw); go_simp; (try with_reducible rfl))
  try simp only [Act.put, List.setIfInBounds_toArray, List.set_cons_zero, List.set_cons_succ]
  refine rgTake (i := 3) (d := 18) (v := ?_) rfl rfl (by kernel_rfl) (by kernel_rfl) (by kernel_rfl) (fun _ _ _ h => h) (by rfl) ?_ (by assumption) ?_
  rotate_left
  · ((intro w hSw); (try dsimp only at hSw); (obtain ⟨k0, k1, k2, k3, k4⟩ := blk5 hSw.1); go_simp; (try with_reducible rfl))
  try simp only [Act.put, List.setIfInBounds_toArray, List.set_cons_zero, List.set_cons_succ]
  refine rgTake (i := 4) (d := 19) (v := ?_) rfl rfl (by kernel_rfl) (by kernel_rfl) (by kernel_rfl) (fun _ _ _ h => h) (by rfl) ?_ (by assumption) ?_
  rotate_left
  · ((intro w hSw); (try dsimp only at hSw); go_simp; (try with_reducible rfl))
  try simp only [Act.put, List.setIfInBounds_toArray, List.set_cons_zero, List.set_cons_succ]
  refine rgTake (i := 6) (d := 21) (v := ?_) rfl rfl (by kernel_rfl) (by kernel_rfl) (by kernel_rfl) (fun _ _ _ h => h) (by rfl) ?_ (by assumption) ?_
  rotate_left
  · ((intro w hSw); (try dsimp only at hSw); go_simp; (try with_reducible rfl))
  try simp only [Act.put, List.setIfInBounds_toArray, List.set_cons_zero, List.set_cons_succ]
  refine rgTake (i := 7) (d := 22) (v := ?_) rfl rfl (by kernel_rfl) (by kernel_rfl) (by kernel_rfl) (fun _ _ _ h => h) (by rfl) ?_ (by assumption) ?_
  rotate_left
  · ((intro w hSw); (try dsimp only at hSw); (obtain ⟨k0, k1, k2, k3, k4⟩ := blk5 hSw.1); go_simp; (try with_reducible rfl))
  try simp only [Act.put, List.setIfInBounds_toArray, List.set_cons_zero, List.set_cons_succ]
  refine rgTake (i := 8) (d := 23) (v := ?_) rfl rfl (by kernel_rfl) (by kernel_rfl) (by kernel_rfl) (fun _ _ _ h => h) (by rfl) ?_ (by assumption) ?_
  rotate_left
  · ((intro w hSw); (try dsimp only at hSw); go_simp; (try with_reducible rfl))
  try simp only [Act.put, List.setIfInBounds_toArray, List.set_cons_zero, List.set_cons_succ]
  refine rgTake (i := 9) (d := 24) (v := ?_) rfl rfl (by kernel_rfl) (by kernel_rfl) (by kernel_rfl) (fun _ _ _ h => h) (by rfl) ?_ (by assumption) ?_
  rotate_left
  · ((intro w hSw); (try dsimp only at hSw); (obtain ⟨k0, k1, k2, k3, k4⟩ := blk5 hSw.1); go_simp; (try with_reducible rfl))
  try simp only [Act.put, List.setIfInBounds_toArray, List.set_cons_zero, List.set_cons_succ]
  refine rgTake (i := 10) (d := 25) (v := ?_) rfl rfl (by kernel_rfl) (by kernel_rfl) (by kernel_rfl) (fun _ _ _ h => h) (by rfl) ?_ (by assumption) ?_
  rotate_left
  · ((intro w hSw); (try dsimp only at hSw); go_simp; (try with_reducible rfl))
  try simp only [Act.put, List.setIfInBounds_toArray, List.set_cons_zero, List.set_cons_succ]
  refine rgTake (i := 11) (d := 26) (v := ?_) rfl rfl (by kernel_rfl) (by kernel_rfl) (by kernel_rfl) (fun _ _ _ h => h) (by rfl) ?_ (by assumption) ?_
  rotate_left
  · ((intro w hSw); (try dsimp only at hSw); (obtain ⟨k0, k1, k2, k3, k4⟩ := blk5 hSw.1); go_simp; (try with_reducible rfl))
  try simp only [Act.put, List.setIfInBounds_toArray, List.set_cons_zero, List.set_cons_succ]
  refine rgTake (i := 12) (d := 27) (v := ?_) rfl rfl (by kernel_rfl) (by kernel_rfl) (by kernel_rfl) (fun _ _ _ h => h) (by rfl) ?_ (by assumption) ?_
  rotate_left
  · ((intro w hSw); (try dsimp only at hSw); go_simp; (try with_reducible rfl))
  try simp only [Act.put, List.setIfInBounds_toArray, List.set_cons_zero, List.set_cons_succ]
  refine wpAnyH_ready (rs := [5]) (by kernel_rfl) (by simp) ?_
  refine AllReadyH.cons rfl (fun K hK => ?_) AllReadyH.nil
  go_simp
  refine (l3Turn_any f.which q _ hq0 hq3).mono ?_; rintro e wy ⟨rfl, hb6⟩; replace Z := Z.on hb6
  go_wp2_with fail
  refine hK.out _ _ ?_ (fun hHeld => ?_)
  · (try dsimp only)
    exact ⟨hHeld.1.on hb6, hHeld.2.trans (hb6.mono hHeld.2.size)⟩
  clear hK K
  try simp only [Act.put, List.setIfInBounds_toArray, List.set_cons_zero, List.set_cons_succ]
  refine wpAnyH_ready (rs := [13]) (by kernel_rfl) (by simp) ?_
  refine AllReadyH.cons rfl (fun K hK => ?_) AllReadyH.nil
  go_simp
  refine (l3Turn_any f.side q _ hq0 hq3).mono ?_; rintro e wy ⟨rfl, hb6⟩; replace Z := Z.on hb6
  go_wp2_with fail
  refine hK.out _ _ ?_ (fun hHeld => ?_)
  · (try dsimp only)
    exact ⟨hHeld.1.on hb6, hHeld.2.trans (hb6.mono hHeld.2.size)⟩
  clear hK K
  try simp only [Act.put, List.setIfInBounds_toArray, List.set_cons_zero, List.set_cons_succ]
  refine rgTake (i := 14) (d := 29) (v := ?_) rfl rfl (by kernel_rfl) (by kernel_rfl) (by kernel_rfl) (fun _ _ _ h => h) (by rfl) ?_ (by assumption) ?_
  rotate_left
  · ((intro w hSw); (try dsimp only at hSw); go_simp; (try with_reducible rfl))
  try simp only [Act.put, List.setIfInBounds_toArray, List.set_cons_zero, List.set_cons_succ]
  refine wpAnyH_ready (rs := [15]) (by kernel_rfl) (by simp) ?_
  refine AllReadyH.cons rfl (fun K hK => ?_) AllReadyH.nil
  (have G := hHeld.2); obtain ⟨z0, z1, z2, z3, z4⟩ := blk5 Z; have f0 := Z.frozen 0; have f1 := Z.frozen 1; have f2 := Z.frozen 2; have f3 := Z.frozen 3; have f4 := Z.frozen 4; have Z2 := Z.put5 (tsF f q); obtain ⟨q0, q1, q2, q3, q4⟩ := blk5 (show Blk _ _ _ (Ft.cells (tsF f q)) from Z2); have GP := below_put5 G (Nat.le_succ w.heap.size) (tsF f q); clear Z2; simp only [tsF] at q0 q1 q2 q3 q4 GP; go_simp
  refine hK.out _ _ ?_ (fun hHeld => ?_)
  · (try dsimp only)
    exact ⟨((((((hHeld.1.far (by simp) _).far (by simp) _).far (by simp) _).far (by simp) _).far (by simp) _)), GP⟩
  clear hK K
  try simp only [Act.put, List.setIfInBounds_toArray, List.set_cons_zero, List.set_cons_succ]
  refine rgTake (i := 16) (d := 5) (v := ?_) rfl rfl (by kernel_rfl) (by kernel_rfl) (by kernel_rfl) (fun _ _ _ h => h) (by rfl) ?_ (by assumption) ?_
  rotate_left
  · ((intro w hSw); (try dsimp only at hSw); go_simp; (try with_reducible rfl))
  try simp only [Act.put, List.setIfInBounds_toArray, List.set_cons_zero, List.set_cons_succ]
  refine wpAnyH_done (by kernel_rfl) ?_ _
  go_wp2_with fail
  refine bodyPost_ret (v := .tuple #[.agg #[.int .i64 f.code, .string (turnS f.which q), .string f.what, .string f.look, .string (turnS f.side q)], .bool true]) (by simp [results, Tryz.results15, go_sem, q0, q1, q2, q3, q4]) rfl ⟨rfl, GP⟩
end Go.Proofs.YtmmpcchjalgokaaGreatDoor
