/- Contracts: ParseMap, the reference's. -/
import Derived.Test.YtmmpcchjalgokaaDoorPmw
import Derived.Test.YtmmpcchjalgokaaDoorApp
namespace Go.Proofs.YtmmpcchjalgokaaDoor
set_option linter.unusedVariables false
set_option linter.unusedSimpArgs false
open Go.RowKit
/-- Texts that lie in a block. -/
def StrAt (w : World) (g : Nat) (l : List ByteArray) : Prop := g < w.heap.size ∧ ∀ (j : Nat) (hj : j < l.length), w.cell? ⟨g, j, none⟩ = some (.string l[j])
theorem cell_same {w w' : World} {g j : Nat} (h : w'.heap[g]? = w.heap[g]?) : w'.cell? ⟨g, j, none⟩ = w.cell? ⟨g, j, none⟩ := by
  unfold World.cell?
  rw [h]
theorem StrAt.on {w w' : World} {g : Nat} {l : List ByteArray} (h : StrAt w g l) (hb : Below w.heap.size w w') : StrAt w' g l :=
  ⟨Nat.lt_of_lt_of_le h.1 hb.size, fun j hj => (hb.cell (p := ⟨g, j, none⟩) h.1).trans (h.2 j hj)⟩
theorem StrAt.alloc {w : World} {g : Nat} {l : List ByteArray} (h : StrAt w g l) (o : Obj) : StrAt (w.alloc o) g l := h.on (Below.alloc (Below.refl _ _) (Nat.le_refl _) o)
theorem StrAt.far {w : World} {g : Nat} {l : List ByteArray} (h : StrAt w g l) {p : Addr} (hp : g ≠ p.block) (u : Value) : StrAt (w.setCell p u) g l :=
  ⟨by have := h.1; simpa using this, fun j hj => (World.cell?_setCell_far w p ⟨g, j, none⟩ u (fun e => hp e.symm)).trans (h.2 j hj)⟩
theorem StrAt.grown {w w' : World} {g : Nat} {l : List ByteArray} {row : Option Nat} (h : StrAt w g l) (hb : w.grownBy w' row) (hg : some g ≠ row) : StrAt w' g l :=
  ⟨Nat.lt_of_lt_of_le h.1 hb.size, fun j hj => (cell_same (hb.block g h.1 hg)).trans (h.2 j hj)⟩
theorem StrAt.of {w : World} {base n c : Nat} {A : Option Addr} {l : List ByteArray} (h : w.ownsRow base 9 1 (.slice A n c) n (strs l)) (hn : 0 < n) : ∃ g, A = some ⟨g, 0, none⟩ ∧ base ≤ g ∧ StrAt w g l := by
  obtain ⟨g, e, h1, h2⟩ := own_at h hn
  subst e
  refine ⟨g, rfl, h1, h2, fun j hj => ?_⟩
  obtain ⟨b, o, e9, _, hc⟩ := (Rd.of_own h).2 hn
  have e8 : g = b ∧ 0 = o := by simpa using e9
  have := hc j (.string l[j]) (by simp [strs, hj])
  rw [← e8.1, ← e8.2, Nat.zero_add] at this
  exact this
theorem Two.pushR {w w1 : World} {base X : Nat} {A A' B : Option Addr} {n c d m cap : Nat} {xs ys : List Int} {x : Int} (h : Two w base X A B n c d xs ys m) (hX : X < w.heap.size)
    (hown : w1.ownsRow base 3 1 (.slice A' (n + 1) cap) (n + 1) (ints (xs ++ [x]))) (hgrow : w.grownBy w1 (Value.ownBlock (.slice A n c))) (hat : ∀ g : Nat, Value.ownBlock (.slice A' (n + 1) cap) = some g → Value.ownBlock (.slice A n c) = some g ∨ w.heap.size ≤ g) :
    Two w1 base X A' B (n + 1) cap d (xs ++ [x]) ys m := by
  have hc : Ch (fun k => Value.ownBlock (.slice A n c) = some k) w w1 := Ch.of_grown hgrow (fun _ h => h)
  refine ⟨hown, own_ch h.ob hc (fun k hk h2 => h.ab k h2 hk), fun k hk h2 => ?_, fun h2 => ?_, h.bx⟩
  · rcases hat k hk with e | e
    · exact h.ab k e h2
    · have := (h.ob.lt k h2).2; omega
  · rcases hat X h2 with e | e
    · exact h.ax e
    · omega
theorem ms_bad1 {s : ByteArray} (h : 120 < s.size) : pmOk s = false ∧ pmV s = zM := pm_fail fun m h1 h2 => by
  have := (pm_key h1 h2).size
  omega
theorem ms_bad2 {s : ByteArray} (h : (cuts s 10).length < 2) : pmOk s = false ∧ pmV s = zM := pm_fail fun m h1 h2 => by
  have K := pm_key h1 h2
  have := K.low.1; have := K.len
  omega
theorem ms_bad3 {s : ByteArray} {y j : Nat} (hy : y + 1 < (cuts s 10).length) (hj : j < (cuts (cuts s 10)[y] 32).length) (h : (cuts (cuts s 10)[y] 32)[j].size ≠ 2) : pmOk s = false ∧ pmV s = zM := pm_fail fun m h1 h2 => by
  have K := pm_key h1 h2
  exact h (K.good _ (wsT_mem (L := cuts s 10) (y := y) (by omega) (by omega) (List.getElem_mem hj))).1
theorem ms_bad4 {s : ByteArray} (h : okM (canS s) = false) : pmOk s = false ∧ pmV s = zM := pm_fail fun m h1 h2 => by
  have V := (mt_ok h1).1
  rw [(pm_key h1 h2).candS, valid_iff.2 V] at h; cases h
theorem ms_bad5 {s : ByteArray} (h : mtOk (canS s) = false) : pmOk s = false ∧ pmV s = zM := pm_fail fun m h1 h2 => by
  rw [(pm_key h1 h2).candS, h1] at h; cases h
theorem ms_bad6 {s : ByteArray} (h : decide (mtV (canS s) = s) = false) : pmOk s = false ∧ pmV s = zM := pm_fail fun m h1 h2 => by
  rw [(pm_key h1 h2).candS, decide_eq_false_iff_not] at h
  exact h h2
set_option maxRecDepth 100000 in
set_option maxHeartbeats 8000000 in
theorem ParseMap_spec {s : ByteArray} {w : World} (hs : s.size ≤ 1048576) :
    Calls Tryd.prog 27 #[.string s] w fun e w' => MapEnd w (pmV s) (pmOk s) e w' := by
  have HCL := Lib.hid (cuts_len s 10)
  have HCS := Lib.hid (cuts_sz6 s 10)
  have Z := Blk.new w 47 [.int .i64 0, .int .i64 0, .slice none 0 0, .slice none 0 0]
  have G : Below w.heap.size w (w.alloc (.cells #[.int .i64 0, .int .i64 0, .slice none 0 0, .slice none 0 0] 47)) := (by repeat (first | exact Below.refl _ _ | refine below_drewN ?_ _ | refine Below.drew ?_ | refine Below.alloc ?_ (by first | omega | (simp; done) | (simp; omega)) _ | refine Below.setCell ?_ (by first | omega | (simp; done) | (simp; omega)) _))
  obtain ⟨i0, hi0, hz0, hz1, hz2⟩ := info_parts int_info
  have HSP := l1Split_any s 10 (w.alloc (.cells #[.int .i64 0, .int .i64 0, .slice none 0 0, .slice none 0 0] 47)) hs
  obtain ⟨L, hL⟩ : ∃ L, cuts s 10 = L := ⟨_, rfl⟩
  have HL := Lib.hid hL
  obtain ⟨n, hn⟩ : ∃ n, L.length = n := ⟨_, rfl⟩
  have HN := Lib.hid hn
  rw [hL, hn] at HSP
  have hn1 : 1 ≤ n ∧ n ≤ 1048577 := by have := HCL.out; rw [hL, hn] at this; omega
  have HSH := Lib.hid HSP
  clear HSP hL
  by_cases h120 : 120 < s.size
  · have HP := Lib.hid (ms_bad1 h120)
    have h120i : (120 : Int) < (s.size : Int) := by omega
    go_enter Tryd.func27, Tryd.ntmps27
    go_wp2_with fail
    refine HSH.out.mono ?_
    rintro e w1 ⟨A, cp, rfl, O, hb⟩
    replace Z := Z.on hb
    replace G := G.trans (hb.mono G.size)
    clear hb O
    obtain ⟨z0, z1, z2, z3⟩ := blk4 Z
    have f0 := Z.frozen 0; have f1 := Z.frozen 1; have f2 := Z.frozen 2; have f3 := Z.frozen 3
    have Z2 := (((Z.set_ 0 (.int .i64 0)).set_ 1 (.int .i64 0)).set_ 2 (.slice none 0 0)).set_ 3 (.slice none 0 0)
    obtain ⟨q0, q1, q2, q3⟩ := blk4 Z2
    have GP := Below.setCell (Below.setCell (Below.setCell (Below.setCell G (p := ⟨w.heap.size, 0, none⟩) (Nat.le_refl _) (.int .i64 0)) (p := ⟨w.heap.size, 1, none⟩) (Nat.le_refl _) (.int .i64 0)) (p := ⟨w.heap.size, 2, none⟩) (Nat.le_refl _) (.slice none 0 0)) (p := ⟨w.heap.size, 3, none⟩) (Nat.le_refl _) (.slice none 0 0)
    clear Z2
    go_wp2_with fail
    refine bodyPost_ret (v := .tuple #[.agg #[.int .i64 0, .int .i64 0, .slice none 0 0, .slice none 0 0], .bool false]) ?_ ?_ ?_
    · simp [results, Tryd.results27, go_sem, q0, q1, q2, q3]
    · rfl
    rw [HP.out.1, HP.out.2]
    exact mapEnd_zero GP
  have h120i : ¬ (120 : Int) < (s.size : Int) := by omega
  by_cases hn2 : n < 2
  · have HP := Lib.hid (ms_bad2 (s := s) (by rw [HL.out, HN.out]; exact hn2))
    have hn2i : (n : Int) < 2 := by omega
    go_enter Tryd.func27, Tryd.ntmps27
    go_wp2_with fail
    refine HSH.out.mono ?_
    rintro e w1 ⟨A, cp, rfl, O, hb⟩
    replace Z := Z.on hb
    replace G := G.trans (hb.mono G.size)
    clear hb O
    obtain ⟨z0, z1, z2, z3⟩ := blk4 Z
    have f0 := Z.frozen 0; have f1 := Z.frozen 1; have f2 := Z.frozen 2; have f3 := Z.frozen 3
    have Z2 := (((Z.set_ 0 (.int .i64 0)).set_ 1 (.int .i64 0)).set_ 2 (.slice none 0 0)).set_ 3 (.slice none 0 0)
    obtain ⟨q0, q1, q2, q3⟩ := blk4 Z2
    have GP := Below.setCell (Below.setCell (Below.setCell (Below.setCell G (p := ⟨w.heap.size, 0, none⟩) (Nat.le_refl _) (.int .i64 0)) (p := ⟨w.heap.size, 1, none⟩) (Nat.le_refl _) (.int .i64 0)) (p := ⟨w.heap.size, 2, none⟩) (Nat.le_refl _) (.slice none 0 0)) (p := ⟨w.heap.size, 3, none⟩) (Nat.le_refl _) (.slice none 0 0)
    clear Z2
    go_wp2_with fail
    refine bodyPost_ret (v := .tuple #[.agg #[.int .i64 0, .int .i64 0, .slice none 0 0, .slice none 0 0], .bool false]) ?_ ?_ ?_
    · simp [results, Tryd.results27, go_sem, q0, q1, q2, q3]
    · rfl
    rw [HP.out.1, HP.out.2]
    exact mapEnd_zero GP
  obtain ⟨H, hH⟩ : ∃ H, n = H + 1 := ⟨n - 1, by omega⟩
  subst hH
  have hn2i : ¬ ((H + 1 : Nat) : Int) < 2 := by omega
  have hw1 : IntKind.i64.wrap (((H + 1 : Nat) : Int) - 1) = (H : Int) := by rw [IntWalk.i64_in _ (by omega)]; omega
  have hH121 : H ≤ 121 := by have := HCL.out; rw [HL.out, HN.out] at this; omega
  have h0L : 0 < L.length := by omega
  have h0i : (0 : Int) < ((H + 1 : Nat) : Int) := by omega
  have hsz0 : L[0].size ≤ 1048576 := by
    have := HCS.out L[0] (by rw [HL.out]; exact List.getElem_mem h0L)
    omega
  obtain ⟨l0, hl0⟩ : ∃ l0, L[0] = l0 := ⟨_, rfl⟩
  obtain ⟨W, hW⟩ : ∃ W, (cuts l0 32).length = W := ⟨_, rfl⟩
  have HW : Hid (W = (cuts (L.getD 0 ⟨#[]⟩) 32).length) := (by rw [wsJ_get h0L, hl0, hW] : W = _)
  have hWb : W ≤ 1048577 := by have := cuts_len l0 32; rw [hl0] at hsz0; omega
  rw [hl0] at hsz0
  have HS0 := fun W9 : World => l1Split_any l0 32 W9 hsz0
  rw [hW] at HS0
  have HSW := Lib.hid HS0
  clear HS0 hW
  go_enter Tryd.func27, Tryd.ntmps27
  go_wp2_with fail
  refine HSH.out.mono ?_
  rintro e w1 ⟨A, cp, rfl, O, hb⟩
  replace Z := Z.on hb
  replace G := G.trans (hb.mono G.size)
  obtain ⟨gL, hA, hgL, K⟩ := StrAt.of O (by omega)
  subst hA
  have hzl0 : w.heap.size < gL := by have h9 := hgL; rw [World.size_alloc] at h9; omega
  have c0 : w1.cell? ⟨gL, 0, none⟩ = some (.string l0) := by rw [← hl0]; exact K.2 0 h0L
  clear hb O hgL hl0 HSH
  go_wp2_with fail
  refine (HSW.out _).mono ?_
  rintro e w2 ⟨A9, cp9, rfl, _, hb⟩
  replace Z := Z.on hb
  replace K := K.on hb
  replace G := G.trans (hb.mono G.size)
  have hlz := Z.lt
  clear hb c0
  have hT := start3P w2 (.cells #[.int .i64 (W : Int), .int .i64 (H : Int), .slice (some ⟨w2.heap.size, 0, none⟩) 0 0, .slice (some ⟨w2.heap.size + 1, 0, none⟩) 0 0] 47)
  have hX := box3P w2 (.cells #[] 3) (.cells #[] 3) 47 [.int .i64 (W : Int), .int .i64 (H : Int), .slice (some ⟨w2.heap.size, 0, none⟩) 0 0, .slice (some ⟨w2.heap.size + 1, 0, none⟩) 0 0]
  have hkl0 := K.1
  replace K := ((K.alloc (.cells #[] 3)).alloc (.cells #[] 3)).alloc (.cells #[.int .i64 (W : Int), .int .i64 (H : Int), .slice (some ⟨w2.heap.size, 0, none⟩) 0 0, .slice (some ⟨w2.heap.size + 1, 0, none⟩) 0 0] 47)
  replace Z := ((Z.alloc (.cells #[] 3)).alloc (.cells #[] 3)).alloc (.cells #[.int .i64 (W : Int), .int .i64 (H : Int), .slice (some ⟨w2.heap.size, 0, none⟩) 0 0, .slice (some ⟨w2.heap.size + 1, 0, none⟩) 0 0] 47)
  have hgs := G.size
  replace G := ((G.alloc G.size (.cells #[] 3)).alloc (by simp; omega) (.cells #[] 3)).alloc (by simp; omega) (.cells #[.int .i64 (W : Int), .int .i64 (H : Int), .slice (some ⟨w2.heap.size, 0, none⟩) 0 0, .slice (some ⟨w2.heap.size + 1, 0, none⟩) 0 0] 47)
  go_wp2_with fail
  go_loopw [6] (fun i wr => ∃ (y q : Nat) (P R : Option Addr) (c e : Nat), y ≤ H ∧ i = .int .i64 y ∧ Hid (q = (wsT L y).length) ∧ q ≤ 200 * y ∧ Two wr w2.heap.size (w2.heap.size + 1 + 1) P R q c e ((wsT L y).map riS) ((wsT L y).map coS) q ∧ Blk wr (w2.heap.size + 1 + 1) 47 [.int .i64 (W : Int), .int .i64 (H : Int), .slice P q c, .slice R q e] ∧ StrAt wr gL L ∧ Blk wr w.heap.size 47 [.int .i64 0, .int .i64 0, .slice none 0 0, .slice none 0 0] ∧ Below w.heap.size w wr) (fun i _ => H - (intOf i).toNat)
  case atStart => exact ⟨0, 0, _, _, 0, 0, Nat.zero_le _, rfl, (show 0 = (wsT L 0).length by simp [wsT]), by omega, hT, hX, K, Z, G⟩
  clear hT hX K Z G
  case round =>
    obtain ⟨y, q, P, R, c, e, hy, rfl, HQ, hq37, hT, hX, K, Z, G⟩ := hrel
    have hwy : IntKind.i64.wrap ((y : Int) + 1) = (y : Int) + 1 := IntWalk.i64_in _ (by omega)
    by_cases hlt : y < H
    · have hyL : y < L.length := by omega
      have hlti : (y : Int) + 1 < ((H + 1 : Nat) : Int) := by omega
      have hlti2 : (y : Int) + 1 < (H : Int) + 1 := by omega
      have hyi : (y : Int) < ((H + 1 : Nat) : Int) := by omega
      have hyn : y < H + 1 := by omega
      have ly := K.2 y hyL
      have HB2 : Hid (∀ (j : Nat) (hj : j < (cuts L[y] 32).length), (cuts L[y] 32)[j].size ≠ 2 → pmOk s = false ∧ pmV s = zM) := (by
        have h9 := HL.out
        subst h9
        exact fun j hj h => ms_bad3 (s := s) (y := y) (by omega) hj h : ∀ (j : Nat) (hj : j < (cuts L[y] 32).length), (cuts L[y] 32)[j].size ≠ 2 → pmOk s = false ∧ pmV s = zM)
      have HJF : Hid (∀ j, (cuts L[y] 32).length = j → wsJ L y j = wsT L (y + 1)) := (fun j hj => wsJ_full hyL hj : ∀ j, (cuts L[y] 32).length = j → wsJ L y j = wsT L (y + 1))
      have HJS : Hid (∀ (j : Nat) (hj : j < (cuts L[y] 32).length), wsJ L y (j + 1) = wsJ L y j ++ [(cuts L[y] 32)[j]]) := (fun j hj => wsJ_snoc hyL hj : ∀ (j : Nat) (hj : j < (cuts L[y] 32).length), wsJ L y (j + 1) = wsJ L y j ++ [(cuts L[y] 32)[j]])
      have hlsz : L[y].size ≤ 120 := by
        have h9 := HCS.out L[y] (by rw [HL.out]; exact List.getElem_mem hyL)
        omega
      generalize L[y] = ln at *
      have HCW := Lib.hid (cuts_len ln 32)
      have HS1 := fun W9 : World => l1Split_any ln 32 W9 (by omega)
      generalize hws9 : cuts ln 32 = ws9 at *
      obtain ⟨nw, hnw⟩ : ∃ nw, ws9.length = nw := ⟨_, rfl⟩
      have HNW := Lib.hid hnw
      rw [hnw] at HS1
      have hnwb : nw ≤ 121 ∧ 1 ≤ nw := by have := HCW.out; omega
      have HSL := Lib.hid HS1
      clear HS1 hnw hws9
      go_wp2_with fail
      refine (HSL.out _).mono ?_
      rintro e2 w3 ⟨A8, cp8, rfl, OW, hb⟩
      obtain ⟨gW, hA8, hgW, KW⟩ := StrAt.of OW (by omega)
      subst hA8
      have hXl := hX.lt
      have hKl := K.1
      have hZl := Z.lt
      have NW : Value.ownBlock (.slice P q c) ≠ some gW ∧ Value.ownBlock (.slice R q e) ≠ some gW := ⟨fun h => by have := (hT.oa.lt _ h).2; omega, fun h => by have := (hT.ob.lt _ h).2; omega⟩
      replace hT := hT.on hb
      replace hX := hX.on hb
      replace K := K.on hb
      replace Z := Z.on hb
      replace G := G.trans (hb.mono G.size)
      have hXne : gW ≠ (w2.heap.size + 1 + 1) := by omega
      have hLne : gL ≠ (w2.heap.size + 1 + 1) := by omega
      clear hb OW ly HSL
      go_wp2_with fail
      go_loopw [8] (fun i wr => ∃ (j q : Nat) (P R : Option Addr) (c e : Nat), j ≤ nw ∧ i = .int .i64 j ∧ Hid (q = (wsJ L y j).length) ∧ q ≤ 200 * y + j ∧ Two wr w2.heap.size (w2.heap.size + 1 + 1) P R q c e ((wsJ L y j).map riS) ((wsJ L y j).map coS) q ∧ Blk wr (w2.heap.size + 1 + 1) 47 [.int .i64 (W : Int), .int .i64 (H : Int), .slice P q c, .slice R q e] ∧ (Value.ownBlock (.slice P q c) ≠ some gW ∧ Value.ownBlock (.slice R q e) ≠ some gW) ∧ StrAt wr gL L ∧ Blk wr w.heap.size 47 [.int .i64 0, .int .i64 0, .slice none 0 0, .slice none 0 0] ∧ StrAt wr gW ws9 ∧ Below w.heap.size w wr) (fun i _ => nw - (intOf i).toNat)
      case atStart => exact ⟨0, q, P, R, c, e, Nat.zero_le _, rfl, (show q = (wsJ L y 0).length by rw [wsJ_zero]; exact HQ.out), hq37, (by rw [wsJ_zero]; exact hT), hX, NW, K, Z, KW, G⟩
      clear hT hX K Z KW G NW HQ hq37
      case round =>
        obtain ⟨j, q, P, R, c, e, hj, rfl, HQ, hq37, hT, hX, NW, K, Z, KW, G⟩ := hrel
        by_cases hjn : j < nw
        · have hjn9 : j < ws9.length := by rw [HNW.out]; exact hjn
          have hjni : (j : Int) < (nw : Int) := by omega
          have wj := KW.2 j hjn9
          have HSN := Lib.hid (HJS.out j hjn9)
          have HX9 := Lib.hid (HB2.out j hjn9)
          generalize ws9[j] = x9 at *
          generalize hwsj : wsJ L y j = ws at *
          by_cases hz : x9.size = 2
          · have hzi : (x9.size : Int) = 2 := by omega
            have hzb : ((x9.size : Int) != 2) = false := by simp [hz]
            obtain ⟨cv, hcv⟩ : ∃ cv, coS x9 = cv := ⟨_, rfl⟩
            obtain ⟨rv, hrv⟩ : ∃ rv, riS x9 = rv := ⟨_, rfl⟩
            have HCV := Lib.hid hcv
            have HRV := Lib.hid hrv
            have HCO : Hid (rdV (x9.extract 0 1) = cv) := (hcv : rdV (x9.extract 0 1) = cv)
            have HRI : Hid (rdV (x9.extract 1 2) = rv) := (by rw [← hrv]; unfold riS; rw [hz] : rdV (x9.extract 1 2) = rv)
            clear hcv hrv
            have h1z : 1 ≤ x9.size := by omega
            have hs1 : (x9.extract 0 1).size ≤ 1048576 := by simp; omega
            have hs2 : (x9.extract 1 2).size ≤ 1048576 := by simp; omega
            clear HX9
            go_wp2_with fail
            refine (l1Read_any hs1).mono ?_
            rintro e3 w4 ⟨rfl, hb⟩
            rw [HCO.out]
            replace hT := hT.on hb
            replace hX := hX.on hb
            replace K := K.on hb
            replace Z := Z.on hb
            replace KW := KW.on hb
            replace G := G.trans (hb.mono G.size)
            clear hb wj
            go_wp2_with fail
            refine (l1Read_any hs2).mono ?_
            rintro e3 w5 ⟨rfl, hb⟩
            rw [HRI.out]
            replace hT := hT.on hb
            replace hX := hX.on hb
            replace K := K.on hb
            replace Z := Z.on hb
            replace KW := KW.on hb
            replace G := G.trans (hb.mono G.size)
            clear hb
            have hXl := hX.lt
            have hKl := K.1
            have hZl := Z.lt
            have hWl := KW.1
            obtain ⟨x0, x1, x2, x3⟩ := blk4 hX
            have HT9 := Lib.hid (hT.on (Below.alloc (Below.refl _ _) (Nat.le_refl _) (.cells #[.int .i64 cv] 3)))
            have HX9 := Lib.hid (hX.alloc (.cells #[.int .i64 cv] 3))
            have HK9 := Lib.hid (K.alloc (.cells #[.int .i64 cv] 3))
            have HZ9 := Lib.hid (Z.alloc (.cells #[.int .i64 cv] 3))
            have HW9 := Lib.hid (KW.alloc (.cells #[.int .i64 cv] 3))
            have HG9 := Lib.hid (G.alloc G.size (.cells #[.int .i64 cv] 3))
            have OW := HT9.out.ob
            have HVV := Lib.hid ((Blk.new w5 3 (ints [cv])).rd (size := 1) (n := 1) rfl)
            clear hT hX K Z KW G
            go_wp2_with (at_builtin; refine wpList_append_rd rfl _ _ 34 rfl w2.heap.size 3 i0 (.int .i64 0) 1 8 Tryd.underlying34 hi0 hz0 hz1 hz2 rfl (by decide) _ _ _ rfl OW _ _ _ _ _ rfl HVV.out (by intro u hu; simp [ints] at hu; subst hu; rfl) ?c1 ?d1 ?e1 ?_)
            case c1 => simp only [maxLen]; omega
            case d1 => omega
            case e1 => simp; omega
            intro R1 e1 w6 h7 own7 grow7 at7
            have hXl7 := HX9.out.lt
            have hWl7 := HW9.out.1
            have T7 := (Two.pushR (x := cv) HT9.out.swap (by simpa using hXl7) (by simpa [ints] using own7) grow7 (fun g h => by rw [World.size_alloc]; exact at7 g h)).swap
            have X7 := HX9.out.grown grow7 (fun h => HT9.out.bx h.symm)
            have N7 : Value.ownBlock (.slice R1 (q + 1) e1) ≠ some gW := fun h => by
              rcases at7 gW h with e | e
              · exact NW.2 e
              · omega
            have K7 := HK9.out.grown grow7 (fun h => by have := (HT9.out.ob.lt _ h.symm).1; omega)
            have Z7 := HZ9.out.grown grow7 (fun h => by have := (HT9.out.ob.lt _ h.symm).1; omega)
            have W7 := HW9.out.grown grow7 (fun h => NW.2 h.symm)
            have G7 := HG9.out.grown grow7 (by simp; omega) (fun j hj => by have := (HT9.out.ob.lt j hj).1; omega)
            have hXl8 := X7.lt
            have fx := X7.frozen 3
            clear x0 x1 x2 x3 own7 grow7 at7 OW HVV HT9 HX9 HK9 HZ9 HW9 HG9
            obtain ⟨x0, x1, x2, x3⟩ := blk4 X7
            have HT2 := Lib.hid (T7.box (i := 3) (u := .slice R1 (q + 1) e1))
            have HX2 := Lib.hid (X7.set_ 3 (.slice R1 (q + 1) e1))
            have HK2 := Lib.hid (K7.far (p := ⟨(w2.heap.size + 1 + 1), 3, none⟩) hLne (.slice R1 (q + 1) e1))
            have HZ2 := Lib.hid (Z7.far (p := ⟨(w2.heap.size + 1 + 1), 3, none⟩) (by show w.heap.size ≠ (w2.heap.size + 1 + 1); omega) (.slice R1 (q + 1) e1))
            have HKW := Lib.hid (W7.far (p := ⟨(w2.heap.size + 1 + 1), 3, none⟩) hXne (.slice R1 (q + 1) e1))
            have HG2 := Lib.hid (G7.setCell (p := ⟨(w2.heap.size + 1 + 1), 3, none⟩) (by show w.heap.size ≤ (w2.heap.size + 1 + 1); omega) (.slice R1 (q + 1) e1))
            clear T7 X7 K7 Z7 W7 G7
            have HN2 : Hid (Value.ownBlock (.slice P q c) ≠ some gW ∧ Value.ownBlock (.slice R1 (q + 1) e1) ≠ some gW) := ⟨NW.1, N7⟩
            clear NW N7
            go_upto_region 18 with (fail)
            clear x0 x1 x2 x3 fx
            have hT := HT2.out
            have hX := HX2.out
            have K := HK2.out
            have Z := HZ2.out
            have KW := HKW.out
            have G := HG2.out
            have NW := HN2.out
            clear HT2 HX2 HK2 HZ2 HKW HG2 HN2
            generalize w6.setCell ⟨(w2.heap.size + 1 + 1), 3, none⟩ (.slice R1 (q + 1) e1) = w7 at *
            have hXl := hX.lt
            have hKl := K.1
            have hZl := Z.lt
            have hWl := KW.1
            obtain ⟨x0, x1, x2, x3⟩ := blk4 hX
            have HT9 := Lib.hid (hT.on (Below.alloc (Below.refl _ _) (Nat.le_refl _) (.cells #[.int .i64 rv] 3)))
            have HX9 := Lib.hid (hX.alloc (.cells #[.int .i64 rv] 3))
            have HK9 := Lib.hid (K.alloc (.cells #[.int .i64 rv] 3))
            have HZ9 := Lib.hid (Z.alloc (.cells #[.int .i64 rv] 3))
            have HW9 := Lib.hid (KW.alloc (.cells #[.int .i64 rv] 3))
            have HG9 := Lib.hid (G.alloc G.size (.cells #[.int .i64 rv] 3))
            have OW := HT9.out.oa
            have HVV := Lib.hid ((Blk.new w7 3 (ints [rv])).rd (size := 1) (n := 1) rfl)
            clear hT hX K Z KW G
            go_wp2_with (at_builtin; refine wpList_append_rd rfl _ _ 34 rfl w2.heap.size 3 i0 (.int .i64 0) 1 8 Tryd.underlying34 hi0 hz0 hz1 hz2 rfl (by decide) _ _ _ rfl OW _ _ _ _ _ rfl HVV.out (by intro u hu; simp [ints] at hu; subst hu; rfl) ?c1 ?d1 ?e1 ?_)
            case c1 => simp only [maxLen]; omega
            case d1 => omega
            case e1 => simp; omega
            intro P1 c1 w8 h7 own7 grow7 at7
            have hXl7 := HX9.out.lt
            have hWl7 := HW9.out.1
            have T7 := Two.pushR (x := rv) HT9.out (by simpa using hXl7) (by simpa [ints] using own7) grow7 (fun g h => by rw [World.size_alloc]; exact at7 g h)
            have X7 := HX9.out.grown grow7 (fun h => HT9.out.ax h.symm)
            have N7 : Value.ownBlock (.slice P1 (q + 1) c1) ≠ some gW := fun h => by
              rcases at7 gW h with e | e
              · exact NW.1 e
              · omega
            have K7 := HK9.out.grown grow7 (fun h => by have := (HT9.out.oa.lt _ h.symm).1; omega)
            have Z7 := HZ9.out.grown grow7 (fun h => by have := (HT9.out.oa.lt _ h.symm).1; omega)
            have W7 := HW9.out.grown grow7 (fun h => NW.1 h.symm)
            have G7 := HG9.out.grown grow7 (by simp; omega) (fun j hj => by have := (HT9.out.oa.lt j hj).1; omega)
            have hXl8 := X7.lt
            have fx := X7.frozen 2
            clear x0 x1 x2 x3 own7 grow7 at7 OW HVV HT9 HX9 HK9 HZ9 HW9 HG9
            obtain ⟨x0, x1, x2, x3⟩ := blk4 X7
            have HT2 := Lib.hid (T7.box (i := 2) (u := .slice P1 (q + 1) c1))
            have HX2 := Lib.hid (X7.set_ 2 (.slice P1 (q + 1) c1))
            have HK2 := Lib.hid (K7.far (p := ⟨(w2.heap.size + 1 + 1), 2, none⟩) hLne (.slice P1 (q + 1) c1))
            have HZ2 := Lib.hid (Z7.far (p := ⟨(w2.heap.size + 1 + 1), 2, none⟩) (by show w.heap.size ≠ (w2.heap.size + 1 + 1); omega) (.slice P1 (q + 1) c1))
            have HKW := Lib.hid (W7.far (p := ⟨(w2.heap.size + 1 + 1), 2, none⟩) hXne (.slice P1 (q + 1) c1))
            have HG2 := Lib.hid (G7.setCell (p := ⟨(w2.heap.size + 1 + 1), 2, none⟩) (by show w.heap.size ≤ (w2.heap.size + 1 + 1); omega) (.slice P1 (q + 1) c1))
            clear T7 X7 K7 Z7 W7 G7
            have HN2 : Hid (Value.ownBlock (.slice P1 (q + 1) c1) ≠ some gW ∧ Value.ownBlock (.slice R1 (q + 1) e1) ≠ some gW) := ⟨N7, NW.2⟩
            go_wp2_with fail
            go_roundw
            case rel => exact ⟨j + 1, q + 1, _, _, _, _, by omega, by go_num, (show q + 1 = (wsJ L y (j + 1)).length by rw [HSN.out, List.length_append, ← HQ.out]; rfl), by omega, (by rw [HSN.out, List.map_append, List.map_append, List.map_singleton, List.map_singleton, HCV.out, HRV.out]; exact HT2.out), HX2.out, HN2.out, HK2.out, HZ2.out, HKW.out, HG2.out⟩
            case measure => simp [intOf]; omega
          · have HP := Lib.hid (HX9.out hz)
            have hzi : ¬ (x9.size : Int) = 2 := by omega
            have hzb : ((x9.size : Int) != 2) = true := by simpa using hzi
            have hzc : ((x9.size : Int) == 2) = false := by simpa using hzi
            clear HX9
            obtain ⟨z0, z1, z2, z3⟩ := blk4 Z
            have f0 := Z.frozen 0; have f1 := Z.frozen 1; have f2 := Z.frozen 2; have f3 := Z.frozen 3
            have Z2 := (((Z.set_ 0 (.int .i64 0)).set_ 1 (.int .i64 0)).set_ 2 (.slice none 0 0)).set_ 3 (.slice none 0 0)
            obtain ⟨q0, q1, q2, q3⟩ := blk4 Z2
            have GP := Below.setCell (Below.setCell (Below.setCell (Below.setCell G (p := ⟨w.heap.size, 0, none⟩) (Nat.le_refl _) (.int .i64 0)) (p := ⟨w.heap.size, 1, none⟩) (Nat.le_refl _) (.int .i64 0)) (p := ⟨w.heap.size, 2, none⟩) (Nat.le_refl _) (.slice none 0 0)) (p := ⟨w.heap.size, 3, none⟩) (Nat.le_refl _) (.slice none 0 0)
            clear Z2
            go_wp2_with fail
            refine bodyPost_ret (v := .tuple #[.agg #[.int .i64 0, .int .i64 0, .slice none 0 0, .slice none 0 0], .bool false]) ?_ ?_ ?_
            · simp [results, Tryd.results27, go_sem, q0, q1, q2, q3]
            · rfl
            rw [HP.out.1, HP.out.2]
            exact mapEnd_zero GP
        · have hje : j = nw := by omega
          subst hje
          have HTF : Hid (Two wr w2.heap.size (w2.heap.size + 1 + 1) P R q c e ((wsT L (y + 1)).map riS) ((wsT L (y + 1)).map coS) q) := (by rw [← HJF.out j HNW.out]; exact hT : Two wr w2.heap.size (w2.heap.size + 1 + 1) P R q c e ((wsT L (y + 1)).map riS) ((wsT L (y + 1)).map coS) q)
          have HQF : Hid (q = (wsT L (y + 1)).length) := (by rw [← HJF.out j HNW.out]; exact HQ.out : q = (wsT L (y + 1)).length)
          clear hT
          go_wp2_with fail
          go_roundw
          case rel => exact ⟨y + 1, q, P, R, c, e, by omega, by go_num, HQF.out, by omega, HTF.out, hX, K, Z, G⟩
          case measure => simp [intOf]; omega
    · have hye : y = H := by omega
      subst hye
      have HCM : Hid (canS s = ⟨(W : Int), (y : Int), (wsT L y).map riS, (wsT L y).map coS⟩) := (by
        unfold canS
        rw [HL.out, HN.out, Nat.add_sub_cancel, ← HW.out] : canS s = _)
      have HVM : MapIn wr (canS s) (.agg #[.int .i64 (W : Int), .int .i64 (y : Int), .slice P q c, .slice R q e]) := by
        rw [HCM.out]
        exact ⟨P, q, c, R, q, e, rfl, Rd.of_own hT.oa, Rd.of_own hT.ob, by simp only [maxLen]; omega, by simp only [maxLen]; omega⟩
      have hgl := hX.lt
      have q1 := neb_test (mtV (canS s)) s
      have q2 := eqb_test (mtV (canS s)) s
      obtain ⟨x0, x1, x2, x3⟩ := blk4 hX
      cases hkm : okM (canS s)
      · have HP := Lib.hid (ms_bad4 hkm)
        go_wp2_with fail
        refine (l2Map_m HVM).mono ?_
        rintro e9 w9 ⟨rfl, hb⟩
        rw [hkm]
        replace Z := Z.on hb
        replace G := G.trans (hb.mono G.size)
        clear hb x0 x1 x2 x3 hT hX HVM
        obtain ⟨z0, z1, z2, z3⟩ := blk4 Z
        have f0 := Z.frozen 0; have f1 := Z.frozen 1; have f2 := Z.frozen 2; have f3 := Z.frozen 3
        have Z2 := (((Z.set_ 0 (.int .i64 0)).set_ 1 (.int .i64 0)).set_ 2 (.slice none 0 0)).set_ 3 (.slice none 0 0)
        obtain ⟨q0, q1, q2, q3⟩ := blk4 Z2
        have GP := Below.setCell (Below.setCell (Below.setCell (Below.setCell G (p := ⟨w.heap.size, 0, none⟩) (Nat.le_refl _) (.int .i64 0)) (p := ⟨w.heap.size, 1, none⟩) (Nat.le_refl _) (.int .i64 0)) (p := ⟨w.heap.size, 2, none⟩) (Nat.le_refl _) (.slice none 0 0)) (p := ⟨w.heap.size, 3, none⟩) (Nat.le_refl _) (.slice none 0 0)
        clear Z2
        go_wp2_with fail
        refine bodyPost_ret (v := .tuple #[.agg #[.int .i64 0, .int .i64 0, .slice none 0 0, .slice none 0 0], .bool false]) ?_ ?_ ?_
        · simp [results, Tryd.results27, go_sem, q0, q1, q2, q3]
        · rfl
        rw [HP.out.1, HP.out.2]
        exact mapEnd_zero GP
      cases hok : mtOk (canS s)
      · have HP := Lib.hid (ms_bad5 hok)
        go_wp2_with fail
        refine (l2Map_m HVM).mono ?_
        rintro e9 w8 ⟨rfl, hb⟩
        rw [hkm]
        replace Z := Z.on hb
        replace hX := hX.on hb
        replace hT := hT.on hb
        replace HVM := HVM.on hb
        replace G := G.trans (hb.mono G.size)
        clear hb x0 x1 x2 x3
        obtain ⟨x0, x1, x2, x3⟩ := blk4 hX
        go_wp2_with fail
        refine (l2Text_any HVM hkm).mono ?_
        rintro e9 w9 ⟨rfl, hb⟩
        rw [hok]
        replace Z := Z.on hb
        replace G := G.trans (hb.mono G.size)
        clear hb x0 x1 x2 x3 hT hX HVM
        obtain ⟨z0, z1, z2, z3⟩ := blk4 Z
        have f0 := Z.frozen 0; have f1 := Z.frozen 1; have f2 := Z.frozen 2; have f3 := Z.frozen 3
        have Z2 := (((Z.set_ 0 (.int .i64 0)).set_ 1 (.int .i64 0)).set_ 2 (.slice none 0 0)).set_ 3 (.slice none 0 0)
        obtain ⟨q0, q1, q2, q3⟩ := blk4 Z2
        have GP := Below.setCell (Below.setCell (Below.setCell (Below.setCell G (p := ⟨w.heap.size, 0, none⟩) (Nat.le_refl _) (.int .i64 0)) (p := ⟨w.heap.size, 1, none⟩) (Nat.le_refl _) (.int .i64 0)) (p := ⟨w.heap.size, 2, none⟩) (Nat.le_refl _) (.slice none 0 0)) (p := ⟨w.heap.size, 3, none⟩) (Nat.le_refl _) (.slice none 0 0)
        clear Z2
        go_wp2_with fail
        refine bodyPost_ret (v := .tuple #[.agg #[.int .i64 0, .int .i64 0, .slice none 0 0, .slice none 0 0], .bool false]) ?_ ?_ ?_
        · simp [results, Tryd.results27, go_sem, q0, q1, q2, q3]
        · rfl
        rw [HP.out.1, HP.out.2]
        exact mapEnd_zero GP
      · cases hz : decide (mtV (canS s) = s)
        · have HP := Lib.hid (ms_bad6 hz)
          rw [hz] at q1 q2
          rw [Bool.not_false] at q1
          go_wp2_with fail
          refine (l2Map_m HVM).mono ?_
          rintro e9 w8 ⟨rfl, hb⟩
          rw [hkm]
          replace Z := Z.on hb
          replace hX := hX.on hb
          replace hT := hT.on hb
          replace HVM := HVM.on hb
          replace G := G.trans (hb.mono G.size)
          clear hb x0 x1 x2 x3
          obtain ⟨x0, x1, x2, x3⟩ := blk4 hX
          go_wp2_with fail
          refine (l2Text_any HVM hkm).mono ?_
          rintro e9 w9 ⟨rfl, hb⟩
          rw [hok]
          replace Z := Z.on hb
          replace G := G.trans (hb.mono G.size)
          clear hb x0 x1 x2 x3 hT hX HVM
          obtain ⟨z0, z1, z2, z3⟩ := blk4 Z
          have f0 := Z.frozen 0; have f1 := Z.frozen 1; have f2 := Z.frozen 2; have f3 := Z.frozen 3
          have Z2 := (((Z.set_ 0 (.int .i64 0)).set_ 1 (.int .i64 0)).set_ 2 (.slice none 0 0)).set_ 3 (.slice none 0 0)
          obtain ⟨q0, q1, q2, q3⟩ := blk4 Z2
          have GP := Below.setCell (Below.setCell (Below.setCell (Below.setCell G (p := ⟨w.heap.size, 0, none⟩) (Nat.le_refl _) (.int .i64 0)) (p := ⟨w.heap.size, 1, none⟩) (Nat.le_refl _) (.int .i64 0)) (p := ⟨w.heap.size, 2, none⟩) (Nat.le_refl _) (.slice none 0 0)) (p := ⟨w.heap.size, 3, none⟩) (Nat.le_refl _) (.slice none 0 0)
          clear Z2
          go_wp2_with fail
          refine bodyPost_ret (v := .tuple #[.agg #[.int .i64 0, .int .i64 0, .slice none 0 0, .slice none 0 0], .bool false]) ?_ ?_ ?_
          · simp [results, Tryd.results27, go_sem, q0, q1, q2, q3]
          · rfl
          rw [HP.out.1, HP.out.2]
          exact mapEnd_zero GP
        · have HP := Lib.hid (pm_some hok (of_decide_eq_true hz))
          rw [hz] at q1 q2
          rw [Bool.not_true] at q1
          go_wp2_with fail
          refine (l2Map_m HVM).mono ?_
          rintro e9 w8 ⟨rfl, hb⟩
          rw [hkm]
          replace Z := Z.on hb
          replace hX := hX.on hb
          replace hT := hT.on hb
          replace HVM := HVM.on hb
          replace G := G.trans (hb.mono G.size)
          clear hb x0 x1 x2 x3
          obtain ⟨x0, x1, x2, x3⟩ := blk4 hX
          go_wp2_with fail
          refine (l2Text_any HVM hkm).mono ?_
          rintro e9 w9 ⟨rfl, hb⟩
          rw [hok]
          replace Z := Z.on hb
          replace hX := hX.on hb
          replace hT := hT.on hb
          replace G := G.trans (hb.mono G.size)
          clear hb x0 x1 x2 x3 HVM K
          have hZl := Z.lt
          obtain ⟨x0, x1, x2, x3⟩ := blk4 hX
          obtain ⟨z0, z1, z2, z3⟩ := blk4 Z
          have f0 := Z.frozen 0; have f1 := Z.frozen 1; have f2 := Z.frozen 2; have f3 := Z.frozen 3
          have Z2 := (((Z.set_ 0 (.int .i64 (W : Int))).set_ 1 (.int .i64 (y : Int))).set_ 2 (.slice P q c)).set_ 3 (.slice R q e)
          obtain ⟨q20, q21, q22, q23⟩ := blk4 Z2
          have GP := Below.setCell (Below.setCell (Below.setCell (Below.setCell G (p := ⟨w.heap.size, 0, none⟩) (Nat.le_refl _) (.int .i64 (W : Int))) (p := ⟨w.heap.size, 1, none⟩) (Nat.le_refl _) (.int .i64 (y : Int))) (p := ⟨w.heap.size, 2, none⟩) (Nat.le_refl _) (.slice P q c)) (p := ⟨w.heap.size, 3, none⟩) (Nat.le_refl _) (.slice R q e)
          have oA := own_far (own_far (own_far (own_far hT.oa (show w.heap.size < w2.heap.size by omega) 0 (.int .i64 (W : Int))) (show w.heap.size < w2.heap.size by omega) 1 (.int .i64 (y : Int))) (show w.heap.size < w2.heap.size by omega) 2 (.slice P q c)) (show w.heap.size < w2.heap.size by omega) 3 (.slice R q e)
          have oB := own_far (own_far (own_far (own_far hT.ob (show w.heap.size < w2.heap.size by omega) 0 (.int .i64 (W : Int))) (show w.heap.size < w2.heap.size by omega) 1 (.int .i64 (y : Int))) (show w.heap.size < w2.heap.size by omega) 2 (.slice P q c)) (show w.heap.size < w2.heap.size by omega) 3 (.slice R q e)
          have AB := Lib.hid hT.ab
          clear Z2 hT Z G
          go_wp2_with fail
          refine bodyPost_ret (v := .tuple #[.agg #[.int .i64 (W : Int), .int .i64 (y : Int), .slice P q c, .slice R q e], .bool true]) ?_ ?_ ?_
          · simp [results, Tryd.results27, go_sem, q20, q21, q22, q23]
          · rfl
          rw [HP.out.1, HP.out.2, HCM.out]
          have l1 : ((wsT L y).map riS).length = q := by rw [List.length_map]; exact HQ.out.symm
          have l2 : ((wsT L y).map coS).length = q := by rw [List.length_map]; exact HQ.out.symm
          refine ⟨P, R, c, e, ?_, ?_, ?_, ?_, GP⟩
          · show _ = Ending.returned (Value.tuple #[.agg #[_, _, .slice P ((wsT L y).map riS).length c, .slice R ((wsT L y).map coS).length e], _])
            rw [l1, l2]
          · show World.ownsRow _ _ _ _ (.slice P ((wsT L y).map riS).length c) ((wsT L y).map riS).length (ints ((wsT L y).map riS))
            rw [l1]
            exact own_le oA (by omega)
          · show World.ownsRow _ _ _ _ (.slice R ((wsT L y).map coS).length e) ((wsT L y).map coS).length (ints ((wsT L y).map coS))
            rw [l2]
            exact own_le oB (by omega)
          · show ∀ q, Value.ownBlock (.slice P ((wsT L y).map riS).length c) = some q → Value.ownBlock (.slice R ((wsT L y).map coS).length e) ≠ some q
            rw [l1, l2]
            exact AB.out
end Go.Proofs.YtmmpcchjalgokaaDoor
