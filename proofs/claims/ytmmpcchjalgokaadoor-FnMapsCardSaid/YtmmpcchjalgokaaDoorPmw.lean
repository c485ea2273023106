/- Contracts: ParseMap, the program's. -/
import Derived.Test.YtmmpcchjalgokaaDoorPmp
import Derived.Test.YtmmpcchjalgokaaDoorMxl
import Derived.Test.YtmmpcchjalgokaaDoorMtx
import Derived.Test.YtmmpcchjalgokaaDoorMirFn
import Derived.Test.YtmmpcchjalgokaaDoorPint
import Derived.Deep.AppendLies
import Derived.Deep.DeepCutAuto
namespace Go.Proofs.YtmmpcchjalgokaaDoor
set_option linter.unusedVariables false
set_option linter.unusedSimpArgs false
open Go.RowKit
theorem pm_fail {s : ByteArray} (h : ∀ m, mtOk m = true → mtV m = s → False) : pmOk s = false ∧ pmV s = zM := pm_none h
theorem pm_bad1 {s : ByteArray} (h : 7 < (cuts s 10).length) : pmOk s = false ∧ pmV s = zM := pm_fail fun m h1 h2 => by
  have K := pm_key h1 h2
  have := K.low.2.1; have := K.len
  omega
theorem wsT_mem {L : List ByteArray} {y Y : Nat} (hy : y < Y) (hl : y < L.length) {x : ByteArray} (hx : x ∈ cuts L[y] 32) : x ∈ wsT L Y := by
  unfold wsT
  rw [List.mem_flatMap]
  have hm : L[y] ∈ L.take Y := List.mem_iff_getElem.2 ⟨y, (by rw [List.length_take]; omega : y < (L.take Y).length), by simp⟩
  exact ⟨L[y], hm, hx⟩
theorem wsT_mono {L : List ByteArray} {y : Nat} : ∀ Y, y ≤ Y → Y ≤ L.length → (wsT L y).length ≤ (wsT L Y).length
  | 0, h, _ => by have : y = 0 := by omega
                  subst this; exact Nat.le_refl _
  | Y + 1, h, hl => by
    by_cases e : y = Y + 1
    · subst e; exact Nat.le_refl _
    · have ih := wsT_mono (L := L) (y := y) Y (by omega) (by omega)
      rw [wsT_succ (L := L) (y := Y) (by omega), List.length_append]
      omega
theorem pm_bad2 {s : ByteArray} {y j : Nat} (hy : y + 1 < (cuts s 10).length) (hj : j < (cuts (cuts s 10)[y] 32).length) (h : (fixW (cuts (cuts s 10)[y] 32)[j]).size ≠ 2) : pmOk s = false ∧ pmV s = zM := pm_fail fun m h1 h2 => by
  have K := pm_key h1 h2
  exact h (K.good _ (wsT_mem (L := cuts s 10) (y := y) (by omega) (by omega) (List.getElem_mem hj))).2
theorem pm_bad3 {s : ByteArray} {y j : Nat} (hy : y + 1 < (cuts s 10).length) (hj : j < (cuts (cuts s 10)[y] 32).length) (h : 36 < (wsT (cuts s 10) y).length + j) : pmOk s = false ∧ pmV s = zM := pm_fail fun m h1 h2 => by
  have K := pm_key h1 h2
  have h3 := K.count
  have h4 := wsT_mono (L := cuts s 10) (y := y + 1) ((cuts s 10).length - 1) (by omega) (by omega)
  rw [wsT_succ (by omega), List.length_append] at h4
  omega
theorem pm_bad4 {s : ByteArray} (h : mtOk (canM s) = false) : pmOk s = false ∧ pmV s = zM := pm_fail fun m h1 h2 => by
  rw [(pm_key h1 h2).cand, h1] at h; cases h
theorem pm_bad5 {s : ByteArray} (h : decide (mtV (canM s) = s) = false) : pmOk s = false ∧ pmV s = zM := pm_fail fun m h1 h2 => by
  rw [(pm_key h1 h2).cand, decide_eq_false_iff_not] at h
  exact h h2
/-- The words that the program has read: the lines before y, and j words of line y. -/
def wsJ (L : List ByteArray) (y j : Nat) : List ByteArray := wsT L y ++ (cuts (L.getD y ⟨#[]⟩) 32).take j
theorem wsJ_zero (L : List ByteArray) (y : Nat) : wsJ L y 0 = wsT L y := by unfold wsJ; simp
theorem wsJ_get {L : List ByteArray} {y : Nat} (hy : y < L.length) : L.getD y ⟨#[]⟩ = L[y] := by rw [List.getD_eq_getElem?_getD, List.getElem?_eq_getElem hy]; rfl
theorem wsJ_full {L : List ByteArray} {y j : Nat} (hy : y < L.length) (hj : (cuts L[y] 32).length = j) : wsJ L y j = wsT L (y + 1) := by
  unfold wsJ
  rw [wsT_succ hy, wsJ_get hy, ← hj, List.take_length]
theorem wsJ_snoc {L : List ByteArray} {y j : Nat} (hy : y < L.length) (hj : j < (cuts L[y] 32).length) : wsJ L y (j + 1) = wsJ L y j ++ [(cuts L[y] 32)[j]] := by
  unfold wsJ
  rw [wsJ_get hy, List.take_succ_eq_append_getElem hj, List.append_assoc]
theorem wsJ_len {L : List ByteArray} {y j : Nat} (hy : y < L.length) (hj : j ≤ (cuts L[y] 32).length) : (wsJ L y j).length = (wsT L y).length + j := by
  unfold wsJ
  rw [wsJ_get hy, List.length_append, List.length_take]
  omega
theorem cutAt_sz6 (s : ByteArray) (b : UInt8) : ∀ k, ∀ x ∈ (cutAt s b k).1, x.size ≤ s.size
  | 0, x, h => by cases h
  | k + 1, x, h => by
    rw [cutAt] at h
    split at h
    · rcases List.mem_append.1 h with h | h
      · exact cutAt_sz6 s b k x h
      · rw [List.mem_singleton.1 h]; simp; omega
    · exact cutAt_sz6 s b k x h
theorem cuts_sz6 (s : ByteArray) (b : UInt8) : ∀ x ∈ cuts s b, x.size ≤ s.size := by
  intro x h
  rcases List.mem_append.1 h with h | h
  · exact cutAt_sz6 s b _ x h
  · rw [List.mem_singleton.1 h]; simp
theorem eqb_l2 (a : ByteArray) (l : List UInt8) : (a.toList == l) = decide (a = ⟨l.toArray⟩) := by
  rw [Lib.toList_data]
  by_cases h : a = ⟨l.toArray⟩
  · subst h; simp
  · rw [decide_eq_false h]
    have : a.data.toList ≠ l := fun e => h (by apply ByteArray.ext; rw [← e])
    simpa using this
theorem two_byte {x : ByteArray} (h : x.size = 2) : ∃ p q : UInt8, x = ⟨#[p, q]⟩ := by
  obtain ⟨⟨l⟩⟩ := x
  match l, h with
  | [p, q], _ => exact ⟨p, q, rfl⟩
theorem co_get {x : ByteArray} (h : x.size = 2) (hn : x ≠ ⟨#[35, 35]⟩) : coI x = ((x[0]'(by omega)).toNat : Int) - 48 ∧ riI x = ((x[1]'(by omega)).toNat : Int) - 48 := by
  obtain ⟨p, q, rfl⟩ := two_byte h
  unfold coI riI fixW byI
  rw [if_neg hn]
  exact ⟨rfl, rfl⟩
theorem co_lit {x y : ByteArray} (h : y.size = 2) (hy : y = ⟨#[48, 48]⟩) (hx : x = ⟨#[35, 35]⟩) : coI x = ((y[0]'(by omega)).toNat : Int) - 48 ∧ riI x = ((y[1]'(by omega)).toNat : Int) - 48 := by
  subst hy
  subst hx
  unfold coI riI fixW byI
  rw [if_pos rfl]
  exact ⟨rfl, rfl⟩
theorem co_two {p q : UInt8} (h : (⟨#[p, q]⟩ : ByteArray) ≠ ⟨#[35, 35]⟩) : coI ⟨#[p, q]⟩ = (p.toNat : Int) - 48 ∧ riI ⟨#[p, q]⟩ = (q.toNat : Int) - 48 := by
  unfold coI riI fixW byI
  rw [if_neg h]
  exact ⟨rfl, rfl⟩
theorem start3P (w : World) (o : Obj) : Two (((w.alloc (.cells #[] 3)).alloc (.cells #[] 3)).alloc o) w.heap.size (w.heap.size + 2) (some ⟨w.heap.size, 0, none⟩) (some ⟨w.heap.size + 1, 0, none⟩) 0 0 0 [] [] 0 := by
  have s2 : (w.alloc (.cells #[] 3)).heap.size = w.heap.size + 1 := by simp
  have A := World.ownsRow_lit (base := w.heap.size) (e := 3) (size := 1) w #[] 0 (Nat.le_refl _) (by decide) rfl
  have B := World.ownsRow_lit (base := w.heap.size) (e := 3) (size := 1) (w.alloc (.cells #[] 3)) #[] 0 (by rw [s2]; omega) (by decide) rfl
  rw [s2] at B
  refine ⟨(A.alloc _).alloc _, B.alloc _, fun k h1 h2 => ?_, fun h => ?_, fun h => ?_⟩
  · simp [Value.ownBlock] at h1 h2; try omega
  · simp [Value.ownBlock] at h; try omega
  · simp [Value.ownBlock] at h; try omega
theorem box3P (w : World) (o1 o2 : Obj) (t : TypeId) (cs : List Value) : Blk (((w.alloc o1).alloc o2).alloc (.cells cs.toArray t)) (w.heap.size + 2) t cs := by
  have s2 : ((w.alloc o1).alloc o2).heap.size = w.heap.size + 2 := by simp
  have B := Blk.new ((w.alloc o1).alloc o2) t cs
  rwa [s2] at B
set_option maxRecDepth 100000 in
set_option maxHeartbeats 8000000 in
theorem ParseMap_impl {s : ByteArray} {w : World} (hs : s.size ≤ 1048576) (T : Tab w) (M : Mxl w) :
    Calls Tryd.prog 28 #[.string s] w fun e w' => MapEnd w (pmV s) (pmOk s) e w' := by
  have HCL := Lib.hid (cuts_len s 10)
  have HCS := Lib.hid (cuts_sz6 s 10)
  have Z := Blk.new w 47 [.int .i64 0, .int .i64 0, .slice none 0 0, .slice none 0 0]
  have G : Below w.heap.size w (w.alloc (.cells #[.int .i64 0, .int .i64 0, .slice none 0 0, .slice none 0 0] 47)) := (by repeat (first | exact Below.refl _ _ | refine below_drewN ?_ _ | refine Below.drew ?_ | refine Below.alloc ?_ (by first | omega | (simp; done) | (simp; omega)) _ | refine Below.setCell ?_ (by first | omega | (simp; done) | (simp; omega)) _))
  obtain ⟨i0, hi0, hz0, hz1, hz2⟩ := info_parts int_info
  obtain ⟨n, hn⟩ : ∃ n, (cuts s 10).length = n := ⟨_, rfl⟩
  have hn1 : 1 ≤ n ∧ n ≤ 1048577 := by have := HCL.out; omega
  have HN := Lib.hid hn
  by_cases h7 : 7 < n
  · have HP := Lib.hid (pm_bad1 (s := s) (by omega))
    have h7i : (7 : Int) < (n : Int) := by omega
    go_enter Tryd.func28, Tryd.ntmps28
    go_wp2_with fail
    refine (Split_any s 10 _ hs (M.on G)).mono ?_
    rintro e w1 ⟨rfl, B, hb⟩
    rw [hn]
    replace Z := Z.on hb
    replace G := G.trans (hb.mono G.size)
    clear hb B hn
    obtain ⟨z0, z1, z2, z3⟩ := blk4 Z
    have f0 := Z.frozen 0; have f1 := Z.frozen 1; have f2 := Z.frozen 2; have f3 := Z.frozen 3
    have Z2 := (((Z.set_ 0 (.int .i64 0)).set_ 1 (.int .i64 0)).set_ 2 (.slice none 0 0)).set_ 3 (.slice none 0 0)
    obtain ⟨q0, q1, q2, q3⟩ := blk4 Z2
    have GP := Below.setCell (Below.setCell (Below.setCell (Below.setCell G (p := ⟨w.heap.size, 0, none⟩) (Nat.le_refl _) (.int .i64 0)) (p := ⟨w.heap.size, 1, none⟩) (Nat.le_refl _) (.int .i64 0)) (p := ⟨w.heap.size, 2, none⟩) (Nat.le_refl _) (.slice none 0 0)) (p := ⟨w.heap.size, 3, none⟩) (Nat.le_refl _) (.slice none 0 0)
    clear Z2
    go_wp2_with fail
    refine bodyPost_ret (v := .tuple #[.agg #[.int .i64 0, .int .i64 0, .slice none 0 0, .slice none 0 0], .bool false]) ?_ ?_ ?_
    · simp [results, Tryd.results28, go_sem, q0, q1, q2, q3]
    · rfl
    rw [HP.out.1, HP.out.2]
    exact mapEnd_zero GP
  obtain ⟨H, hH⟩ : ∃ H, n = H + 1 := ⟨n - 1, by omega⟩
  subst hH
  have h7i : ¬ (7 : Int) < ((H + 1 : Nat) : Int) := by omega
  have hw1 : IntKind.i64.wrap (((H + 1 : Nat) : Int) - 1) = (H : Int) := by rw [IntWalk.i64_in _ (by omega)]; omega
  have hH6 : H ≤ 6 := by omega
  have hHi : (H : Int) ≤ ((H + 1 : Nat) : Int) := by omega
  go_enter Tryd.func28, Tryd.ntmps28
  go_wp2_with fail
  refine (Split_any s 10 _ hs (M.on G)).mono ?_
  rintro e w1 ⟨rfl, B, hb⟩
  rw [hn, World.size_alloc]
  rw [World.size_alloc] at B
  replace Z := Z.on hb
  replace G := G.trans (hb.mono G.size)
  have hlz := Z.lt
  have hlb := B.lt
  clear hb
  obtain ⟨L, hL⟩ : ∃ L, cuts s 10 = L := ⟨_, rfl⟩
  have HL := Lib.hid hL
  rw [hL] at B hn
  obtain ⟨gL, hgL⟩ : ∃ gL, w.heap.size + 1 = gL := ⟨_, rfl⟩
  rw [hgL] at B hlb ⊢
  have hT := start3P w1 (.cells #[.int .i64 0, .int .i64 (H : Int), .slice (some ⟨w1.heap.size, 0, none⟩) 0 0, .slice (some ⟨w1.heap.size + 1, 0, none⟩) 0 0] 47)
  have hX := box3P w1 (.cells #[] 3) (.cells #[] 3) 47 [.int .i64 0, .int .i64 (H : Int), .slice (some ⟨w1.heap.size, 0, none⟩) 0 0, .slice (some ⟨w1.heap.size + 1, 0, none⟩) 0 0]
  have K := ((B.alloc (.cells #[] 3)).alloc (.cells #[] 3)).alloc (.cells #[.int .i64 0, .int .i64 (H : Int), .slice (some ⟨w1.heap.size, 0, none⟩) 0 0, .slice (some ⟨w1.heap.size + 1, 0, none⟩) 0 0] 47)
  replace Z := ((Z.alloc (.cells #[] 3)).alloc (.cells #[] 3)).alloc (.cells #[.int .i64 0, .int .i64 (H : Int), .slice (some ⟨w1.heap.size, 0, none⟩) 0 0, .slice (some ⟨w1.heap.size + 1, 0, none⟩) 0 0] 47)
  have hgs := G.size
  replace G := ((G.alloc G.size (.cells #[] 3)).alloc (by simp; omega) (.cells #[] 3)).alloc (by simp; omega) (.cells #[.int .i64 0, .int .i64 (H : Int), .slice (some ⟨w1.heap.size, 0, none⟩) 0 0, .slice (some ⟨w1.heap.size + 1, 0, none⟩) 0 0] 47)
  have HL0 : Hid (L.length = H + 1) := hn
  clear B hn hL
  go_wp2_with fail
  go_loopw [31] (fun i wr => ∃ (y q W : Nat) (P R : Option Addr) (c e : Nat), y ≤ H ∧ i = .int .i64 y ∧ Hid (q = (wsT L y).length) ∧ Hid (W = wdT L y) ∧ q ≤ 37 ∧ Two wr w1.heap.size (w1.heap.size + 1 + 1) P R q c e ((wsT L y).map riI) ((wsT L y).map coI) q ∧ Blk wr (w1.heap.size + 1 + 1) 47 [.int .i64 (W : Int), .int .i64 (H : Int), .slice P q c, .slice R q e] ∧ Blk wr gL 9 (strs L) ∧ Blk wr w.heap.size 47 [.int .i64 0, .int .i64 0, .slice none 0 0, .slice none 0 0] ∧ Below w.heap.size w wr) (fun i _ => H - (intOf i).toNat)
  case atStart => exact ⟨0, 0, 0, _, _, 0, 0, Nat.zero_le _, rfl, (show 0 = (wsT L 0).length by simp [wsT]), (show 0 = wdT L 0 from rfl), by omega, hT, hX, K, Z, G⟩
  clear hT hX K Z G
  case round =>
    obtain ⟨y, q, W, P, R, c, e, hy, rfl, HQ, HW, hq37, hT, hX, K, Z, G⟩ := hrel
    by_cases hlt : y < H
    · have hyL : y < L.length := by rw [HL0.out]; omega
      have hlti : (y : Int) < (H : Int) := by omega
      have ly : wr.cell? ⟨gL, y, none⟩ = some (.string L[y]) := by rw [K.cell]; simp [strs, hyL]
      have HB2 : Hid (∀ (j : Nat) (hj : j < (cuts L[y] 32).length), (fixW (cuts L[y] 32)[j]).size ≠ 2 → pmOk s = false ∧ pmV s = zM) := (by
        have h9 := HL.out
        subst h9
        exact fun j hj h => pm_bad2 (s := s) (y := y) (by have := HL0.out; omega) hj h : ∀ (j : Nat) (hj : j < (cuts L[y] 32).length), (fixW (cuts L[y] 32)[j]).size ≠ 2 → pmOk s = false ∧ pmV s = zM)
      have HB3 : Hid (∀ (j : Nat) (hj : j < (cuts L[y] 32).length), 36 < (wsT L y).length + j → pmOk s = false ∧ pmV s = zM) := (by
        have h9 := HL.out
        subst h9
        exact fun j hj h => pm_bad3 (s := s) (y := y) (by have := HL0.out; omega) hj h : ∀ (j : Nat) (hj : j < (cuts L[y] 32).length), 36 < (wsT L y).length + j → pmOk s = false ∧ pmV s = zM)
      have HJF : Hid (∀ j, (cuts L[y] 32).length = j → wsJ L y j = wsT L (y + 1)) := (fun j hj => wsJ_full hyL hj : ∀ j, (cuts L[y] 32).length = j → wsJ L y j = wsT L (y + 1))
      have HJS : Hid (∀ (j : Nat) (hj : j < (cuts L[y] 32).length), wsJ L y (j + 1) = wsJ L y j ++ [(cuts L[y] 32)[j]]) := (fun j hj => wsJ_snoc hyL hj : ∀ (j : Nat) (hj : j < (cuts L[y] 32).length), wsJ L y (j + 1) = wsJ L y j ++ [(cuts L[y] 32)[j]])
      have HJL : Hid (∀ j, j ≤ (cuts L[y] 32).length → (wsJ L y j).length = (wsT L y).length + j) := (fun j hj => wsJ_len hyL hj : ∀ j, j ≤ (cuts L[y] 32).length → (wsJ L y j).length = (wsT L y).length + j)
      have HWS : Hid ((cuts L[y] 32).length = wdT L (y + 1)) := ((wdT_succ hyL).symm : (cuts L[y] 32).length = wdT L (y + 1))
      have hlsz : L[y].size ≤ 1048576 := by
        have h9 := HCS.out L[y] (by rw [HL.out]; exact List.getElem_mem hyL)
        omega
      generalize L[y] = ln at *
      have HCW := Lib.hid (cuts_len ln 32)
      have hT0 := hT
      go_wp2_with fail
      refine (Split_any ln 32 _ hlsz (M.on G)).mono ?_
      rintro e2 w2 ⟨rfl, KW, hb⟩
      have hXl := hX.lt
      have NW : Value.ownBlock (.slice P q c) ≠ some wr.heap.size ∧ Value.ownBlock (.slice R q e) ≠ some wr.heap.size := ⟨fun h => by have := (hT.oa.lt _ h).2; omega, fun h => by have := (hT.ob.lt _ h).2; omega⟩
      replace hT := hT.on hb
      replace hX := hX.on hb
      have hKl := K.lt
      have hZl := Z.lt
      replace K := K.on hb
      replace Z := Z.on hb
      replace G := G.trans (hb.mono G.size)
      have hXne : wr.heap.size ≠ (w1.heap.size + 1 + 1) := by omega
      have hLne : gL ≠ (w1.heap.size + 1 + 1) := by omega
      generalize wr.heap.size = gW at *
      generalize hws9 : cuts ln 32 = ws9 at *
      obtain ⟨nw, hnw⟩ : ∃ nw, ws9.length = nw := ⟨_, rfl⟩
      rw [hnw]
      have HNW := Lib.hid hnw
      have hnwb : nw ≤ 1048577 := by have := HCW.out; omega
      have hgl := hX.lt
      have fx := hX.frozen 0
      obtain ⟨x0, x1, x2, x3⟩ := blk4 hX
      have HT2 := Lib.hid (hT.box (i := 0) (u := .int .i64 (nw : Int)))
      have HX2 := Lib.hid (hX.set_ 0 (.int .i64 (nw : Int)))
      have HK2 := Lib.hid (K.far (p := ⟨(w1.heap.size + 1 + 1), 0, none⟩) hLne (.int .i64 (nw : Int)))
      have HZ2 := Lib.hid (Z.far (p := ⟨(w1.heap.size + 1 + 1), 0, none⟩) (by show w.heap.size ≠ (w1.heap.size + 1 + 1); omega) (.int .i64 (nw : Int)))
      have HKW := Lib.hid (KW.far (p := ⟨(w1.heap.size + 1 + 1), 0, none⟩) hXne (.int .i64 (nw : Int)))
      have HG2 := Lib.hid (G.setCell (p := ⟨(w1.heap.size + 1 + 1), 0, none⟩) (by show w.heap.size ≤ (w1.heap.size + 1 + 1); omega) (.int .i64 (nw : Int)))
      have HNB := Lib.hid NW
      clear hT hX K Z KW G hb hnw NW hT0 ly
      go_wp2_with fail
      go_loopw [42] (fun i wr => ∃ (j q : Nat) (P R : Option Addr) (c e : Nat), j ≤ nw ∧ i = .int .i64 j ∧ Hid (q = (wsJ L y j).length) ∧ q ≤ 37 ∧ Two wr w1.heap.size (w1.heap.size + 1 + 1) P R q c e ((wsJ L y j).map riI) ((wsJ L y j).map coI) q ∧ Blk wr (w1.heap.size + 1 + 1) 47 [.int .i64 (nw : Int), .int .i64 (H : Int), .slice P q c, .slice R q e] ∧ (Value.ownBlock (.slice P q c) ≠ some gW ∧ Value.ownBlock (.slice R q e) ≠ some gW) ∧ Blk wr gL 9 (strs L) ∧ Blk wr w.heap.size 47 [.int .i64 0, .int .i64 0, .slice none 0 0, .slice none 0 0] ∧ Blk wr gW 9 (strs ws9) ∧ Below w.heap.size w wr) (fun i _ => nw - (intOf i).toNat)
      case atStart => exact ⟨0, q, P, R, c, e, Nat.zero_le _, rfl, (show q = (wsJ L y 0).length by rw [wsJ_zero]; exact HQ.out), hq37, (by rw [wsJ_zero]; exact HT2.out), HX2.out, HNB.out, HK2.out, HZ2.out, HKW.out, HG2.out⟩
      clear HT2 HX2 HK2 HZ2 HKW HG2 HNB HQ HW x0 x1 x2 x3 fx
      case round =>
        obtain ⟨j, q, P, R, c, e, hj, rfl, HQ, hq37, hT, hX, NW, K, Z, KW, G⟩ := hrel
        by_cases hjn : j < nw
        · have hjn9 : j < ws9.length := by rw [HNW.out]; exact hjn
          have hjni : (j : Int) < (nw : Int) := by omega
          have wj : wr.cell? ⟨gW, j, none⟩ = some (.string ws9[j]) := by rw [KW.cell]; simp [strs, hjn9]
          have HSN := Lib.hid (HJS.out j hjn9)
          have HX9 := Lib.hid (HB2.out j hjn9)
          have HX3 : Hid (36 < q → pmOk s = false ∧ pmV s = zM) := (fun h => HB3.out j hjn9 (by rw [← HJL.out j (by omega), ← HQ.out]; exact h) : 36 < q → pmOk s = false ∧ pmV s = zM)
          generalize ws9[j] = x9 at *
          generalize hwsj : wsJ L y j = ws at *
          have q1 := eqb_l2 x9 [35, 35]
          have hgl := hX.lt
          by_cases hh : x9 = ⟨#[35, 35]⟩
          · have e9 : (x9.toList == [35, 35]) = true := by rw [q1]; exact decide_eq_true hh
            obtain ⟨xx, hxx⟩ : ∃ xx, xx = (⟨#[48, 48]⟩ : ByteArray) := ⟨_, rfl⟩
            have h2z : xx.size = 2 := by rw [hxx]; rfl
            have i0z : 0 < xx.size := by omega
            have i1z : 1 < xx.size := by omega
            have HCO : Hid (coI x9 = IntKind.i64.wrap (IntKind.i64.wrap ((xx[0]'i0z).toNat : Int) - 48)) := (by have h9 := (xx[0]'i0z).toNat_lt; rw [IntWalk.i64_in (((xx[0]'i0z).toNat : Int)) (by omega), IntWalk.i64_in _ (by omega)]; exact (co_lit h2z hxx hh).1 : coI x9 = _)
            have HRI : Hid (riI x9 = IntKind.i64.wrap (IntKind.i64.wrap ((xx[1]'i1z).toNat : Int) - 48)) := (by have h9 := (xx[1]'i1z).toNat_lt; rw [IntWalk.i64_in (((xx[1]'i1z).toNat : Int)) (by omega), IntWalk.i64_in _ (by omega)]; exact (co_lit h2z hxx hh).2 : riI x9 = _)
            have hzi : (xx.size : Int) = 2 := by omega
            have hzb : ((xx.size : Int) != 2) = false := by simp [h2z]
            clear q1 hh HX9
            go_upto_region 15 with (fail)
            rw [← hxx]
            clear hxx
            by_cases h36 : q ≤ 36
            · have h36i : ¬ (36 : Int) < (q : Int) := by omega
              obtain ⟨x0, x1, x2, x3⟩ := blk4 hX
              go_wp2_with fail
              clear x0 x1 x2 x3
              go_upto_region 17 with (fail)
              go_cut [65] (fun _ wx => ∃ (R1 : Option Addr) (e1 : Nat), Two wx w1.heap.size (w1.heap.size + 1 + 1) P R1 q c e1 (ws.map riI) (ws.map coI ++ [coI x9]) (q + 1) ∧ Blk wx (w1.heap.size + 1 + 1) 47 [.int .i64 (nw : Int), .int .i64 (H : Int), .slice P q c, .slice R1 (q + 1) e1] ∧ (Value.ownBlock (.slice P q c) ≠ some gW ∧ Value.ownBlock (.slice R1 (q + 1) e1) ≠ some gW) ∧ Blk wx gL 9 (strs L) ∧ Blk wx w.heap.size 47 [.int .i64 0, .int .i64 0, .slice none 0 0, .slice none 0 0] ∧ Blk wx gW 9 (strs ws9) ∧ Below w.heap.size w wx)
              case first =>
                replace hT := hT.drew
                replace hX := hX.drew
                obtain ⟨x0, x1, x2, x3⟩ := blk4 hX
                refine wp_region_held_drew (S := fun w' => Blk w' gL 9 (strs L) ∧ Blk w' w.heap.size 47 [.int .i64 0, .int .i64 0, .slice none 0 0, .slice none 0 0] ∧ Blk w' gW 9 (strs ws9) ∧ Below w.heap.size w w') (by kernel_rfl) ?_ (fun hHeld => ?_)
                · (try dsimp only)
                  first | exact ⟨K.drew, Z.drew, KW.drew, G.drew⟩ | exact hHeld
                generalize wr.drew = wx at *
                refine rgTake (i := 0) (d := 58) (v := ?_) rfl rfl (by kernel_rfl) (by kernel_rfl) (by kernel_rfl) (fun _ _ _ h => h) (by rfl) ?_ (by assumption) ?_
                rotate_left
                · ((intro w hSw); (try dsimp only at hSw); go_simp; (try with_reducible rfl))
                try simp only [Act.put, List.setIfInBounds_toArray, List.set_cons_zero, List.set_cons_succ]
                refine rgTake (i := 2) (d := 60) (v := ?_) rfl rfl (by kernel_rfl) (by kernel_rfl) (by kernel_rfl) (fun _ _ _ h => h) (by rfl) ?_ (by assumption) ?_
                rotate_left
                · ((intro w hSw); (try dsimp only at hSw); go_simp; (try with_reducible rfl))
                try simp only [Act.put, List.setIfInBounds_toArray, List.set_cons_zero, List.set_cons_succ]
                refine wpAnyH_ready (rs := [1, 3]) (by kernel_rfl) (by simp) ?_
                refine AllReadyH.cons rfl (fun K hK => ?_) ?_
                ·
                  go_simp
                  refine hK.out _ _ ?_ (fun hHeld => ?_)
                  · (try dsimp only)
                    first | exact ⟨K.drew, Z.drew, KW.drew, G.drew⟩ | exact hHeld
                  clear hK K
                  try simp only [Act.put, List.setIfInBounds_toArray, List.set_cons_zero, List.set_cons_succ]
                  refine wpAnyH_ready (rs := [3]) (by kernel_rfl) (by simp) ?_
                  refine AllReadyH.cons rfl (fun K hK => ?_) AllReadyH.nil
                  go_simp
                  refine hK.out _ _ ?_ (fun hHeld => ?_)
                  · (try dsimp only)
                    first | exact ⟨K.drew, Z.drew, KW.drew, G.drew⟩ | exact hHeld
                  clear hK K
                  try simp only [Act.put, List.setIfInBounds_toArray, List.set_cons_zero, List.set_cons_succ]
                  refine rgTake (i := 4) (d := 62) (v := ?_) rfl rfl (by kernel_rfl) (by kernel_rfl) (by kernel_rfl) (fun _ _ _ h => h) (by rfl) ?_ (by assumption) ?_
                  rotate_left
                  · ((intro w hSw); (try dsimp only at hSw); go_simp; (try with_reducible rfl))
                  try simp only [Act.put, List.setIfInBounds_toArray, List.set_cons_zero, List.set_cons_succ]
                  refine rgTake (i := 5) (d := 63) (v := ?_) rfl rfl (by kernel_rfl) (by kernel_rfl) (by kernel_rfl) (fun _ _ _ h => h) (by rfl) ?_ (by assumption) ?_
                  rotate_left
                  · ((intro w hSw); (try dsimp only at hSw); go_simp; (try with_reducible rfl))
                  try simp only [Act.put, List.setIfInBounds_toArray, List.set_cons_zero, List.set_cons_succ]
                  refine wpAnyH_ready (rs := [6]) (by kernel_rfl) (by simp) ?_
                  refine AllReadyH.cons rfl (fun K hK => ?_) AllReadyH.nil
                  have hXl := hX.lt; replace hX := hX.alloc (.cells #[.int .i64 (IntKind.i64.wrap (IntKind.i64.wrap ((xx[0]'i0z).toNat : Int) - 48))] 3); replace hT := hT.on (Below.alloc (Below.refl _ _) (Nat.le_refl _) (.cells #[.int .i64 (IntKind.i64.wrap (IntKind.i64.wrap ((xx[0]'i0z).toNat : Int) - 48))] 3)); obtain ⟨x0, x1, x2, x3⟩ := blk4 hX; go_simp
                  refine hK.out _ _ ?_ (fun hHeld => ?_)
                  · (try dsimp only)
                    exact ⟨hHeld.1.alloc _, hHeld.2.1.alloc _, hHeld.2.2.1.alloc _, hHeld.2.2.2.alloc hHeld.2.2.2.size _⟩
                  clear hK K
                  try simp only [Act.put, List.setIfInBounds_toArray, List.set_cons_zero, List.set_cons_succ]
                  refine wpAnyH_ready (rs := [7]) (by kernel_rfl) (by simp) ?_
                  refine AllReadyH.cons rfl (fun K hK => ?_) AllReadyH.nil
                  have hWl := hHeld.2.2.1.lt; refine step_append_lies _ rfl _ _ 34 rfl w1.heap.size 3 i0 (.int .i64 0) 1 8 Tryd.underlying34 hi0 hz0 hz1 hz2 rfl (by decide) _ _ _ rfl hT.ob _ 1 1 [.int .i64 (IntKind.i64.wrap (IntKind.i64.wrap ((xx[0]'i0z).toNat : Int) - 48))] rfl rfl (cell_one_new _ _ _) (by intro u hu; simp at hu; subst hu; rfl) (by decide) (by simp only [maxLen]; omega) (by omega) (by have := hX.lt; omega) _ rfl ?_; intro g8 c8 w8 hown hgrow hat hlt; have hT8 := (Two.push (x := IntKind.i64.wrap (IntKind.i64.wrap ((xx[0]'i0z).toNat : Int) - 48)) hT.swap (by have := hX.lt; omega) (by simpa [ints] using hown) hgrow hat).swap; have hX8 := hX.grown hgrow (fun h => hT.bx h.symm); have hXl := hX.lt; have hN8 : some g8 ≠ some gW := (fun h => by rcases hat with e | e; exact NW.2 (e.trans h); (injection h with h; omega)); have K8 := hHeld.1.grown hgrow (fun h => by have := (hT.ob.lt _ h.symm).1; omega); have Z8 := hHeld.2.1.grown hgrow (fun h => by have := (hT.ob.lt _ h.symm).1; omega); have W8 := hHeld.2.2.1.grown hgrow (fun h => NW.2 h.symm); have G8 := hHeld.2.2.2.grown hgrow hHeld.2.2.2.size (fun j hj => by have := (hT.ob.lt j hj).1; omega); clear hT hX x0 x1 x2 x3; obtain ⟨x0, x1, x2, x3⟩ := blk4 hX8; have fx := hX8.frozen 3
                  refine hK.out _ _ ?_ (fun hHeld => ?_)
                  · (try dsimp only)
                    exact ⟨K8, Z8, W8, G8⟩
                  clear hK K
                  try simp only [Act.put, List.setIfInBounds_toArray, List.set_cons_zero, List.set_cons_succ]
                  refine rgTake (i := 8) (d := 66) (v := ?_) rfl rfl (by kernel_rfl) (by kernel_rfl) (by kernel_rfl) (fun _ _ _ h => h) (by rfl) ?_ (by assumption) ?_
                  rotate_left
                  · ((intro w hSw); (try dsimp only at hSw); go_simp; (try with_reducible rfl))
                  try simp only [Act.put, List.setIfInBounds_toArray, List.set_cons_zero, List.set_cons_succ]
                  refine wpAnyH_ready (rs := [9]) (by kernel_rfl) (by simp) ?_
                  refine AllReadyH.cons rfl (fun K hK => ?_) AllReadyH.nil
                  go_simp
                  refine hK.out _ _ ?_ (fun hHeld => ?_)
                  · (try dsimp only)
                    exact ⟨K8.far (by first | omega | (simp; done) | (simp; omega)) _, Z8.far (by first | omega | (simp; done) | (simp; omega)) _, W8.far (by first | omega | (simp; done) | (simp; omega)) _, Below.setCell G8 (by first | omega | (simp; done) | (simp; omega)) _⟩
                  clear hK K
                  try simp only [Act.put, List.setIfInBounds_toArray, List.set_cons_zero, List.set_cons_succ]
                  refine wpAnyH_done (by kernel_rfl) ?_ _
                  go_wp2_with fail
                  go_meet
                  exact ⟨_, _, (by rw [HCO.out]; exact hT8.box), hX8.set_ 3 _, ⟨NW.1, hN8⟩, hHeld⟩
                refine AllReadyH.cons rfl (fun K hK => ?_) ?_
                ·
                  go_simp
                  refine hK.out _ _ ?_ (fun hHeld => ?_)
                  · (try dsimp only)
                    first | exact ⟨K.drew, Z.drew, KW.drew, G.drew⟩ | exact hHeld
                  clear hK K
                  try simp only [Act.put, List.setIfInBounds_toArray, List.set_cons_zero, List.set_cons_succ]
                  refine rgTake (i := 4) (d := 62) (v := ?_) rfl rfl (by kernel_rfl) (by kernel_rfl) (by kernel_rfl) (fun _ _ _ h => h) (by rfl) ?_ (by assumption) ?_
                  rotate_left
                  · ((intro w hSw); (try dsimp only at hSw); go_simp; (try with_reducible rfl))
                  try simp only [Act.put, List.setIfInBounds_toArray, List.set_cons_zero, List.set_cons_succ]
                  refine rgTake (i := 5) (d := 63) (v := ?_) rfl rfl (by kernel_rfl) (by kernel_rfl) (by kernel_rfl) (fun _ _ _ h => h) (by rfl) ?_ (by assumption) ?_
                  rotate_left
                  · ((intro w hSw); (try dsimp only at hSw); go_simp; (try with_reducible rfl))
                  try simp only [Act.put, List.setIfInBounds_toArray, List.set_cons_zero, List.set_cons_succ]
                  refine wpAnyH_ready (rs := [1, 6]) (by kernel_rfl) (by simp) ?_
                  refine AllReadyH.cons rfl (fun K hK => ?_) ?_
                  ·
                    go_simp
                    refine hK.out _ _ ?_ (fun hHeld => ?_)
                    · (try dsimp only)
                      first | exact ⟨K.drew, Z.drew, KW.drew, G.drew⟩ | exact hHeld
                    clear hK K
                    try simp only [Act.put, List.setIfInBounds_toArray, List.set_cons_zero, List.set_cons_succ]
                    refine wpAnyH_ready (rs := [6]) (by kernel_rfl) (by simp) ?_
                    refine AllReadyH.cons rfl (fun K hK => ?_) AllReadyH.nil
                    have hXl := hX.lt; replace hX := hX.alloc (.cells #[.int .i64 (IntKind.i64.wrap (IntKind.i64.wrap ((xx[0]'i0z).toNat : Int) - 48))] 3); replace hT := hT.on (Below.alloc (Below.refl _ _) (Nat.le_refl _) (.cells #[.int .i64 (IntKind.i64.wrap (IntKind.i64.wrap ((xx[0]'i0z).toNat : Int) - 48))] 3)); obtain ⟨x0, x1, x2, x3⟩ := blk4 hX; go_simp
                    refine hK.out _ _ ?_ (fun hHeld => ?_)
                    · (try dsimp only)
                      exact ⟨hHeld.1.alloc _, hHeld.2.1.alloc _, hHeld.2.2.1.alloc _, hHeld.2.2.2.alloc hHeld.2.2.2.size _⟩
                    clear hK K
                    try simp only [Act.put, List.setIfInBounds_toArray, List.set_cons_zero, List.set_cons_succ]
                    refine wpAnyH_ready (rs := [7]) (by kernel_rfl) (by simp) ?_
                    refine AllReadyH.cons rfl (fun K hK => ?_) AllReadyH.nil
                    have hWl := hHeld.2.2.1.lt; refine step_append_lies _ rfl _ _ 34 rfl w1.heap.size 3 i0 (.int .i64 0) 1 8 Tryd.underlying34 hi0 hz0 hz1 hz2 rfl (by decide) _ _ _ rfl hT.ob _ 1 1 [.int .i64 (IntKind.i64.wrap (IntKind.i64.wrap ((xx[0]'i0z).toNat : Int) - 48))] rfl rfl (cell_one_new _ _ _) (by intro u hu; simp at hu; subst hu; rfl) (by decide) (by simp only [maxLen]; omega) (by omega) (by have := hX.lt; omega) _ rfl ?_; intro g8 c8 w8 hown hgrow hat hlt; have hT8 := (Two.push (x := IntKind.i64.wrap (IntKind.i64.wrap ((xx[0]'i0z).toNat : Int) - 48)) hT.swap (by have := hX.lt; omega) (by simpa [ints] using hown) hgrow hat).swap; have hX8 := hX.grown hgrow (fun h => hT.bx h.symm); have hXl := hX.lt; have hN8 : some g8 ≠ some gW := (fun h => by rcases hat with e | e; exact NW.2 (e.trans h); (injection h with h; omega)); have K8 := hHeld.1.grown hgrow (fun h => by have := (hT.ob.lt _ h.symm).1; omega); have Z8 := hHeld.2.1.grown hgrow (fun h => by have := (hT.ob.lt _ h.symm).1; omega); have W8 := hHeld.2.2.1.grown hgrow (fun h => NW.2 h.symm); have G8 := hHeld.2.2.2.grown hgrow hHeld.2.2.2.size (fun j hj => by have := (hT.ob.lt j hj).1; omega); clear hT hX x0 x1 x2 x3; obtain ⟨x0, x1, x2, x3⟩ := blk4 hX8; have fx := hX8.frozen 3
                    refine hK.out _ _ ?_ (fun hHeld => ?_)
                    · (try dsimp only)
                      exact ⟨K8, Z8, W8, G8⟩
                    clear hK K
                    try simp only [Act.put, List.setIfInBounds_toArray, List.set_cons_zero, List.set_cons_succ]
                    refine rgTake (i := 8) (d := 66) (v := ?_) rfl rfl (by kernel_rfl) (by kernel_rfl) (by kernel_rfl) (fun _ _ _ h => h) (by rfl) ?_ (by assumption) ?_
                    rotate_left
                    · ((intro w hSw); (try dsimp only at hSw); go_simp; (try with_reducible rfl))
                    try simp only [Act.put, List.setIfInBounds_toArray, List.set_cons_zero, List.set_cons_succ]
                    refine wpAnyH_ready (rs := [9]) (by kernel_rfl) (by simp) ?_
                    refine AllReadyH.cons rfl (fun K hK => ?_) AllReadyH.nil
                    go_simp
                    refine hK.out _ _ ?_ (fun hHeld => ?_)
                    · (try dsimp only)
                      exact ⟨K8.far (by first | omega | (simp; done) | (simp; omega)) _, Z8.far (by first | omega | (simp; done) | (simp; omega)) _, W8.far (by first | omega | (simp; done) | (simp; omega)) _, Below.setCell G8 (by first | omega | (simp; done) | (simp; omega)) _⟩
                    clear hK K
                    try simp only [Act.put, List.setIfInBounds_toArray, List.set_cons_zero, List.set_cons_succ]
                    refine wpAnyH_done (by kernel_rfl) ?_ _
                    go_wp2_with fail
                    go_meet
                    exact ⟨_, _, (by rw [HCO.out]; exact hT8.box), hX8.set_ 3 _, ⟨NW.1, hN8⟩, hHeld⟩
                  refine AllReadyH.cons rfl (fun K hK => ?_) ?_
                  ·
                    have hXl := hX.lt; replace hX := hX.alloc (.cells #[.int .i64 (IntKind.i64.wrap (IntKind.i64.wrap ((xx[0]'i0z).toNat : Int) - 48))] 3); replace hT := hT.on (Below.alloc (Below.refl _ _) (Nat.le_refl _) (.cells #[.int .i64 (IntKind.i64.wrap (IntKind.i64.wrap ((xx[0]'i0z).toNat : Int) - 48))] 3)); obtain ⟨x0, x1, x2, x3⟩ := blk4 hX; go_simp
                    refine hK.out _ _ ?_ (fun hHeld => ?_)
                    · (try dsimp only)
                      exact ⟨hHeld.1.alloc _, hHeld.2.1.alloc _, hHeld.2.2.1.alloc _, hHeld.2.2.2.alloc hHeld.2.2.2.size _⟩
                    clear hK K
                    try simp only [Act.put, List.setIfInBounds_toArray, List.set_cons_zero, List.set_cons_succ]
                    refine wpAnyH_ready (rs := [1]) (by kernel_rfl) (by simp) ?_
                    refine AllReadyH.cons rfl (fun K hK => ?_) AllReadyH.nil
                    go_simp
                    refine hK.out _ _ ?_ (fun hHeld => ?_)
                    · (try dsimp only)
                      first | exact ⟨K.drew, Z.drew, KW.drew, G.drew⟩ | exact hHeld
                    clear hK K
                    try simp only [Act.put, List.setIfInBounds_toArray, List.set_cons_zero, List.set_cons_succ]
                    refine wpAnyH_ready (rs := [7]) (by kernel_rfl) (by simp) ?_
                    refine AllReadyH.cons rfl (fun K hK => ?_) AllReadyH.nil
                    have hWl := hHeld.2.2.1.lt; refine step_append_lies _ rfl _ _ 34 rfl w1.heap.size 3 i0 (.int .i64 0) 1 8 Tryd.underlying34 hi0 hz0 hz1 hz2 rfl (by decide) _ _ _ rfl hT.ob _ 1 1 [.int .i64 (IntKind.i64.wrap (IntKind.i64.wrap ((xx[0]'i0z).toNat : Int) - 48))] rfl rfl (cell_one_new _ _ _) (by intro u hu; simp at hu; subst hu; rfl) (by decide) (by simp only [maxLen]; omega) (by omega) (by have := hX.lt; omega) _ rfl ?_; intro g8 c8 w8 hown hgrow hat hlt; have hT8 := (Two.push (x := IntKind.i64.wrap (IntKind.i64.wrap ((xx[0]'i0z).toNat : Int) - 48)) hT.swap (by have := hX.lt; omega) (by simpa [ints] using hown) hgrow hat).swap; have hX8 := hX.grown hgrow (fun h => hT.bx h.symm); have hXl := hX.lt; have hN8 : some g8 ≠ some gW := (fun h => by rcases hat with e | e; exact NW.2 (e.trans h); (injection h with h; omega)); have K8 := hHeld.1.grown hgrow (fun h => by have := (hT.ob.lt _ h.symm).1; omega); have Z8 := hHeld.2.1.grown hgrow (fun h => by have := (hT.ob.lt _ h.symm).1; omega); have W8 := hHeld.2.2.1.grown hgrow (fun h => NW.2 h.symm); have G8 := hHeld.2.2.2.grown hgrow hHeld.2.2.2.size (fun j hj => by have := (hT.ob.lt j hj).1; omega); clear hT hX x0 x1 x2 x3; obtain ⟨x0, x1, x2, x3⟩ := blk4 hX8; have fx := hX8.frozen 3
                    refine hK.out _ _ ?_ (fun hHeld => ?_)
                    · (try dsimp only)
                      exact ⟨K8, Z8, W8, G8⟩
                    clear hK K
                    try simp only [Act.put, List.setIfInBounds_toArray, List.set_cons_zero, List.set_cons_succ]
                    refine rgTake (i := 8) (d := 66) (v := ?_) rfl rfl (by kernel_rfl) (by kernel_rfl) (by kernel_rfl) (fun _ _ _ h => h) (by rfl) ?_ (by assumption) ?_
                    rotate_left
                    · ((intro w hSw); (try dsimp only at hSw); go_simp; (try with_reducible rfl))
                    try simp only [Act.put, List.setIfInBounds_toArray, List.set_cons_zero, List.set_cons_succ]
                    refine wpAnyH_ready (rs := [9]) (by kernel_rfl) (by simp) ?_
                    refine AllReadyH.cons rfl (fun K hK => ?_) AllReadyH.nil
                    go_simp
                    refine hK.out _ _ ?_ (fun hHeld => ?_)
                    · (try dsimp only)
                      exact ⟨K8.far (by first | omega | (simp; done) | (simp; omega)) _, Z8.far (by first | omega | (simp; done) | (simp; omega)) _, W8.far (by first | omega | (simp; done) | (simp; omega)) _, Below.setCell G8 (by first | omega | (simp; done) | (simp; omega)) _⟩
                    clear hK K
                    try simp only [Act.put, List.setIfInBounds_toArray, List.set_cons_zero, List.set_cons_succ]
                    refine wpAnyH_done (by kernel_rfl) ?_ _
                    go_wp2_with fail
                    go_meet
                    exact ⟨_, _, (by rw [HCO.out]; exact hT8.box), hX8.set_ 3 _, ⟨NW.1, hN8⟩, hHeld⟩
                  exact AllReadyH.nil
                exact AllReadyH.nil
              case rest =>
              obtain ⟨R, e, hT, hX, NW, K, Z, KW, G⟩ := hcut
              go_wp2_with fail
              go_upto_region 18 with (fail)
              replace hT := hT.drew
              replace hX := hX.drew
              obtain ⟨x0, x1, x2, x3⟩ := blk4 hX
              refine wp_region_held_drew (S := fun w' => Blk w' gL 9 (strs L) ∧ Blk w' w.heap.size 47 [.int .i64 0, .int .i64 0, .slice none 0 0, .slice none 0 0] ∧ Blk w' gW 9 (strs ws9) ∧ Below w.heap.size w w') (by kernel_rfl) ?_ (fun hHeld => ?_)
              · (try dsimp only)
                first | exact ⟨K.drew, Z.drew, KW.drew, G.drew⟩ | exact hHeld
              generalize wc.drew = wx at *
              refine rgTake (i := 0) (d := 67) (v := ?_) rfl rfl (by kernel_rfl) (by kernel_rfl) (by kernel_rfl) (fun _ _ _ h => h) (by rfl) ?_ (by assumption) ?_
              rotate_left
              · ((intro w hSw); (try dsimp only at hSw); go_simp; (try with_reducible rfl))
              try simp only [Act.put, List.setIfInBounds_toArray, List.set_cons_zero, List.set_cons_succ]
              refine rgTake (i := 2) (d := 69) (v := ?_) rfl rfl (by kernel_rfl) (by kernel_rfl) (by kernel_rfl) (fun _ _ _ h => h) (by rfl) ?_ (by assumption) ?_
              rotate_left
              · ((intro w hSw); (try dsimp only at hSw); go_simp; (try with_reducible rfl))
              try simp only [Act.put, List.setIfInBounds_toArray, List.set_cons_zero, List.set_cons_succ]
              refine wpAnyH_ready (rs := [1, 3]) (by kernel_rfl) (by simp) ?_
              refine AllReadyH.cons rfl (fun K hK => ?_) ?_
              ·
                go_simp
                refine hK.out _ _ ?_ (fun hHeld => ?_)
                · (try dsimp only)
                  first | exact ⟨K.drew, Z.drew, KW.drew, G.drew⟩ | exact hHeld
                clear hK K
                try simp only [Act.put, List.setIfInBounds_toArray, List.set_cons_zero, List.set_cons_succ]
                refine wpAnyH_ready (rs := [3]) (by kernel_rfl) (by simp) ?_
                refine AllReadyH.cons rfl (fun K hK => ?_) AllReadyH.nil
                go_simp
                refine hK.out _ _ ?_ (fun hHeld => ?_)
                · (try dsimp only)
                  first | exact ⟨K.drew, Z.drew, KW.drew, G.drew⟩ | exact hHeld
                clear hK K
                try simp only [Act.put, List.setIfInBounds_toArray, List.set_cons_zero, List.set_cons_succ]
                refine rgTake (i := 4) (d := 71) (v := ?_) rfl rfl (by kernel_rfl) (by kernel_rfl) (by kernel_rfl) (fun _ _ _ h => h) (by rfl) ?_ (by assumption) ?_
                rotate_left
                · ((intro w hSw); (try dsimp only at hSw); go_simp; (try with_reducible rfl))
                try simp only [Act.put, List.setIfInBounds_toArray, List.set_cons_zero, List.set_cons_succ]
                refine rgTake (i := 5) (d := 72) (v := ?_) rfl rfl (by kernel_rfl) (by kernel_rfl) (by kernel_rfl) (fun _ _ _ h => h) (by rfl) ?_ (by assumption) ?_
                rotate_left
                · ((intro w hSw); (try dsimp only at hSw); go_simp; (try with_reducible rfl))
                try simp only [Act.put, List.setIfInBounds_toArray, List.set_cons_zero, List.set_cons_succ]
                refine wpAnyH_ready (rs := [6]) (by kernel_rfl) (by simp) ?_
                refine AllReadyH.cons rfl (fun K hK => ?_) AllReadyH.nil
                have hXl := hX.lt; replace hX := hX.alloc (.cells #[.int .i64 (IntKind.i64.wrap (IntKind.i64.wrap ((xx[1]'i1z).toNat : Int) - 48))] 3); replace hT := hT.on (Below.alloc (Below.refl _ _) (Nat.le_refl _) (.cells #[.int .i64 (IntKind.i64.wrap (IntKind.i64.wrap ((xx[1]'i1z).toNat : Int) - 48))] 3)); obtain ⟨x0, x1, x2, x3⟩ := blk4 hX; go_simp
                refine hK.out _ _ ?_ (fun hHeld => ?_)
                · (try dsimp only)
                  exact ⟨hHeld.1.alloc _, hHeld.2.1.alloc _, hHeld.2.2.1.alloc _, hHeld.2.2.2.alloc hHeld.2.2.2.size _⟩
                clear hK K
                try simp only [Act.put, List.setIfInBounds_toArray, List.set_cons_zero, List.set_cons_succ]
                refine wpAnyH_ready (rs := [7]) (by kernel_rfl) (by simp) ?_
                refine AllReadyH.cons rfl (fun K hK => ?_) AllReadyH.nil
                have hWl := hHeld.2.2.1.lt; refine step_append_lies _ rfl _ _ 34 rfl w1.heap.size 3 i0 (.int .i64 0) 1 8 Tryd.underlying34 hi0 hz0 hz1 hz2 rfl (by decide) _ _ _ rfl hT.oa _ 1 1 [.int .i64 (IntKind.i64.wrap (IntKind.i64.wrap ((xx[1]'i1z).toNat : Int) - 48))] rfl rfl (cell_one_new _ _ _) (by intro u hu; simp at hu; subst hu; rfl) (by decide) (by simp only [maxLen]; omega) (by omega) (by have := hX.lt; omega) _ rfl ?_; intro g8 c8 w8 hown hgrow hat hlt; have hT8 := (Two.push (x := IntKind.i64.wrap (IntKind.i64.wrap ((xx[1]'i1z).toNat : Int) - 48)) hT (by have := hX.lt; omega) (by simpa [ints] using hown) hgrow hat); have hX8 := hX.grown hgrow (fun h => hT.ax h.symm); have hXl := hX.lt; have hN8 : some g8 ≠ some gW := (fun h => by rcases hat with e | e; exact NW.1 (e.trans h); (injection h with h; omega)); have K8 := hHeld.1.grown hgrow (fun h => by have := (hT.oa.lt _ h.symm).1; omega); have Z8 := hHeld.2.1.grown hgrow (fun h => by have := (hT.oa.lt _ h.symm).1; omega); have W8 := hHeld.2.2.1.grown hgrow (fun h => NW.1 h.symm); have G8 := hHeld.2.2.2.grown hgrow hHeld.2.2.2.size (fun j hj => by have := (hT.oa.lt j hj).1; omega); clear hT hX x0 x1 x2 x3; obtain ⟨x0, x1, x2, x3⟩ := blk4 hX8; have fx := hX8.frozen 2
                refine hK.out _ _ ?_ (fun hHeld => ?_)
                · (try dsimp only)
                  exact ⟨K8, Z8, W8, G8⟩
                clear hK K
                try simp only [Act.put, List.setIfInBounds_toArray, List.set_cons_zero, List.set_cons_succ]
                refine rgTake (i := 8) (d := 75) (v := ?_) rfl rfl (by kernel_rfl) (by kernel_rfl) (by kernel_rfl) (fun _ _ _ h => h) (by rfl) ?_ (by assumption) ?_
                rotate_left
                · ((intro w hSw); (try dsimp only at hSw); go_simp; (try with_reducible rfl))
                try simp only [Act.put, List.setIfInBounds_toArray, List.set_cons_zero, List.set_cons_succ]
                refine wpAnyH_ready (rs := [9]) (by kernel_rfl) (by simp) ?_
                refine AllReadyH.cons rfl (fun K hK => ?_) AllReadyH.nil
                go_simp
                refine hK.out _ _ ?_ (fun hHeld => ?_)
                · (try dsimp only)
                  exact ⟨K8.far (by first | omega | (simp; done) | (simp; omega)) _, Z8.far (by first | omega | (simp; done) | (simp; omega)) _, W8.far (by first | omega | (simp; done) | (simp; omega)) _, Below.setCell G8 (by first | omega | (simp; done) | (simp; omega)) _⟩
                clear hK K
                try simp only [Act.put, List.setIfInBounds_toArray, List.set_cons_zero, List.set_cons_succ]
                refine wpAnyH_done (by kernel_rfl) ?_ _
                go_wp2_with fail
                go_roundw
                case rel => exact ⟨j + 1, q + 1, _, R, _, e, by omega, by go_num, (show q + 1 = (wsJ L y (j + 1)).length by rw [HSN.out, List.length_append, ← HQ.out]; rfl), by omega, (by show Two _ _ _ _ _ _ _ _ _ _ _; rw [HSN.out, List.map_append, List.map_append, List.map_singleton, List.map_singleton, HRI.out]; exact hT8.box), hX8.set_ 2 _, ⟨hN8, NW.2⟩, hHeld⟩
                case measure => simp [intOf]; omega
              refine AllReadyH.cons rfl (fun K hK => ?_) ?_
              ·
                go_simp
                refine hK.out _ _ ?_ (fun hHeld => ?_)
                · (try dsimp only)
                  first | exact ⟨K.drew, Z.drew, KW.drew, G.drew⟩ | exact hHeld
                clear hK K
                try simp only [Act.put, List.setIfInBounds_toArray, List.set_cons_zero, List.set_cons_succ]
                refine rgTake (i := 4) (d := 71) (v := ?_) rfl rfl (by kernel_rfl) (by kernel_rfl) (by kernel_rfl) (fun _ _ _ h => h) (by rfl) ?_ (by assumption) ?_
                rotate_left
                · ((intro w hSw); (try dsimp only at hSw); go_simp; (try with_reducible rfl))
                try simp only [Act.put, List.setIfInBounds_toArray, List.set_cons_zero, List.set_cons_succ]
                refine rgTake (i := 5) (d := 72) (v := ?_) rfl rfl (by kernel_rfl) (by kernel_rfl) (by kernel_rfl) (fun _ _ _ h => h) (by rfl) ?_ (by assumption) ?_
                rotate_left
                · ((intro w hSw); (try dsimp only at hSw); go_simp; (try with_reducible rfl))
                try simp only [Act.put, List.setIfInBounds_toArray, List.set_cons_zero, List.set_cons_succ]
                refine wpAnyH_ready (rs := [1, 6]) (by kernel_rfl) (by simp) ?_
                refine AllReadyH.cons rfl (fun K hK => ?_) ?_
                ·
                  go_simp
                  refine hK.out _ _ ?_ (fun hHeld => ?_)
                  · (try dsimp only)
                    first | exact ⟨K.drew, Z.drew, KW.drew, G.drew⟩ | exact hHeld
                  clear hK K
                  try simp only [Act.put, List.setIfInBounds_toArray, List.set_cons_zero, List.set_cons_succ]
                  refine wpAnyH_ready (rs := [6]) (by kernel_rfl) (by simp) ?_
                  refine AllReadyH.cons rfl (fun K hK => ?_) AllReadyH.nil
                  have hXl := hX.lt; replace hX := hX.alloc (.cells #[.int .i64 (IntKind.i64.wrap (IntKind.i64.wrap ((xx[1]'i1z).toNat : Int) - 48))] 3); replace hT := hT.on (Below.alloc (Below.refl _ _) (Nat.le_refl _) (.cells #[.int .i64 (IntKind.i64.wrap (IntKind.i64.wrap ((xx[1]'i1z).toNat : Int) - 48))] 3)); obtain ⟨x0, x1, x2, x3⟩ := blk4 hX; go_simp
                  refine hK.out _ _ ?_ (fun hHeld => ?_)
                  · (try dsimp only)
                    exact ⟨hHeld.1.alloc _, hHeld.2.1.alloc _, hHeld.2.2.1.alloc _, hHeld.2.2.2.alloc hHeld.2.2.2.size _⟩
                  clear hK K
                  try simp only [Act.put, List.setIfInBounds_toArray, List.set_cons_zero, List.set_cons_succ]
                  refine wpAnyH_ready (rs := [7]) (by kernel_rfl) (by simp) ?_
                  refine AllReadyH.cons rfl (fun K hK => ?_) AllReadyH.nil
                  have hWl := hHeld.2.2.1.lt; refine step_append_lies _ rfl _ _ 34 rfl w1.heap.size 3 i0 (.int .i64 0) 1 8 Tryd.underlying34 hi0 hz0 hz1 hz2 rfl (by decide) _ _ _ rfl hT.oa _ 1 1 [.int .i64 (IntKind.i64.wrap (IntKind.i64.wrap ((xx[1]'i1z).toNat : Int) - 48))] rfl rfl (cell_one_new _ _ _) (by intro u hu; simp at hu; subst hu; rfl) (by decide) (by simp only [maxLen]; omega) (by omega) (by have := hX.lt; omega) _ rfl ?_; intro g8 c8 w8 hown hgrow hat hlt; have hT8 := (Two.push (x := IntKind.i64.wrap (IntKind.i64.wrap ((xx[1]'i1z).toNat : Int) - 48)) hT (by have := hX.lt; omega) (by simpa [ints] using hown) hgrow hat); have hX8 := hX.grown hgrow (fun h => hT.ax h.symm); have hXl := hX.lt; have hN8 : some g8 ≠ some gW := (fun h => by rcases hat with e | e; exact NW.1 (e.trans h); (injection h with h; omega)); have K8 := hHeld.1.grown hgrow (fun h => by have := (hT.oa.lt _ h.symm).1; omega); have Z8 := hHeld.2.1.grown hgrow (fun h => by have := (hT.oa.lt _ h.symm).1; omega); have W8 := hHeld.2.2.1.grown hgrow (fun h => NW.1 h.symm); have G8 := hHeld.2.2.2.grown hgrow hHeld.2.2.2.size (fun j hj => by have := (hT.oa.lt j hj).1; omega); clear hT hX x0 x1 x2 x3; obtain ⟨x0, x1, x2, x3⟩ := blk4 hX8; have fx := hX8.frozen 2
                  refine hK.out _ _ ?_ (fun hHeld => ?_)
                  · (try dsimp only)
                    exact ⟨K8, Z8, W8, G8⟩
                  clear hK K
                  try simp only [Act.put, List.setIfInBounds_toArray, List.set_cons_zero, List.set_cons_succ]
                  refine rgTake (i := 8) (d := 75) (v := ?_) rfl rfl (by kernel_rfl) (by kernel_rfl) (by kernel_rfl) (fun _ _ _ h => h) (by rfl) ?_ (by assumption) ?_
                  rotate_left
                  · ((intro w hSw); (try dsimp only at hSw); go_simp; (try with_reducible rfl))
                  try simp only [Act.put, List.setIfInBounds_toArray, List.set_cons_zero, List.set_cons_succ]
                  refine wpAnyH_ready (rs := [9]) (by kernel_rfl) (by simp) ?_
                  refine AllReadyH.cons rfl (fun K hK => ?_) AllReadyH.nil
                  go_simp
                  refine hK.out _ _ ?_ (fun hHeld => ?_)
                  · (try dsimp only)
                    exact ⟨K8.far (by first | omega | (simp; done) | (simp; omega)) _, Z8.far (by first | omega | (simp; done) | (simp; omega)) _, W8.far (by first | omega | (simp; done) | (simp; omega)) _, Below.setCell G8 (by first | omega | (simp; done) | (simp; omega)) _⟩
                  clear hK K
                  try simp only [Act.put, List.setIfInBounds_toArray, List.set_cons_zero, List.set_cons_succ]
                  refine wpAnyH_done (by kernel_rfl) ?_ _
                  go_wp2_with fail
                  go_roundw
                  case rel => exact ⟨j + 1, q + 1, _, R, _, e, by omega, by go_num, (show q + 1 = (wsJ L y (j + 1)).length by rw [HSN.out, List.length_append, ← HQ.out]; rfl), by omega, (by show Two _ _ _ _ _ _ _ _ _ _ _; rw [HSN.out, List.map_append, List.map_append, List.map_singleton, List.map_singleton, HRI.out]; exact hT8.box), hX8.set_ 2 _, ⟨hN8, NW.2⟩, hHeld⟩
                  case measure => simp [intOf]; omega
                refine AllReadyH.cons rfl (fun K hK => ?_) ?_
                ·
                  have hXl := hX.lt; replace hX := hX.alloc (.cells #[.int .i64 (IntKind.i64.wrap (IntKind.i64.wrap ((xx[1]'i1z).toNat : Int) - 48))] 3); replace hT := hT.on (Below.alloc (Below.refl _ _) (Nat.le_refl _) (.cells #[.int .i64 (IntKind.i64.wrap (IntKind.i64.wrap ((xx[1]'i1z).toNat : Int) - 48))] 3)); obtain ⟨x0, x1, x2, x3⟩ := blk4 hX; go_simp
                  refine hK.out _ _ ?_ (fun hHeld => ?_)
                  · (try dsimp only)
                    exact ⟨hHeld.1.alloc _, hHeld.2.1.alloc _, hHeld.2.2.1.alloc _, hHeld.2.2.2.alloc hHeld.2.2.2.size _⟩
                  clear hK K
                  try simp only [Act.put, List.setIfInBounds_toArray, List.set_cons_zero, List.set_cons_succ]
                  refine wpAnyH_ready (rs := [1]) (by kernel_rfl) (by simp) ?_
                  refine AllReadyH.cons rfl (fun K hK => ?_) AllReadyH.nil
                  go_simp
                  refine hK.out _ _ ?_ (fun hHeld => ?_)
                  · (try dsimp only)
                    first | exact ⟨K.drew, Z.drew, KW.drew, G.drew⟩ | exact hHeld
                  clear hK K
                  try simp only [Act.put, List.setIfInBounds_toArray, List.set_cons_zero, List.set_cons_succ]
                  refine wpAnyH_ready (rs := [7]) (by kernel_rfl) (by simp) ?_
                  refine AllReadyH.cons rfl (fun K hK => ?_) AllReadyH.nil
                  have hWl := hHeld.2.2.1.lt; refine step_append_lies _ rfl _ _ 34 rfl w1.heap.size 3 i0 (.int .i64 0) 1 8 Tryd.underlying34 hi0 hz0 hz1 hz2 rfl (by decide) _ _ _ rfl hT.oa _ 1 1 [.int .i64 (IntKind.i64.wrap (IntKind.i64.wrap ((xx[1]'i1z).toNat : Int) - 48))] rfl rfl (cell_one_new _ _ _) (by intro u hu; simp at hu; subst hu; rfl) (by decide) (by simp only [maxLen]; omega) (by omega) (by have := hX.lt; omega) _ rfl ?_; intro g8 c8 w8 hown hgrow hat hlt; have hT8 := (Two.push (x := IntKind.i64.wrap (IntKind.i64.wrap ((xx[1]'i1z).toNat : Int) - 48)) hT (by have := hX.lt; omega) (by simpa [ints] using hown) hgrow hat); have hX8 := hX.grown hgrow (fun h => hT.ax h.symm); have hXl := hX.lt; have hN8 : some g8 ≠ some gW := (fun h => by rcases hat with e | e; exact NW.1 (e.trans h); (injection h with h; omega)); have K8 := hHeld.1.grown hgrow (fun h => by have := (hT.oa.lt _ h.symm).1; omega); have Z8 := hHeld.2.1.grown hgrow (fun h => by have := (hT.oa.lt _ h.symm).1; omega); have W8 := hHeld.2.2.1.grown hgrow (fun h => NW.1 h.symm); have G8 := hHeld.2.2.2.grown hgrow hHeld.2.2.2.size (fun j hj => by have := (hT.oa.lt j hj).1; omega); clear hT hX x0 x1 x2 x3; obtain ⟨x0, x1, x2, x3⟩ := blk4 hX8; have fx := hX8.frozen 2
                  refine hK.out _ _ ?_ (fun hHeld => ?_)
                  · (try dsimp only)
                    exact ⟨K8, Z8, W8, G8⟩
                  clear hK K
                  try simp only [Act.put, List.setIfInBounds_toArray, List.set_cons_zero, List.set_cons_succ]
                  refine rgTake (i := 8) (d := 75) (v := ?_) rfl rfl (by kernel_rfl) (by kernel_rfl) (by kernel_rfl) (fun _ _ _ h => h) (by rfl) ?_ (by assumption) ?_
                  rotate_left
                  · ((intro w hSw); (try dsimp only at hSw); go_simp; (try with_reducible rfl))
                  try simp only [Act.put, List.setIfInBounds_toArray, List.set_cons_zero, List.set_cons_succ]
                  refine wpAnyH_ready (rs := [9]) (by kernel_rfl) (by simp) ?_
                  refine AllReadyH.cons rfl (fun K hK => ?_) AllReadyH.nil
                  go_simp
                  refine hK.out _ _ ?_ (fun hHeld => ?_)
                  · (try dsimp only)
                    exact ⟨K8.far (by first | omega | (simp; done) | (simp; omega)) _, Z8.far (by first | omega | (simp; done) | (simp; omega)) _, W8.far (by first | omega | (simp; done) | (simp; omega)) _, Below.setCell G8 (by first | omega | (simp; done) | (simp; omega)) _⟩
                  clear hK K
                  try simp only [Act.put, List.setIfInBounds_toArray, List.set_cons_zero, List.set_cons_succ]
                  refine wpAnyH_done (by kernel_rfl) ?_ _
                  go_wp2_with fail
                  go_roundw
                  case rel => exact ⟨j + 1, q + 1, _, R, _, e, by omega, by go_num, (show q + 1 = (wsJ L y (j + 1)).length by rw [HSN.out, List.length_append, ← HQ.out]; rfl), by omega, (by show Two _ _ _ _ _ _ _ _ _ _ _; rw [HSN.out, List.map_append, List.map_append, List.map_singleton, List.map_singleton, HRI.out]; exact hT8.box), hX8.set_ 2 _, ⟨hN8, NW.2⟩, hHeld⟩
                  case measure => simp [intOf]; omega
                exact AllReadyH.nil
              exact AllReadyH.nil
            · have h36i : (36 : Int) < (q : Int) := by omega
              have HP := Lib.hid (HX3.out (by omega))
              obtain ⟨x0, x1, x2, x3⟩ := blk4 hX
              obtain ⟨z0, z1, z2, z3⟩ := blk4 Z
              have f0 := Z.frozen 0; have f1 := Z.frozen 1; have f2 := Z.frozen 2; have f3 := Z.frozen 3
              have Z2 := (((Z.set_ 0 (.int .i64 0)).set_ 1 (.int .i64 0)).set_ 2 (.slice none 0 0)).set_ 3 (.slice none 0 0)
              obtain ⟨q0, q1, q2, q3⟩ := blk4 Z2
              have GP := Below.setCell (Below.setCell (Below.setCell (Below.setCell G (p := ⟨w.heap.size, 0, none⟩) (Nat.le_refl _) (.int .i64 0)) (p := ⟨w.heap.size, 1, none⟩) (Nat.le_refl _) (.int .i64 0)) (p := ⟨w.heap.size, 2, none⟩) (Nat.le_refl _) (.slice none 0 0)) (p := ⟨w.heap.size, 3, none⟩) (Nat.le_refl _) (.slice none 0 0)
              clear Z2
              go_wp2_with fail
              refine bodyPost_ret (v := .tuple #[.agg #[.int .i64 0, .int .i64 0, .slice none 0 0, .slice none 0 0], .bool false]) ?_ ?_ ?_
              · simp [results, Tryd.results28, go_sem, q0, q1, q2, q3]
              · rfl
              rw [HP.out.1, HP.out.2]
              exact mapEnd_zero GP
          · have e9 : (x9.toList == [35, 35]) = false := by rw [q1]; exact decide_eq_false hh
            by_cases hz : x9.size = 2
            · have i0z : 0 < x9.size := by omega
              have i1z : 1 < x9.size := by omega
              have HCO : Hid (coI x9 = IntKind.i64.wrap (IntKind.i64.wrap ((x9[0]'i0z).toNat : Int) - 48)) := (by have h9 := (x9[0]'i0z).toNat_lt; rw [IntWalk.i64_in (((x9[0]'i0z).toNat : Int)) (by omega), IntWalk.i64_in _ (by omega)]; exact (co_get hz hh).1 : coI x9 = _)
              have HRI : Hid (riI x9 = IntKind.i64.wrap (IntKind.i64.wrap ((x9[1]'i1z).toNat : Int) - 48)) := (by have h9 := (x9[1]'i1z).toNat_lt; rw [IntWalk.i64_in (((x9[1]'i1z).toNat : Int)) (by omega), IntWalk.i64_in _ (by omega)]; exact (co_get hz hh).2 : riI x9 = _)
              have hzi : (x9.size : Int) = 2 := by omega
              have hzb : ((x9.size : Int) != 2) = false := by simp [hz]
              clear q1 hh HX9
              go_upto_region 15 with (fail)
              by_cases h36 : q ≤ 36
              · have h36i : ¬ (36 : Int) < (q : Int) := by omega
                obtain ⟨x0, x1, x2, x3⟩ := blk4 hX
                go_wp2_with fail
                clear x0 x1 x2 x3
                go_upto_region 17 with (fail)
                go_cut [65] (fun _ wx => ∃ (R1 : Option Addr) (e1 : Nat), Two wx w1.heap.size (w1.heap.size + 1 + 1) P R1 q c e1 (ws.map riI) (ws.map coI ++ [coI x9]) (q + 1) ∧ Blk wx (w1.heap.size + 1 + 1) 47 [.int .i64 (nw : Int), .int .i64 (H : Int), .slice P q c, .slice R1 (q + 1) e1] ∧ (Value.ownBlock (.slice P q c) ≠ some gW ∧ Value.ownBlock (.slice R1 (q + 1) e1) ≠ some gW) ∧ Blk wx gL 9 (strs L) ∧ Blk wx w.heap.size 47 [.int .i64 0, .int .i64 0, .slice none 0 0, .slice none 0 0] ∧ Blk wx gW 9 (strs ws9) ∧ Below w.heap.size w wx)
                case first =>
                  replace hT := hT.drew
                  replace hX := hX.drew
                  obtain ⟨x0, x1, x2, x3⟩ := blk4 hX
                  refine wp_region_held_drew (S := fun w' => Blk w' gL 9 (strs L) ∧ Blk w' w.heap.size 47 [.int .i64 0, .int .i64 0, .slice none 0 0, .slice none 0 0] ∧ Blk w' gW 9 (strs ws9) ∧ Below w.heap.size w w') (by kernel_rfl) ?_ (fun hHeld => ?_)
                  · (try dsimp only)
                    first | exact ⟨K.drew, Z.drew, KW.drew, G.drew⟩ | exact hHeld
                  generalize wr.drew = wx at *
                  refine rgTake (i := 0) (d := 58) (v := ?_) rfl rfl (by kernel_rfl) (by kernel_rfl) (by kernel_rfl) (fun _ _ _ h => h) (by rfl) ?_ (by assumption) ?_
                  rotate_left
                  · ((intro w hSw); (try dsimp only at hSw); go_simp; (try with_reducible rfl))
                  try simp only [Act.put, List.setIfInBounds_toArray, List.set_cons_zero, List.set_cons_succ]
                  refine rgTake (i := 2) (d := 60) (v := ?_) rfl rfl (by kernel_rfl) (by kernel_rfl) (by kernel_rfl) (fun _ _ _ h => h) (by rfl) ?_ (by assumption) ?_
                  rotate_left
                  · ((intro w hSw); (try dsimp only at hSw); go_simp; (try with_reducible rfl))
                  try simp only [Act.put, List.setIfInBounds_toArray, List.set_cons_zero, List.set_cons_succ]
                  refine wpAnyH_ready (rs := [1, 3]) (by kernel_rfl) (by simp) ?_
                  refine AllReadyH.cons rfl (fun K hK => ?_) ?_
                  ·
                    go_simp
                    refine hK.out _ _ ?_ (fun hHeld => ?_)
                    · (try dsimp only)
                      first | exact ⟨K.drew, Z.drew, KW.drew, G.drew⟩ | exact hHeld
                    clear hK K
                    try simp only [Act.put, List.setIfInBounds_toArray, List.set_cons_zero, List.set_cons_succ]
                    refine wpAnyH_ready (rs := [3]) (by kernel_rfl) (by simp) ?_
                    refine AllReadyH.cons rfl (fun K hK => ?_) AllReadyH.nil
                    go_simp
                    refine hK.out _ _ ?_ (fun hHeld => ?_)
                    · (try dsimp only)
                      first | exact ⟨K.drew, Z.drew, KW.drew, G.drew⟩ | exact hHeld
                    clear hK K
                    try simp only [Act.put, List.setIfInBounds_toArray, List.set_cons_zero, List.set_cons_succ]
                    refine rgTake (i := 4) (d := 62) (v := ?_) rfl rfl (by kernel_rfl) (by kernel_rfl) (by kernel_rfl) (fun _ _ _ h => h) (by rfl) ?_ (by assumption) ?_
                    rotate_left
                    · ((intro w hSw); (try dsimp only at hSw); go_simp; (try with_reducible rfl))
                    try simp only [Act.put, List.setIfInBounds_toArray, List.set_cons_zero, List.set_cons_succ]
                    refine rgTake (i := 5) (d := 63) (v := ?_) rfl rfl (by kernel_rfl) (by kernel_rfl) (by kernel_rfl) (fun _ _ _ h => h) (by rfl) ?_ (by assumption) ?_
                    rotate_left
                    · ((intro w hSw); (try dsimp only at hSw); go_simp; (try with_reducible rfl))
                    try simp only [Act.put, List.setIfInBounds_toArray, List.set_cons_zero, List.set_cons_succ]
                    refine wpAnyH_ready (rs := [6]) (by kernel_rfl) (by simp) ?_
                    refine AllReadyH.cons rfl (fun K hK => ?_) AllReadyH.nil
                    have hXl := hX.lt; replace hX := hX.alloc (.cells #[.int .i64 (IntKind.i64.wrap (IntKind.i64.wrap ((x9[0]'i0z).toNat : Int) - 48))] 3); replace hT := hT.on (Below.alloc (Below.refl _ _) (Nat.le_refl _) (.cells #[.int .i64 (IntKind.i64.wrap (IntKind.i64.wrap ((x9[0]'i0z).toNat : Int) - 48))] 3)); obtain ⟨x0, x1, x2, x3⟩ := blk4 hX; go_simp
                    refine hK.out _ _ ?_ (fun hHeld => ?_)
                    · (try dsimp only)
                      exact ⟨hHeld.1.alloc _, hHeld.2.1.alloc _, hHeld.2.2.1.alloc _, hHeld.2.2.2.alloc hHeld.2.2.2.size _⟩
                    clear hK K
                    try simp only [Act.put, List.setIfInBounds_toArray, List.set_cons_zero, List.set_cons_succ]
                    refine wpAnyH_ready (rs := [7]) (by kernel_rfl) (by simp) ?_
                    refine AllReadyH.cons rfl (fun K hK => ?_) AllReadyH.nil
                    have hWl := hHeld.2.2.1.lt; refine step_append_lies _ rfl _ _ 34 rfl w1.heap.size 3 i0 (.int .i64 0) 1 8 Tryd.underlying34 hi0 hz0 hz1 hz2 rfl (by decide) _ _ _ rfl hT.ob _ 1 1 [.int .i64 (IntKind.i64.wrap (IntKind.i64.wrap ((x9[0]'i0z).toNat : Int) - 48))] rfl rfl (cell_one_new _ _ _) (by intro u hu; simp at hu; subst hu; rfl) (by decide) (by simp only [maxLen]; omega) (by omega) (by have := hX.lt; omega) _ rfl ?_; intro g8 c8 w8 hown hgrow hat hlt; have hT8 := (Two.push (x := IntKind.i64.wrap (IntKind.i64.wrap ((x9[0]'i0z).toNat : Int) - 48)) hT.swap (by have := hX.lt; omega) (by simpa [ints] using hown) hgrow hat).swap; have hX8 := hX.grown hgrow (fun h => hT.bx h.symm); have hXl := hX.lt; have hN8 : some g8 ≠ some gW := (fun h => by rcases hat with e | e; exact NW.2 (e.trans h); (injection h with h; omega)); have K8 := hHeld.1.grown hgrow (fun h => by have := (hT.ob.lt _ h.symm).1; omega); have Z8 := hHeld.2.1.grown hgrow (fun h => by have := (hT.ob.lt _ h.symm).1; omega); have W8 := hHeld.2.2.1.grown hgrow (fun h => NW.2 h.symm); have G8 := hHeld.2.2.2.grown hgrow hHeld.2.2.2.size (fun j hj => by have := (hT.ob.lt j hj).1; omega); clear hT hX x0 x1 x2 x3; obtain ⟨x0, x1, x2, x3⟩ := blk4 hX8; have fx := hX8.frozen 3
                    refine hK.out _ _ ?_ (fun hHeld => ?_)
                    · (try dsimp only)
                      exact ⟨K8, Z8, W8, G8⟩
                    clear hK K
                    try simp only [Act.put, List.setIfInBounds_toArray, List.set_cons_zero, List.set_cons_succ]
                    refine rgTake (i := 8) (d := 66) (v := ?_) rfl rfl (by kernel_rfl) (by kernel_rfl) (by kernel_rfl) (fun _ _ _ h => h) (by rfl) ?_ (by assumption) ?_
                    rotate_left
                    · ((intro w hSw); (try dsimp only at hSw); go_simp; (try with_reducible rfl))
                    try simp only [Act.put, List.setIfInBounds_toArray, List.set_cons_zero, List.set_cons_succ]
                    refine wpAnyH_ready (rs := [9]) (by kernel_rfl) (by simp) ?_
                    refine AllReadyH.cons rfl (fun K hK => ?_) AllReadyH.nil
                    go_simp
                    refine hK.out _ _ ?_ (fun hHeld => ?_)
                    · (try dsimp only)
                      exact ⟨K8.far (by first | omega | (simp; done) | (simp; omega)) _, Z8.far (by first | omega | (simp; done) | (simp; omega)) _, W8.far (by first | omega | (simp; done) | (simp; omega)) _, Below.setCell G8 (by first | omega | (simp; done) | (simp; omega)) _⟩
                    clear hK K
                    try simp only [Act.put, List.setIfInBounds_toArray, List.set_cons_zero, List.set_cons_succ]
                    refine wpAnyH_done (by kernel_rfl) ?_ _
                    go_wp2_with fail
                    go_meet
                    exact ⟨_, _, (by rw [HCO.out]; exact hT8.box), hX8.set_ 3 _, ⟨NW.1, hN8⟩, hHeld⟩
                  refine AllReadyH.cons rfl (fun K hK => ?_) ?_
                  ·
                    go_simp
                    refine hK.out _ _ ?_ (fun hHeld => ?_)
                    · (try dsimp only)
                      first | exact ⟨K.drew, Z.drew, KW.drew, G.drew⟩ | exact hHeld
                    clear hK K
                    try simp only [Act.put, List.setIfInBounds_toArray, List.set_cons_zero, List.set_cons_succ]
                    refine rgTake (i := 4) (d := 62) (v := ?_) rfl rfl (by kernel_rfl) (by kernel_rfl) (by kernel_rfl) (fun _ _ _ h => h) (by rfl) ?_ (by assumption) ?_
                    rotate_left
                    · ((intro w hSw); (try dsimp only at hSw); go_simp; (try with_reducible rfl))
                    try simp only [Act.put, List.setIfInBounds_toArray, List.set_cons_zero, List.set_cons_succ]
                    refine rgTake (i := 5) (d := 63) (v := ?_) rfl rfl (by kernel_rfl) (by kernel_rfl) (by kernel_rfl) (fun _ _ _ h => h) (by rfl) ?_ (by assumption) ?_
                    rotate_left
                    · ((intro w hSw); (try dsimp only at hSw); go_simp; (try with_reducible rfl))
                    try simp only [Act.put, List.setIfInBounds_toArray, List.set_cons_zero, List.set_cons_succ]
                    refine wpAnyH_ready (rs := [1, 6]) (by kernel_rfl) (by simp) ?_
                    refine AllReadyH.cons rfl (fun K hK => ?_) ?_
                    ·
                      go_simp
                      refine hK.out _ _ ?_ (fun hHeld => ?_)
                      · (try dsimp only)
                        first | exact ⟨K.drew, Z.drew, KW.drew, G.drew⟩ | exact hHeld
                      clear hK K
                      try simp only [Act.put, List.setIfInBounds_toArray, List.set_cons_zero, List.set_cons_succ]
                      refine wpAnyH_ready (rs := [6]) (by kernel_rfl) (by simp) ?_
                      refine AllReadyH.cons rfl (fun K hK => ?_) AllReadyH.nil
                      have hXl := hX.lt; replace hX := hX.alloc (.cells #[.int .i64 (IntKind.i64.wrap (IntKind.i64.wrap ((x9[0]'i0z).toNat : Int) - 48))] 3); replace hT := hT.on (Below.alloc (Below.refl _ _) (Nat.le_refl _) (.cells #[.int .i64 (IntKind.i64.wrap (IntKind.i64.wrap ((x9[0]'i0z).toNat : Int) - 48))] 3)); obtain ⟨x0, x1, x2, x3⟩ := blk4 hX; go_simp
                      refine hK.out _ _ ?_ (fun hHeld => ?_)
                      · (try dsimp only)
                        exact ⟨hHeld.1.alloc _, hHeld.2.1.alloc _, hHeld.2.2.1.alloc _, hHeld.2.2.2.alloc hHeld.2.2.2.size _⟩
                      clear hK K
                      try simp only [Act.put, List.setIfInBounds_toArray, List.set_cons_zero, List.set_cons_succ]
                      refine wpAnyH_ready (rs := [7]) (by kernel_rfl) (by simp) ?_
                      refine AllReadyH.cons rfl (fun K hK => ?_) AllReadyH.nil
                      have hWl := hHeld.2.2.1.lt; refine step_append_lies _ rfl _ _ 34 rfl w1.heap.size 3 i0 (.int .i64 0) 1 8 Tryd.underlying34 hi0 hz0 hz1 hz2 rfl (by decide) _ _ _ rfl hT.ob _ 1 1 [.int .i64 (IntKind.i64.wrap (IntKind.i64.wrap ((x9[0]'i0z).toNat : Int) - 48))] rfl rfl (cell_one_new _ _ _) (by intro u hu; simp at hu; subst hu; rfl) (by decide) (by simp only [maxLen]; omega) (by omega) (by have := hX.lt; omega) _ rfl ?_; intro g8 c8 w8 hown hgrow hat hlt; have hT8 := (Two.push (x := IntKind.i64.wrap (IntKind.i64.wrap ((x9[0]'i0z).toNat : Int) - 48)) hT.swap (by have := hX.lt; omega) (by simpa [ints] using hown) hgrow hat).swap; have hX8 := hX.grown hgrow (fun h => hT.bx h.symm); have hXl := hX.lt; have hN8 : some g8 ≠ some gW := (fun h => by rcases hat with e | e; exact NW.2 (e.trans h); (injection h with h; omega)); have K8 := hHeld.1.grown hgrow (fun h => by have := (hT.ob.lt _ h.symm).1; omega); have Z8 := hHeld.2.1.grown hgrow (fun h => by have := (hT.ob.lt _ h.symm).1; omega); have W8 := hHeld.2.2.1.grown hgrow (fun h => NW.2 h.symm); have G8 := hHeld.2.2.2.grown hgrow hHeld.2.2.2.size (fun j hj => by have := (hT.ob.lt j hj).1; omega); clear hT hX x0 x1 x2 x3; obtain ⟨x0, x1, x2, x3⟩ := blk4 hX8; have fx := hX8.frozen 3
                      refine hK.out _ _ ?_ (fun hHeld => ?_)
                      · (try dsimp only)
                        exact ⟨K8, Z8, W8, G8⟩
                      clear hK K
                      try simp only [Act.put, List.setIfInBounds_toArray, List.set_cons_zero, List.set_cons_succ]
                      refine rgTake (i := 8) (d := 66) (v := ?_) rfl rfl (by kernel_rfl) (by kernel_rfl) (by kernel_rfl) (fun _ _ _ h => h) (by rfl) ?_ (by assumption) ?_
                      rotate_left
                      · ((intro w hSw); (try dsimp only at hSw); go_simp; (try with_reducible rfl))
                      try simp only [Act.put, List.setIfInBounds_toArray, List.set_cons_zero, List.set_cons_succ]
                      refine wpAnyH_ready (rs := [9]) (by kernel_rfl) (by simp) ?_
                      refine AllReadyH.cons rfl (fun K hK => ?_) AllReadyH.nil
                      go_simp
                      refine hK.out _ _ ?_ (fun hHeld => ?_)
                      · (try dsimp only)
                        exact ⟨K8.far (by first | omega | (simp; done) | (simp; omega)) _, Z8.far (by first | omega | (simp; done) | (simp; omega)) _, W8.far (by first | omega | (simp; done) | (simp; omega)) _, Below.setCell G8 (by first | omega | (simp; done) | (simp; omega)) _⟩
                      clear hK K
                      try simp only [Act.put, List.setIfInBounds_toArray, List.set_cons_zero, List.set_cons_succ]
                      refine wpAnyH_done (by kernel_rfl) ?_ _
                      go_wp2_with fail
                      go_meet
                      exact ⟨_, _, (by rw [HCO.out]; exact hT8.box), hX8.set_ 3 _, ⟨NW.1, hN8⟩, hHeld⟩
                    refine AllReadyH.cons rfl (fun K hK => ?_) ?_
                    ·
                      have hXl := hX.lt; replace hX := hX.alloc (.cells #[.int .i64 (IntKind.i64.wrap (IntKind.i64.wrap ((x9[0]'i0z).toNat : Int) - 48))] 3); replace hT := hT.on (Below.alloc (Below.refl _ _) (Nat.le_refl _) (.cells #[.int .i64 (IntKind.i64.wrap (IntKind.i64.wrap ((x9[0]'i0z).toNat : Int) - 48))] 3)); obtain ⟨x0, x1, x2, x3⟩ := blk4 hX; go_simp
                      refine hK.out _ _ ?_ (fun hHeld => ?_)
                      · (try dsimp only)
                        exact ⟨hHeld.1.alloc _, hHeld.2.1.alloc _, hHeld.2.2.1.alloc _, hHeld.2.2.2.alloc hHeld.2.2.2.size _⟩
                      clear hK K
                      try simp only [Act.put, List.setIfInBounds_toArray, List.set_cons_zero, List.set_cons_succ]
                      refine wpAnyH_ready (rs := [1]) (by kernel_rfl) (by simp) ?_
                      refine AllReadyH.cons rfl (fun K hK => ?_) AllReadyH.nil
                      go_simp
                      refine hK.out _ _ ?_ (fun hHeld => ?_)
                      · (try dsimp only)
                        first | exact ⟨K.drew, Z.drew, KW.drew, G.drew⟩ | exact hHeld
                      clear hK K
                      try simp only [Act.put, List.setIfInBounds_toArray, List.set_cons_zero, List.set_cons_succ]
                      refine wpAnyH_ready (rs := [7]) (by kernel_rfl) (by simp) ?_
                      refine AllReadyH.cons rfl (fun K hK => ?_) AllReadyH.nil
                      have hWl := hHeld.2.2.1.lt; refine step_append_lies _ rfl _ _ 34 rfl w1.heap.size 3 i0 (.int .i64 0) 1 8 Tryd.underlying34 hi0 hz0 hz1 hz2 rfl (by decide) _ _ _ rfl hT.ob _ 1 1 [.int .i64 (IntKind.i64.wrap (IntKind.i64.wrap ((x9[0]'i0z).toNat : Int) - 48))] rfl rfl (cell_one_new _ _ _) (by intro u hu; simp at hu; subst hu; rfl) (by decide) (by simp only [maxLen]; omega) (by omega) (by have := hX.lt; omega) _ rfl ?_; intro g8 c8 w8 hown hgrow hat hlt; have hT8 := (Two.push (x := IntKind.i64.wrap (IntKind.i64.wrap ((x9[0]'i0z).toNat : Int) - 48)) hT.swap (by have := hX.lt; omega) (by simpa [ints] using hown) hgrow hat).swap; have hX8 := hX.grown hgrow (fun h => hT.bx h.symm); have hXl := hX.lt; have hN8 : some g8 ≠ some gW := (fun h => by rcases hat with e | e; exact NW.2 (e.trans h); (injection h with h; omega)); have K8 := hHeld.1.grown hgrow (fun h => by have := (hT.ob.lt _ h.symm).1; omega); have Z8 := hHeld.2.1.grown hgrow (fun h => by have := (hT.ob.lt _ h.symm).1; omega); have W8 := hHeld.2.2.1.grown hgrow (fun h => NW.2 h.symm); have G8 := hHeld.2.2.2.grown hgrow hHeld.2.2.2.size (fun j hj => by have := (hT.ob.lt j hj).1; omega); clear hT hX x0 x1 x2 x3; obtain ⟨x0, x1, x2, x3⟩ := blk4 hX8; have fx := hX8.frozen 3
                      refine hK.out _ _ ?_ (fun hHeld => ?_)
                      · (try dsimp only)
                        exact ⟨K8, Z8, W8, G8⟩
                      clear hK K
                      try simp only [Act.put, List.setIfInBounds_toArray, List.set_cons_zero, List.set_cons_succ]
                      refine rgTake (i := 8) (d := 66) (v := ?_) rfl rfl (by kernel_rfl) (by kernel_rfl) (by kernel_rfl) (fun _ _ _ h => h) (by rfl) ?_ (by assumption) ?_
                      rotate_left
                      · ((intro w hSw); (try dsimp only at hSw); go_simp; (try with_reducible rfl))
                      try simp only [Act.put, List.setIfInBounds_toArray, List.set_cons_zero, List.set_cons_succ]
                      refine wpAnyH_ready (rs := [9]) (by kernel_rfl) (by simp) ?_
                      refine AllReadyH.cons rfl (fun K hK => ?_) AllReadyH.nil
                      go_simp
                      refine hK.out _ _ ?_ (fun hHeld => ?_)
                      · (try dsimp only)
                        exact ⟨K8.far (by first | omega | (simp; done) | (simp; omega)) _, Z8.far (by first | omega | (simp; done) | (simp; omega)) _, W8.far (by first | omega | (simp; done) | (simp; omega)) _, Below.setCell G8 (by first | omega | (simp; done) | (simp; omega)) _⟩
                      clear hK K
                      try simp only [Act.put, List.setIfInBounds_toArray, List.set_cons_zero, List.set_cons_succ]
                      refine wpAnyH_done (by kernel_rfl) ?_ _
                      go_wp2_with fail
                      go_meet
                      exact ⟨_, _, (by rw [HCO.out]; exact hT8.box), hX8.set_ 3 _, ⟨NW.1, hN8⟩, hHeld⟩
                    exact AllReadyH.nil
                  exact AllReadyH.nil
                case rest =>
                obtain ⟨R, e, hT, hX, NW, K, Z, KW, G⟩ := hcut
                go_wp2_with fail
                go_upto_region 18 with (fail)
                replace hT := hT.drew
                replace hX := hX.drew
                obtain ⟨x0, x1, x2, x3⟩ := blk4 hX
                refine wp_region_held_drew (S := fun w' => Blk w' gL 9 (strs L) ∧ Blk w' w.heap.size 47 [.int .i64 0, .int .i64 0, .slice none 0 0, .slice none 0 0] ∧ Blk w' gW 9 (strs ws9) ∧ Below w.heap.size w w') (by kernel_rfl) ?_ (fun hHeld => ?_)
                · (try dsimp only)
                  first | exact ⟨K.drew, Z.drew, KW.drew, G.drew⟩ | exact hHeld
                generalize wc.drew = wx at *
                refine rgTake (i := 0) (d := 67) (v := ?_) rfl rfl (by kernel_rfl) (by kernel_rfl) (by kernel_rfl) (fun _ _ _ h => h) (by rfl) ?_ (by assumption) ?_
                rotate_left
                · ((intro w hSw); (try dsimp only at hSw); go_simp; (try with_reducible rfl))
                try simp only [Act.put, List.setIfInBounds_toArray, List.set_cons_zero, List.set_cons_succ]
                refine rgTake (i := 2) (d := 69) (v := ?_) rfl rfl (by kernel_rfl) (by kernel_rfl) (by kernel_rfl) (fun _ _ _ h => h) (by rfl) ?_ (by assumption) ?_
                rotate_left
                · ((intro w hSw); (try dsimp only at hSw); go_simp; (try with_reducible rfl))
                try simp only [Act.put, List.setIfInBounds_toArray, List.set_cons_zero, List.set_cons_succ]
                refine wpAnyH_ready (rs := [1, 3]) (by kernel_rfl) (by simp) ?_
                refine AllReadyH.cons rfl (fun K hK => ?_) ?_
                ·
                  go_simp
                  refine hK.out _ _ ?_ (fun hHeld => ?_)
                  · (try dsimp only)
                    first | exact ⟨K.drew, Z.drew, KW.drew, G.drew⟩ | exact hHeld
                  clear hK K
                  try simp only [Act.put, List.setIfInBounds_toArray, List.set_cons_zero, List.set_cons_succ]
                  refine wpAnyH_ready (rs := [3]) (by kernel_rfl) (by simp) ?_
                  refine AllReadyH.cons rfl (fun K hK => ?_) AllReadyH.nil
                  go_simp
                  refine hK.out _ _ ?_ (fun hHeld => ?_)
                  · (try dsimp only)
                    first | exact ⟨K.drew, Z.drew, KW.drew, G.drew⟩ | exact hHeld
                  clear hK K
                  try simp only [Act.put, List.setIfInBounds_toArray, List.set_cons_zero, List.set_cons_succ]
                  refine rgTake (i := 4) (d := 71) (v := ?_) rfl rfl (by kernel_rfl) (by kernel_rfl) (by kernel_rfl) (fun _ _ _ h => h) (by rfl) ?_ (by assumption) ?_
                  rotate_left
                  · ((intro w hSw); (try dsimp only at hSw); go_simp; (try with_reducible rfl))
                  try simp only [Act.put, List.setIfInBounds_toArray, List.set_cons_zero, List.set_cons_succ]
                  refine rgTake (i := 5) (d := 72) (v := ?_) rfl rfl (by kernel_rfl) (by kernel_rfl) (by kernel_rfl) (fun _ _ _ h => h) (by rfl) ?_ (by assumption) ?_
                  rotate_left
                  · ((intro w hSw); (try dsimp only at hSw); go_simp; (try with_reducible rfl))
                  try simp only [Act.put, List.setIfInBounds_toArray, List.set_cons_zero, List.set_cons_succ]
                  refine wpAnyH_ready (rs := [6]) (by kernel_rfl) (by simp) ?_
                  refine AllReadyH.cons rfl (fun K hK => ?_) AllReadyH.nil
                  have hXl := hX.lt; replace hX := hX.alloc (.cells #[.int .i64 (IntKind.i64.wrap (IntKind.i64.wrap ((x9[1]'i1z).toNat : Int) - 48))] 3); replace hT := hT.on (Below.alloc (Below.refl _ _) (Nat.le_refl _) (.cells #[.int .i64 (IntKind.i64.wrap (IntKind.i64.wrap ((x9[1]'i1z).toNat : Int) - 48))] 3)); obtain ⟨x0, x1, x2, x3⟩ := blk4 hX; go_simp
                  refine hK.out _ _ ?_ (fun hHeld => ?_)
                  · (try dsimp only)
                    exact ⟨hHeld.1.alloc _, hHeld.2.1.alloc _, hHeld.2.2.1.alloc _, hHeld.2.2.2.alloc hHeld.2.2.2.size _⟩
                  clear hK K
                  try simp only [Act.put, List.setIfInBounds_toArray, List.set_cons_zero, List.set_cons_succ]
                  refine wpAnyH_ready (rs := [7]) (by kernel_rfl) (by simp) ?_
                  refine AllReadyH.cons rfl (fun K hK => ?_) AllReadyH.nil
                  have hWl := hHeld.2.2.1.lt; refine step_append_lies _ rfl _ _ 34 rfl w1.heap.size 3 i0 (.int .i64 0) 1 8 Tryd.underlying34 hi0 hz0 hz1 hz2 rfl (by decide) _ _ _ rfl hT.oa _ 1 1 [.int .i64 (IntKind.i64.wrap (IntKind.i64.wrap ((x9[1]'i1z).toNat : Int) - 48))] rfl rfl (cell_one_new _ _ _) (by intro u hu; simp at hu; subst hu; rfl) (by decide) (by simp only [maxLen]; omega) (by omega) (by have := hX.lt; omega) _ rfl ?_; intro g8 c8 w8 hown hgrow hat hlt; have hT8 := (Two.push (x := IntKind.i64.wrap (IntKind.i64.wrap ((x9[1]'i1z).toNat : Int) - 48)) hT (by have := hX.lt; omega) (by simpa [ints] using hown) hgrow hat); have hX8 := hX.grown hgrow (fun h => hT.ax h.symm); have hXl := hX.lt; have hN8 : some g8 ≠ some gW := (fun h => by rcases hat with e | e; exact NW.1 (e.trans h); (injection h with h; omega)); have K8 := hHeld.1.grown hgrow (fun h => by have := (hT.oa.lt _ h.symm).1; omega); have Z8 := hHeld.2.1.grown hgrow (fun h => by have := (hT.oa.lt _ h.symm).1; omega); have W8 := hHeld.2.2.1.grown hgrow (fun h => NW.1 h.symm); have G8 := hHeld.2.2.2.grown hgrow hHeld.2.2.2.size (fun j hj => by have := (hT.oa.lt j hj).1; omega); clear hT hX x0 x1 x2 x3; obtain ⟨x0, x1, x2, x3⟩ := blk4 hX8; have fx := hX8.frozen 2
                  refine hK.out _ _ ?_ (fun hHeld => ?_)
                  · (try dsimp only)
                    exact ⟨K8, Z8, W8, G8⟩
                  clear hK K
                  try simp only [Act.put, List.setIfInBounds_toArray, List.set_cons_zero, List.set_cons_succ]
                  refine rgTake (i := 8) (d := 75) (v := ?_) rfl rfl (by kernel_rfl) (by kernel_rfl) (by kernel_rfl) (fun _ _ _ h => h) (by rfl) ?_ (by assumption) ?_
                  rotate_left
                  · ((intro w hSw); (try dsimp only at hSw); go_simp; (try with_reducible rfl))
                  try simp only [Act.put, List.setIfInBounds_toArray, List.set_cons_zero, List.set_cons_succ]
                  refine wpAnyH_ready (rs := [9]) (by kernel_rfl) (by simp) ?_
                  refine AllReadyH.cons rfl (fun K hK => ?_) AllReadyH.nil
                  go_simp
                  refine hK.out _ _ ?_ (fun hHeld => ?_)
                  · (try dsimp only)
                    exact ⟨K8.far (by first | omega | (simp; done) | (simp; omega)) _, Z8.far (by first | omega | (simp; done) | (simp; omega)) _, W8.far (by first | omega | (simp; done) | (simp; omega)) _, Below.setCell G8 (by first | omega | (simp; done) | (simp; omega)) _⟩
                  clear hK K
                  try simp only [Act.put, List.setIfInBounds_toArray, List.set_cons_zero, List.set_cons_succ]
                  refine wpAnyH_done (by kernel_rfl) ?_ _
                  go_wp2_with fail
                  go_roundw
                  case rel => exact ⟨j + 1, q + 1, _, R, _, e, by omega, by go_num, (show q + 1 = (wsJ L y (j + 1)).length by rw [HSN.out, List.length_append, ← HQ.out]; rfl), by omega, (by show Two _ _ _ _ _ _ _ _ _ _ _; rw [HSN.out, List.map_append, List.map_append, List.map_singleton, List.map_singleton, HRI.out]; exact hT8.box), hX8.set_ 2 _, ⟨hN8, NW.2⟩, hHeld⟩
                  case measure => simp [intOf]; omega
                refine AllReadyH.cons rfl (fun K hK => ?_) ?_
                ·
                  go_simp
                  refine hK.out _ _ ?_ (fun hHeld => ?_)
                  · (try dsimp only)
                    first | exact ⟨K.drew, Z.drew, KW.drew, G.drew⟩ | exact hHeld
                  clear hK K
                  try simp only [Act.put, List.setIfInBounds_toArray, List.set_cons_zero, List.set_cons_succ]
                  refine rgTake (i := 4) (d := 71) (v := ?_) rfl rfl (by kernel_rfl) (by kernel_rfl) (by kernel_rfl) (fun _ _ _ h => h) (by rfl) ?_ (by assumption) ?_
                  rotate_left
                  · ((intro w hSw); (try dsimp only at hSw); go_simp; (try with_reducible rfl))
                  try simp only [Act.put, List.setIfInBounds_toArray, List.set_cons_zero, List.set_cons_succ]
                  refine rgTake (i := 5) (d := 72) (v := ?_) rfl rfl (by kernel_rfl) (by kernel_rfl) (by kernel_rfl) (fun _ _ _ h => h) (by rfl) ?_ (by assumption) ?_
                  rotate_left
                  · ((intro w hSw); (try dsimp only at hSw); go_simp; (try with_reducible rfl))
                  try simp only [Act.put, List.setIfInBounds_toArray, List.set_cons_zero, List.set_cons_succ]
                  refine wpAnyH_ready (rs := [1, 6]) (by kernel_rfl) (by simp) ?_
                  refine AllReadyH.cons rfl (fun K hK => ?_) ?_
                  ·
                    go_simp
                    refine hK.out _ _ ?_ (fun hHeld => ?_)
                    · (try dsimp only)
                      first | exact ⟨K.drew, Z.drew, KW.drew, G.drew⟩ | exact hHeld
                    clear hK K
                    try simp only [Act.put, List.setIfInBounds_toArray, List.set_cons_zero, List.set_cons_succ]
                    refine wpAnyH_ready (rs := [6]) (by kernel_rfl) (by simp) ?_
                    refine AllReadyH.cons rfl (fun K hK => ?_) AllReadyH.nil
                    have hXl := hX.lt; replace hX := hX.alloc (.cells #[.int .i64 (IntKind.i64.wrap (IntKind.i64.wrap ((x9[1]'i1z).toNat : Int) - 48))] 3); replace hT := hT.on (Below.alloc (Below.refl _ _) (Nat.le_refl _) (.cells #[.int .i64 (IntKind.i64.wrap (IntKind.i64.wrap ((x9[1]'i1z).toNat : Int) - 48))] 3)); obtain ⟨x0, x1, x2, x3⟩ := blk4 hX; go_simp
                    refine hK.out _ _ ?_ (fun hHeld => ?_)
                    · (try dsimp only)
                      exact ⟨hHeld.1.alloc _, hHeld.2.1.alloc _, hHeld.2.2.1.alloc _, hHeld.2.2.2.alloc hHeld.2.2.2.size _⟩
                    clear hK K
                    try simp only [Act.put, List.setIfInBounds_toArray, List.set_cons_zero, List.set_cons_succ]
                    refine wpAnyH_ready (rs := [7]) (by kernel_rfl) (by simp) ?_
                    refine AllReadyH.cons rfl (fun K hK => ?_) AllReadyH.nil
                    have hWl := hHeld.2.2.1.lt; refine step_append_lies _ rfl _ _ 34 rfl w1.heap.size 3 i0 (.int .i64 0) 1 8 Tryd.underlying34 hi0 hz0 hz1 hz2 rfl (by decide) _ _ _ rfl hT.oa _ 1 1 [.int .i64 (IntKind.i64.wrap (IntKind.i64.wrap ((x9[1]'i1z).toNat : Int) - 48))] rfl rfl (cell_one_new _ _ _) (by intro u hu; simp at hu; subst hu; rfl) (by decide) (by simp only [maxLen]; omega) (by omega) (by have := hX.lt; omega) _ rfl ?_; intro g8 c8 w8 hown hgrow hat hlt; have hT8 := (Two.push (x := IntKind.i64.wrap (IntKind.i64.wrap ((x9[1]'i1z).toNat : Int) - 48)) hT (by have := hX.lt; omega) (by simpa [ints] using hown) hgrow hat); have hX8 := hX.grown hgrow (fun h => hT.ax h.symm); have hXl := hX.lt; have hN8 : some g8 ≠ some gW := (fun h => by rcases hat with e | e; exact NW.1 (e.trans h); (injection h with h; omega)); have K8 := hHeld.1.grown hgrow (fun h => by have := (hT.oa.lt _ h.symm).1; omega); have Z8 := hHeld.2.1.grown hgrow (fun h => by have := (hT.oa.lt _ h.symm).1; omega); have W8 := hHeld.2.2.1.grown hgrow (fun h => NW.1 h.symm); have G8 := hHeld.2.2.2.grown hgrow hHeld.2.2.2.size (fun j hj => by have := (hT.oa.lt j hj).1; omega); clear hT hX x0 x1 x2 x3; obtain ⟨x0, x1, x2, x3⟩ := blk4 hX8; have fx := hX8.frozen 2
                    refine hK.out _ _ ?_ (fun hHeld => ?_)
                    · (try dsimp only)
                      exact ⟨K8, Z8, W8, G8⟩
                    clear hK K
                    try simp only [Act.put, List.setIfInBounds_toArray, List.set_cons_zero, List.set_cons_succ]
                    refine rgTake (i := 8) (d := 75) (v := ?_) rfl rfl (by kernel_rfl) (by kernel_rfl) (by kernel_rfl) (fun _ _ _ h => h) (by rfl) ?_ (by assumption) ?_
                    rotate_left
                    · ((intro w hSw); (try dsimp only at hSw); go_simp; (try with_reducible rfl))
                    try simp only [Act.put, List.setIfInBounds_toArray, List.set_cons_zero, List.set_cons_succ]
                    refine wpAnyH_ready (rs := [9]) (by kernel_rfl) (by simp) ?_
                    refine AllReadyH.cons rfl (fun K hK => ?_) AllReadyH.nil
                    go_simp
                    refine hK.out _ _ ?_ (fun hHeld => ?_)
                    · (try dsimp only)
                      exact ⟨K8.far (by first | omega | (simp; done) | (simp; omega)) _, Z8.far (by first | omega | (simp; done) | (simp; omega)) _, W8.far (by first | omega | (simp; done) | (simp; omega)) _, Below.setCell G8 (by first | omega | (simp; done) | (simp; omega)) _⟩
                    clear hK K
                    try simp only [Act.put, List.setIfInBounds_toArray, List.set_cons_zero, List.set_cons_succ]
                    refine wpAnyH_done (by kernel_rfl) ?_ _
                    go_wp2_with fail
                    go_roundw
                    case rel => exact ⟨j + 1, q + 1, _, R, _, e, by omega, by go_num, (show q + 1 = (wsJ L y (j + 1)).length by rw [HSN.out, List.length_append, ← HQ.out]; rfl), by omega, (by show Two _ _ _ _ _ _ _ _ _ _ _; rw [HSN.out, List.map_append, List.map_append, List.map_singleton, List.map_singleton, HRI.out]; exact hT8.box), hX8.set_ 2 _, ⟨hN8, NW.2⟩, hHeld⟩
                    case measure => simp [intOf]; omega
                  refine AllReadyH.cons rfl (fun K hK => ?_) ?_
                  ·
                    have hXl := hX.lt; replace hX := hX.alloc (.cells #[.int .i64 (IntKind.i64.wrap (IntKind.i64.wrap ((x9[1]'i1z).toNat : Int) - 48))] 3); replace hT := hT.on (Below.alloc (Below.refl _ _) (Nat.le_refl _) (.cells #[.int .i64 (IntKind.i64.wrap (IntKind.i64.wrap ((x9[1]'i1z).toNat : Int) - 48))] 3)); obtain ⟨x0, x1, x2, x3⟩ := blk4 hX; go_simp
                    refine hK.out _ _ ?_ (fun hHeld => ?_)
                    · (try dsimp only)
                      exact ⟨hHeld.1.alloc _, hHeld.2.1.alloc _, hHeld.2.2.1.alloc _, hHeld.2.2.2.alloc hHeld.2.2.2.size _⟩
                    clear hK K
                    try simp only [Act.put, List.setIfInBounds_toArray, List.set_cons_zero, List.set_cons_succ]
                    refine wpAnyH_ready (rs := [1]) (by kernel_rfl) (by simp) ?_
                    refine AllReadyH.cons rfl (fun K hK => ?_) AllReadyH.nil
                    go_simp
                    refine hK.out _ _ ?_ (fun hHeld => ?_)
                    · (try dsimp only)
                      first | exact ⟨K.drew, Z.drew, KW.drew, G.drew⟩ | exact hHeld
                    clear hK K
                    try simp only [Act.put, List.setIfInBounds_toArray, List.set_cons_zero, List.set_cons_succ]
                    refine wpAnyH_ready (rs := [7]) (by kernel_rfl) (by simp) ?_
                    refine AllReadyH.cons rfl (fun K hK => ?_) AllReadyH.nil
                    have hWl := hHeld.2.2.1.lt; refine step_append_lies _ rfl _ _ 34 rfl w1.heap.size 3 i0 (.int .i64 0) 1 8 Tryd.underlying34 hi0 hz0 hz1 hz2 rfl (by decide) _ _ _ rfl hT.oa _ 1 1 [.int .i64 (IntKind.i64.wrap (IntKind.i64.wrap ((x9[1]'i1z).toNat : Int) - 48))] rfl rfl (cell_one_new _ _ _) (by intro u hu; simp at hu; subst hu; rfl) (by decide) (by simp only [maxLen]; omega) (by omega) (by have := hX.lt; omega) _ rfl ?_; intro g8 c8 w8 hown hgrow hat hlt; have hT8 := (Two.push (x := IntKind.i64.wrap (IntKind.i64.wrap ((x9[1]'i1z).toNat : Int) - 48)) hT (by have := hX.lt; omega) (by simpa [ints] using hown) hgrow hat); have hX8 := hX.grown hgrow (fun h => hT.ax h.symm); have hXl := hX.lt; have hN8 : some g8 ≠ some gW := (fun h => by rcases hat with e | e; exact NW.1 (e.trans h); (injection h with h; omega)); have K8 := hHeld.1.grown hgrow (fun h => by have := (hT.oa.lt _ h.symm).1; omega); have Z8 := hHeld.2.1.grown hgrow (fun h => by have := (hT.oa.lt _ h.symm).1; omega); have W8 := hHeld.2.2.1.grown hgrow (fun h => NW.1 h.symm); have G8 := hHeld.2.2.2.grown hgrow hHeld.2.2.2.size (fun j hj => by have := (hT.oa.lt j hj).1; omega); clear hT hX x0 x1 x2 x3; obtain ⟨x0, x1, x2, x3⟩ := blk4 hX8; have fx := hX8.frozen 2
                    refine hK.out _ _ ?_ (fun hHeld => ?_)
                    · (try dsimp only)
                      exact ⟨K8, Z8, W8, G8⟩
                    clear hK K
                    try simp only [Act.put, List.setIfInBounds_toArray, List.set_cons_zero, List.set_cons_succ]
                    refine rgTake (i := 8) (d := 75) (v := ?_) rfl rfl (by kernel_rfl) (by kernel_rfl) (by kernel_rfl) (fun _ _ _ h => h) (by rfl) ?_ (by assumption) ?_
                    rotate_left
                    · ((intro w hSw); (try dsimp only at hSw); go_simp; (try with_reducible rfl))
                    try simp only [Act.put, List.setIfInBounds_toArray, List.set_cons_zero, List.set_cons_succ]
                    refine wpAnyH_ready (rs := [9]) (by kernel_rfl) (by simp) ?_
                    refine AllReadyH.cons rfl (fun K hK => ?_) AllReadyH.nil
                    go_simp
                    refine hK.out _ _ ?_ (fun hHeld => ?_)
                    · (try dsimp only)
                      exact ⟨K8.far (by first | omega | (simp; done) | (simp; omega)) _, Z8.far (by first | omega | (simp; done) | (simp; omega)) _, W8.far (by first | omega | (simp; done) | (simp; omega)) _, Below.setCell G8 (by first | omega | (simp; done) | (simp; omega)) _⟩
                    clear hK K
                    try simp only [Act.put, List.setIfInBounds_toArray, List.set_cons_zero, List.set_cons_succ]
                    refine wpAnyH_done (by kernel_rfl) ?_ _
                    go_wp2_with fail
                    go_roundw
                    case rel => exact ⟨j + 1, q + 1, _, R, _, e, by omega, by go_num, (show q + 1 = (wsJ L y (j + 1)).length by rw [HSN.out, List.length_append, ← HQ.out]; rfl), by omega, (by show Two _ _ _ _ _ _ _ _ _ _ _; rw [HSN.out, List.map_append, List.map_append, List.map_singleton, List.map_singleton, HRI.out]; exact hT8.box), hX8.set_ 2 _, ⟨hN8, NW.2⟩, hHeld⟩
                    case measure => simp [intOf]; omega
                  exact AllReadyH.nil
                exact AllReadyH.nil
              · have h36i : (36 : Int) < (q : Int) := by omega
                have HP := Lib.hid (HX3.out (by omega))
                obtain ⟨x0, x1, x2, x3⟩ := blk4 hX
                obtain ⟨z0, z1, z2, z3⟩ := blk4 Z
                have f0 := Z.frozen 0; have f1 := Z.frozen 1; have f2 := Z.frozen 2; have f3 := Z.frozen 3
                have Z2 := (((Z.set_ 0 (.int .i64 0)).set_ 1 (.int .i64 0)).set_ 2 (.slice none 0 0)).set_ 3 (.slice none 0 0)
                obtain ⟨q0, q1, q2, q3⟩ := blk4 Z2
                have GP := Below.setCell (Below.setCell (Below.setCell (Below.setCell G (p := ⟨w.heap.size, 0, none⟩) (Nat.le_refl _) (.int .i64 0)) (p := ⟨w.heap.size, 1, none⟩) (Nat.le_refl _) (.int .i64 0)) (p := ⟨w.heap.size, 2, none⟩) (Nat.le_refl _) (.slice none 0 0)) (p := ⟨w.heap.size, 3, none⟩) (Nat.le_refl _) (.slice none 0 0)
                clear Z2
                go_wp2_with fail
                refine bodyPost_ret (v := .tuple #[.agg #[.int .i64 0, .int .i64 0, .slice none 0 0, .slice none 0 0], .bool false]) ?_ ?_ ?_
                · simp [results, Tryd.results28, go_sem, q0, q1, q2, q3]
                · rfl
                rw [HP.out.1, HP.out.2]
                exact mapEnd_zero GP
            · have HP := Lib.hid (HX9.out (by unfold fixW; rw [if_neg hh]; exact hz))
              have hzi : ¬ (x9.size : Int) = 2 := by omega
              have hzb : ((x9.size : Int) != 2) = true := by simpa using hzi
              have hzc : ((x9.size : Int) == 2) = false := by simpa using hzi
              clear q1 hh HX9
              obtain ⟨z0, z1, z2, z3⟩ := blk4 Z
              have f0 := Z.frozen 0; have f1 := Z.frozen 1; have f2 := Z.frozen 2; have f3 := Z.frozen 3
              have Z2 := (((Z.set_ 0 (.int .i64 0)).set_ 1 (.int .i64 0)).set_ 2 (.slice none 0 0)).set_ 3 (.slice none 0 0)
              obtain ⟨q0, q1, q2, q3⟩ := blk4 Z2
              have GP := Below.setCell (Below.setCell (Below.setCell (Below.setCell G (p := ⟨w.heap.size, 0, none⟩) (Nat.le_refl _) (.int .i64 0)) (p := ⟨w.heap.size, 1, none⟩) (Nat.le_refl _) (.int .i64 0)) (p := ⟨w.heap.size, 2, none⟩) (Nat.le_refl _) (.slice none 0 0)) (p := ⟨w.heap.size, 3, none⟩) (Nat.le_refl _) (.slice none 0 0)
              clear Z2
              go_wp2_with fail
              refine bodyPost_ret (v := .tuple #[.agg #[.int .i64 0, .int .i64 0, .slice none 0 0, .slice none 0 0], .bool false]) ?_ ?_ ?_
              · simp [results, Tryd.results28, go_sem, q0, q1, q2, q3]
              · rfl
              rw [HP.out.1, HP.out.2]
              exact mapEnd_zero GP
        · have hje : j = nw := by omega
          subst hje
          have HTF : Hid (Two wr w1.heap.size (w1.heap.size + 1 + 1) P R q c e ((wsT L (y + 1)).map riI) ((wsT L (y + 1)).map coI) q) := (by rw [← HJF.out j HNW.out]; exact hT : Two wr w1.heap.size (w1.heap.size + 1 + 1) P R q c e ((wsT L (y + 1)).map riI) ((wsT L (y + 1)).map coI) q)
          have HQF : Hid (q = (wsT L (y + 1)).length) := (by rw [← HJF.out j HNW.out]; exact HQ.out : q = (wsT L (y + 1)).length)
          clear hT
          go_wp2_with fail
          go_roundw
          case rel => exact ⟨y + 1, q, j, P, R, c, e, by omega, by go_num, HQF.out, (show j = wdT L (y + 1) by rw [← HWS.out, HNW.out]), hq37, HTF.out, hX, K, Z, G⟩
          case measure => simp [intOf]; omega
    · have hye : y = H := by omega
      subst hye
      have HCM : Hid (canM s = ⟨(W : Int), (y : Int), (wsT L y).map riI, (wsT L y).map coI⟩) := (by
        unfold canM
        rw [HL.out, HL0.out, Nat.add_sub_cancel, ← HW.out] : canM s = _)
      have HVM : MapIn wr (canM s) (.agg #[.int .i64 (W : Int), .int .i64 (y : Int), .slice P q c, .slice R q e]) := by
        rw [HCM.out]
        exact ⟨P, q, c, R, q, e, rfl, Rd.of_own hT.oa, Rd.of_own hT.ob, by simp only [maxLen]; omega, by simp only [maxLen]; omega⟩
      have hgl := hX.lt
      have hKl := K.lt
      have q1 := neb_test (mtV (canM s)) s
      have q2 := eqb_test (mtV (canM s)) s
      obtain ⟨x0, x1, x2, x3⟩ := blk4 hX
      cases hok : mtOk (canM s)
      · have HP := Lib.hid (pm_bad4 hok)
        go_wp2_with fail
        refine (MapText_impl HVM (T.on G)).mono ?_
        rintro e9 w9 ⟨rfl, hb⟩
        rw [hok]
        replace Z := Z.on hb
        replace G := G.trans (hb.mono G.size)
        clear hb x0 x1 x2 x3 hT hX HVM
        obtain ⟨z0, z1, z2, z3⟩ := blk4 Z
        have f0 := Z.frozen 0; have f1 := Z.frozen 1; have f2 := Z.frozen 2; have f3 := Z.frozen 3
        have Z2 := (((Z.set_ 0 (.int .i64 0)).set_ 1 (.int .i64 0)).set_ 2 (.slice none 0 0)).set_ 3 (.slice none 0 0)
        obtain ⟨q0, q1, q2, q3⟩ := blk4 Z2
        have GP := Below.setCell (Below.setCell (Below.setCell (Below.setCell G (p := ⟨w.heap.size, 0, none⟩) (Nat.le_refl _) (.int .i64 0)) (p := ⟨w.heap.size, 1, none⟩) (Nat.le_refl _) (.int .i64 0)) (p := ⟨w.heap.size, 2, none⟩) (Nat.le_refl _) (.slice none 0 0)) (p := ⟨w.heap.size, 3, none⟩) (Nat.le_refl _) (.slice none 0 0)
        clear Z2
        go_wp2_with fail
        refine bodyPost_ret (v := .tuple #[.agg #[.int .i64 0, .int .i64 0, .slice none 0 0, .slice none 0 0], .bool false]) ?_ ?_ ?_
        · simp [results, Tryd.results28, go_sem, q0, q1, q2, q3]
        · rfl
        rw [HP.out.1, HP.out.2]
        exact mapEnd_zero GP
      · cases hz : decide (mtV (canM s) = s)
        · have HP := Lib.hid (pm_bad5 hz)
          rw [hz] at q1 q2
          rw [Bool.not_false] at q1
          go_wp2_with fail
          refine (MapText_impl HVM (T.on G)).mono ?_
          rintro e9 w9 ⟨rfl, hb⟩
          rw [hok]
          replace Z := Z.on hb
          replace G := G.trans (hb.mono G.size)
          clear hb x0 x1 x2 x3 hT hX HVM
          obtain ⟨z0, z1, z2, z3⟩ := blk4 Z
          have f0 := Z.frozen 0; have f1 := Z.frozen 1; have f2 := Z.frozen 2; have f3 := Z.frozen 3
          have Z2 := (((Z.set_ 0 (.int .i64 0)).set_ 1 (.int .i64 0)).set_ 2 (.slice none 0 0)).set_ 3 (.slice none 0 0)
          obtain ⟨q0, q1, q2, q3⟩ := blk4 Z2
          have GP := Below.setCell (Below.setCell (Below.setCell (Below.setCell G (p := ⟨w.heap.size, 0, none⟩) (Nat.le_refl _) (.int .i64 0)) (p := ⟨w.heap.size, 1, none⟩) (Nat.le_refl _) (.int .i64 0)) (p := ⟨w.heap.size, 2, none⟩) (Nat.le_refl _) (.slice none 0 0)) (p := ⟨w.heap.size, 3, none⟩) (Nat.le_refl _) (.slice none 0 0)
          clear Z2
          go_wp2_with fail
          refine bodyPost_ret (v := .tuple #[.agg #[.int .i64 0, .int .i64 0, .slice none 0 0, .slice none 0 0], .bool false]) ?_ ?_ ?_
          · simp [results, Tryd.results28, go_sem, q0, q1, q2, q3]
          · rfl
          rw [HP.out.1, HP.out.2]
          exact mapEnd_zero GP
        · have HP := Lib.hid (pm_some hok (of_decide_eq_true hz))
          rw [hz] at q1 q2
          rw [Bool.not_true] at q1
          go_wp2_with fail
          refine (MapText_impl HVM (T.on G)).mono ?_
          rintro e9 w9 ⟨rfl, hb⟩
          rw [hok]
          replace Z := Z.on hb
          replace hX := hX.on hb
          replace hT := hT.on hb
          replace G := G.trans (hb.mono G.size)
          clear hb x0 x1 x2 x3 HVM K
          have hZl := Z.lt
          obtain ⟨x0, x1, x2, x3⟩ := blk4 hX
          obtain ⟨z0, z1, z2, z3⟩ := blk4 Z
          have f0 := Z.frozen 0; have f1 := Z.frozen 1; have f2 := Z.frozen 2; have f3 := Z.frozen 3
          have Z2 := (((Z.set_ 0 (.int .i64 (W : Int))).set_ 1 (.int .i64 (y : Int))).set_ 2 (.slice P q c)).set_ 3 (.slice R q e)
          obtain ⟨q20, q21, q22, q23⟩ := blk4 Z2
          have GP := Below.setCell (Below.setCell (Below.setCell (Below.setCell G (p := ⟨w.heap.size, 0, none⟩) (Nat.le_refl _) (.int .i64 (W : Int))) (p := ⟨w.heap.size, 1, none⟩) (Nat.le_refl _) (.int .i64 (y : Int))) (p := ⟨w.heap.size, 2, none⟩) (Nat.le_refl _) (.slice P q c)) (p := ⟨w.heap.size, 3, none⟩) (Nat.le_refl _) (.slice R q e)
          have oA := own_far (own_far (own_far (own_far hT.oa (show w.heap.size < w1.heap.size by omega) 0 (.int .i64 (W : Int))) (show w.heap.size < w1.heap.size by omega) 1 (.int .i64 (y : Int))) (show w.heap.size < w1.heap.size by omega) 2 (.slice P q c)) (show w.heap.size < w1.heap.size by omega) 3 (.slice R q e)
          have oB := own_far (own_far (own_far (own_far hT.ob (show w.heap.size < w1.heap.size by omega) 0 (.int .i64 (W : Int))) (show w.heap.size < w1.heap.size by omega) 1 (.int .i64 (y : Int))) (show w.heap.size < w1.heap.size by omega) 2 (.slice P q c)) (show w.heap.size < w1.heap.size by omega) 3 (.slice R q e)
          have AB := Lib.hid hT.ab
          clear Z2 hT Z G
          go_wp2_with fail
          refine bodyPost_ret (v := .tuple #[.agg #[.int .i64 (W : Int), .int .i64 (y : Int), .slice P q c, .slice R q e], .bool true]) ?_ ?_ ?_
          · simp [results, Tryd.results28, go_sem, q20, q21, q22, q23]
          · rfl
          rw [HP.out.1, HP.out.2, HCM.out]
          have l1 : ((wsT L y).map riI).length = q := by rw [List.length_map]; exact HQ.out.symm
          have l2 : ((wsT L y).map coI).length = q := by rw [List.length_map]; exact HQ.out.symm
          refine ⟨P, R, c, e, ?_, ?_, ?_, ?_, GP⟩
          · show _ = Ending.returned (Value.tuple #[.agg #[_, _, .slice P ((wsT L y).map riI).length c, .slice R ((wsT L y).map coI).length e], _])
            rw [l1, l2]
          · show World.ownsRow _ _ _ _ (.slice P ((wsT L y).map riI).length c) ((wsT L y).map riI).length (ints ((wsT L y).map riI))
            rw [l1]
            exact own_le oA (by omega)
          · show World.ownsRow _ _ _ _ (.slice R ((wsT L y).map coI).length e) ((wsT L y).map coI).length (ints ((wsT L y).map coI))
            rw [l2]
            exact own_le oB (by omega)
          · show ∀ q, Value.ownBlock (.slice P ((wsT L y).map riI).length c) = some q → Value.ownBlock (.slice R ((wsT L y).map coI).length e) ≠ some q
            rw [l1, l2]
            exact AB.out
end Go.Proofs.YtmmpcchjalgokaaDoor
