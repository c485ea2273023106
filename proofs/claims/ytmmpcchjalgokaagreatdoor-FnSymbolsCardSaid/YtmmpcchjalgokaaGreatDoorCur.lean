/- The reference's cursor over bytes: each draw gives a number in its range and changes the cursor alone. -/
import Derived.Test.YtmmpcchjalgokaaGreatDoorCh
import Derived.Test.YtmmpcchjalgokaaGreatDoorStrs
import Derived.Test.YtmmpcchjalgokaaGreatDoorRg
import Derived.Lib.Walk
import Derived.Laws.Bits64b
import Derived.Deep.DeepCutAuto
namespace Go.Proofs.YtmmpcchjalgokaaGreatDoor
set_option linter.unusedVariables false
set_option linter.unusedSimpArgs false
open Go.RowKit
def bys (l : List Int) : List Value := l.flatMap fun b => [Value.int .u8 b]
theorem bys_map (l : List Int) : bys l = l.map (Value.int .u8) := by
  unfold bys
  induction l with
  | nil => rfl
  | cons a l ih => simpa using ih
theorem bys_get {l : List Int} {k : Nat} (h : k < l.length) : (bys l)[k]? = some (.int .u8 l[k]) := by rw [bys_map]; simp [h]
theorem bys_len (l : List Int) : (bys l).length = l.length := by rw [bys_map]; simp
theorem blk3 {w : World} {g : Nat} {t : TypeId} {a b c : Value} (h : Blk w g t [a, b, c]) : w.cell? ⟨g, 0, none⟩ = some a ∧ w.cell? ⟨g, 1, none⟩ = some b ∧ w.cell? ⟨g, 2, none⟩ = some c := ⟨h.cell 0, h.cell 1, h.cell 2⟩
theorem ch_set_ {g i : Nat} {u : Value} (w : World) : Ch (fun k => k = g) w (w.setCell ⟨g, i, none⟩ u) :=
  ⟨rfl, rfl, rfl, (by simp), fun k _ hk => Below.heap_setCell w ⟨g, i, none⟩ u k hk⟩
theorem ch_refl {S : Nat → Prop} (w : World) : Ch S w w := Ch.of_below (Below.refl _ _)
theorem Ch.drew {S : Nat → Prop} {w w' : World} (h : Ch S w w') : Ch S w w'.drew := h.trans (Ch.of_below (Below.drew (Below.refl _ _)))
theorem byte_of (x : Int) : 0 ≤ wrap64 (bits .and .u64 x 255) ∧ wrap64 (bits .and .u64 x 255) ≤ 255 := by
  have hle : ((BitVec.ofInt 64 x &&& BitVec.ofInt 64 255).toNat) ≤ 255 := by
    rw [BitVec.toNat_and]; exact Nat.le_trans Nat.and_le_right (by decide)
  have h : bits .and .u64 x 255 = (((BitVec.ofInt 64 x &&& BitVec.ofInt 64 255).toNat : Nat) : Int) := by
    show IntKind.u64.wrap (((BitVec.ofInt 64 x &&& BitVec.ofInt 64 255).toNat : Nat) : Int) = _
    generalize (BitVec.ofInt 64 x &&& BitVec.ofInt 64 255).toNat = y at *
    rw [IntKind.wrap_u64]
    omega
  rw [h]
  generalize (BitVec.ofInt 64 x &&& BitVec.ofInt 64 255).toNat = y at *
  unfold wrap64
  omega
/-- The cursor lies at block g and has read k choices at most; its bytes lie below b. -/
def Cur (w : World) (b g : Nat) (k : Int) : Prop :=
  ∃ (C : Option Addr) (n c : Nat) (l : List Int) (a sd : Int), Rd w b 1 C n (bys l) ∧ (∀ x ∈ l, 0 ≤ x ∧ x ≤ 255) ∧ n ≤ 65536 ∧ 0 ≤ a ∧ a ≤ k ∧ b ≤ g ∧ Blk w g 76 [.slice C n c, .int .i64 a, .int .u64 sd]
theorem Cur.lt {w : World} {b g : Nat} {k : Int} (K : Cur w b g k) : g < w.heap.size ∧ b ≤ g := by
  obtain ⟨C, n, c, l, a, sd, hR, hl, hn, ha, hak, hbg, B⟩ := K
  exact ⟨B.lt, hbg⟩
theorem Cur.more {w : World} {b g : Nat} {k k' : Int} (K : Cur w b g k) (h : k ≤ k') : Cur w b g k' := by
  obtain ⟨C, n, c, l, a, sd, hR, hl, hn, ha, hak, hbg, B⟩ := K
  exact ⟨C, n, c, l, a, sd, hR, hl, hn, ha, by omega, hbg, B⟩
theorem cell_ch {S : Nat → Prop} {w w' : World} (hc : Ch S w w') (p : Addr) (hp : p.block < w.heap.size) (hs : ¬ S p.block) : w'.cell? p = w.cell? p := by
  have h1 := hc.block p.block hp hs
  unfold World.cell?
  rw [h1]
theorem Cur.ch {S : Nat → Prop} {w w' : World} {b g : Nat} {k : Int} (K : Cur w b g k) (hc : Ch S w w') (hS : ∀ j, S j → g < j) : Cur w' b g k := by
  obtain ⟨C, n, c, l, a, sd, hR, hl, hn, ha, hak, hbg, B⟩ := K
  refine ⟨C, n, c, l, a, sd, hR.keep ?_, hl, hn, ha, hak, hbg, B.ch hc (fun h => by have := hS g h; omega)⟩
  intro p hp
  exact cell_ch hc p (by have := B.lt; omega) (fun h => by have := hS _ h; omega)
theorem Cur.on {w w' : World} {b g : Nat} {k : Int} (K : Cur w b g k) (h : Below w.heap.size w w') : Cur w' b g k :=
  K.ch (S := fun _ => False) (Ch.of_below h) (fun _ h => h.elim)
theorem Cur.alloc {w : World} {b g : Nat} {k : Int} (K : Cur w b g k) (o : Obj) : Cur (w.alloc o) b g k := K.on (Below.alloc (Below.refl _ _) (Nat.le_refl _) o)
theorem Cur.drew {w : World} {b g : Nat} {k : Int} (K : Cur w b g k) : Cur w.drew b g k := K
set_option maxHeartbeats 1000000 in
theorem next_any {b g : Nat} {k : Int} {w : World} (K : Cur w b g k) (hk : k ≤ 1000000) :
    Calls Tryz.prog 89 #[.pointer (some ⟨g, 0, none⟩)] w fun e w' => ∃ r, e = .returned (.int .i64 r) ∧ 0 ≤ r ∧ r ≤ 255 ∧ Cur w' b g (k + 1) ∧ Ch (fun j => j = g) w w' := by
  obtain ⟨C, n, c, l, a, sd, hR, hl, hn, ha, hak, hbg, B⟩ := K
  have hlw := B.lt
  have hc : Ch (fun j => j = g) w w := ch_refl w
  have hln : l.length = n := by rw [← bys_len, hR.1]; simp
  have hp1 : IntKind.i64.wrap (a + 1) = a + 1 := IntWalk.i64_in _ (by omega)
  by_cases hlt : a < n
  · obtain ⟨bl, off, rfl, hbb, hcell⟩ := hR.2 (by omega)
    have kx : a.toNat < l.length := by omega
    have cz := hcell a.toNat _ (bys_get kx)
    have hb := hl _ (List.getElem_mem kx)
    generalize l[a.toNat] = x9 at *
    have hx1 : IntKind.i64.wrap x9 = x9 := IntWalk.i64_in _ (by omega)
    have hle : a + 1 ≤ n := by omega
    go_enter Tryz.func89, Tryz.ntmps89
    go_wp2_with fail
    go_upto_region 2 with (fail)
    go_cut [13] (fun x wx => x = .bool true ∧ Blk wx g 76 [.slice (some ⟨bl, off, none⟩) n c, .int .i64 a, .int .u64 sd] ∧ Ch (fun j => j = g) w wx)
    case first =>
      refine wp_region_held_drew (S := fun w' => Blk w' g 76 [.slice (some ⟨bl, off, none⟩) n c, .int .i64 a, .int .u64 sd] ∧ Ch (fun j => j = g) w w') (by kernel_rfl) ?_ (fun hHeld => ?_)
      · (try dsimp only)
        first | exact ⟨B.drew, hc.drew⟩ | exact hHeld | exact ⟨hHeld.1.set_ _ _, hHeld.2.trans (ch_set_ _)⟩
      refine rgTake (i := 0) (d := 4) (v := ?_) rfl rfl (by kernel_rfl) (by kernel_rfl) (by kernel_rfl) (fun _ _ _ h => h) (by rfl) ?_ (by assumption) ?_
      rotate_left
      · ((intro w hSw); (try dsimp only at hSw); go_simp; (try with_reducible rfl))
      try simp only [Act.put, List.setIfInBounds_toArray, List.set_cons_zero, List.set_cons_succ]
      refine rgTake (i := 1) (d := 5) (v := ?_) rfl rfl (by kernel_rfl) (by kernel_rfl) (by kernel_rfl) (fun _ _ _ h => h) (by rfl) ?_ (by assumption) ?_
      rotate_left
      · ((intro w hSw); (try dsimp only at hSw); go_simp; (try with_reducible rfl))
      try simp only [Act.put, List.setIfInBounds_toArray, List.set_cons_zero, List.set_cons_succ]
      refine rgTake (i := 2) (d := 6) (v := ?_) rfl rfl (by kernel_rfl) (by kernel_rfl) (by kernel_rfl) (fun _ _ _ h => h) (by rfl) ?_ (by assumption) ?_
      rotate_left
      · ((intro w hSw); (try dsimp only at hSw); go_simp; (try with_reducible rfl))
      try simp only [Act.put, List.setIfInBounds_toArray, List.set_cons_zero, List.set_cons_succ]
      refine rgTake (i := 3) (d := 7) (v := ?_) rfl rfl (by kernel_rfl) (by kernel_rfl) (by kernel_rfl) (fun _ _ _ h => h) (by rfl) ?_ (by assumption) ?_
      rotate_left
      · ((intro w hSw); (try dsimp only at hSw); (obtain ⟨c0, c1, c2⟩ := blk3 hSw.1); go_simp; (try with_reducible rfl))
      try simp only [Act.put, List.setIfInBounds_toArray, List.set_cons_zero, List.set_cons_succ]
      refine rgTake (i := 4) (d := 8) (v := ?_) rfl rfl (by kernel_rfl) (by kernel_rfl) (by kernel_rfl) (fun _ _ _ h => h) (by rfl) ?_ (by assumption) ?_
      rotate_left
      · ((intro w hSw); (try dsimp only at hSw); go_simp; (try with_reducible rfl))
      try simp only [Act.put, List.setIfInBounds_toArray, List.set_cons_zero, List.set_cons_succ]
      refine rgTake (i := 5) (d := 9) (v := ?_) rfl rfl (by kernel_rfl) (by kernel_rfl) (by kernel_rfl) (fun _ _ _ h => h) (by rfl) ?_ (by assumption) ?_
      rotate_left
      · ((intro w hSw); (try dsimp only at hSw); go_simp; (try with_reducible rfl))
      try simp only [Act.put, List.setIfInBounds_toArray, List.set_cons_zero, List.set_cons_succ]
      refine rgTake (i := 6) (d := 10) (v := ?_) rfl rfl (by kernel_rfl) (by kernel_rfl) (by kernel_rfl) (fun _ _ _ h => h) (by rfl) ?_ (by assumption) ?_
      rotate_left
      · ((intro w hSw); (try dsimp only at hSw); go_simp; (try with_reducible rfl))
      try simp only [Act.put, List.setIfInBounds_toArray, List.set_cons_zero, List.set_cons_succ]
      refine rgTake (i := 7) (d := 11) (v := ?_) rfl rfl (by kernel_rfl) (by kernel_rfl) (by kernel_rfl) (fun _ _ _ h => h) (by rfl) ?_ (by assumption) ?_
      rotate_left
      · ((intro w hSw); (try dsimp only at hSw); (obtain ⟨c0, c1, c2⟩ := blk3 hSw.1); go_simp; (try with_reducible rfl))
      try simp only [Act.put, List.setIfInBounds_toArray, List.set_cons_zero, List.set_cons_succ]
      refine rgTake (i := 8) (d := 12) (v := ?_) rfl rfl (by kernel_rfl) (by kernel_rfl) (by kernel_rfl) (fun _ _ _ h => h) (by rfl) ?_ (by assumption) ?_
      rotate_left
      · ((intro w hSw); (try dsimp only at hSw); go_simp; (try with_reducible rfl))
      try simp only [Act.put, List.setIfInBounds_toArray, List.set_cons_zero, List.set_cons_succ]
      refine rgTake (i := 9) (d := 13) (v := ?_) rfl rfl (by kernel_rfl) (by kernel_rfl) (by kernel_rfl) (fun _ _ _ h => h) (by rfl) ?_ (by assumption) ?_
      rotate_left
      · ((intro w hSw); (try dsimp only at hSw); go_simp; (try with_reducible rfl))
      try simp only [Act.put, List.setIfInBounds_toArray, List.set_cons_zero, List.set_cons_succ]
      refine wpAnyH_done (by kernel_rfl) ?_ _
      go_wp2_with fail
      go_meet
      exact ⟨rfl, hHeld⟩
    case rest =>
    obtain ⟨rfl, B, hc⟩ := hcut
    go_wp2_with fail
    go_upto_region 3 with (fail)
    go_cut [3] (fun x wx => x = .int .i64 x9 ∧ Blk wx g 76 [.slice (some ⟨bl, off, none⟩) n c, .int .i64 a, .int .u64 sd] ∧ Ch (fun j => j = g) w wx)
    case first =>
      refine wp_region_held_drew (S := fun w' => Blk w' g 76 [.slice (some ⟨bl, off, none⟩) n c, .int .i64 a, .int .u64 sd] ∧ Ch (fun j => j = g) w w') (by kernel_rfl) ?_ (fun hHeld => ?_)
      · (try dsimp only)
        first | exact ⟨B.drew, hc.drew⟩ | exact hHeld | exact ⟨hHeld.1.set_ _ _, hHeld.2.trans (ch_set_ _)⟩
      refine rgTake (i := 0) (d := 14) (v := ?_) rfl rfl (by kernel_rfl) (by kernel_rfl) (by kernel_rfl) (fun _ _ _ h => h) (by rfl) ?_ (by assumption) ?_
      rotate_left
      · ((intro w hSw); (try dsimp only at hSw); go_simp; (try with_reducible rfl))
      try simp only [Act.put, List.setIfInBounds_toArray, List.set_cons_zero, List.set_cons_succ]
      refine rgTake (i := 1) (d := 15) (v := ?_) rfl rfl (by kernel_rfl) (by kernel_rfl) (by kernel_rfl) (fun _ _ _ h => h) (by rfl) ?_ (by assumption) ?_
      rotate_left
      · ((intro w hSw); (try dsimp only at hSw); go_simp; (try with_reducible rfl))
      try simp only [Act.put, List.setIfInBounds_toArray, List.set_cons_zero, List.set_cons_succ]
      refine rgTake (i := 2) (d := 16) (v := ?_) rfl rfl (by kernel_rfl) (by kernel_rfl) (by kernel_rfl) (fun _ _ _ h => h) (by rfl) ?_ (by assumption) ?_
      rotate_left
      · ((intro w hSw); (try dsimp only at hSw); go_simp; (try with_reducible rfl))
      try simp only [Act.put, List.setIfInBounds_toArray, List.set_cons_zero, List.set_cons_succ]
      refine rgTake (i := 3) (d := 17) (v := ?_) rfl rfl (by kernel_rfl) (by kernel_rfl) (by kernel_rfl) (fun _ _ _ h => h) (by rfl) ?_ (by assumption) ?_
      rotate_left
      · ((intro w hSw); (try dsimp only at hSw); (obtain ⟨c0, c1, c2⟩ := blk3 hSw.1; have zc := (cell_ch hSw.2 ⟨bl, off + a.toNat, none⟩ (by show bl < _; omega) (by show ¬ bl = g; omega)).trans cz); go_simp; (try with_reducible rfl))
      try simp only [Act.put, List.setIfInBounds_toArray, List.set_cons_zero, List.set_cons_succ]
      refine rgTake (i := 4) (d := 18) (v := ?_) rfl rfl (by kernel_rfl) (by kernel_rfl) (by kernel_rfl) (fun _ _ _ h => h) (by rfl) ?_ (by assumption) ?_
      rotate_left
      · ((intro w hSw); (try dsimp only at hSw); go_simp; (try with_reducible rfl))
      try simp only [Act.put, List.setIfInBounds_toArray, List.set_cons_zero, List.set_cons_succ]
      refine rgTake (i := 5) (d := 19) (v := ?_) rfl rfl (by kernel_rfl) (by kernel_rfl) (by kernel_rfl) (fun _ _ _ h => h) (by rfl) ?_ (by assumption) ?_
      rotate_left
      · ((intro w hSw); (try dsimp only at hSw); go_simp; (try with_reducible rfl))
      try simp only [Act.put, List.setIfInBounds_toArray, List.set_cons_zero, List.set_cons_succ]
      refine rgTake (i := 6) (d := 20) (v := ?_) rfl rfl (by kernel_rfl) (by kernel_rfl) (by kernel_rfl) (fun _ _ _ h => h) (by rfl) ?_ (by assumption) ?_
      rotate_left
      · ((intro w hSw); (try dsimp only at hSw); go_simp; (try with_reducible rfl))
      try simp only [Act.put, List.setIfInBounds_toArray, List.set_cons_zero, List.set_cons_succ]
      refine rgTake (i := 7) (d := 21) (v := ?_) rfl rfl (by kernel_rfl) (by kernel_rfl) (by kernel_rfl) (fun _ _ _ h => h) (by rfl) ?_ (by assumption) ?_
      rotate_left
      · ((intro w hSw); (try dsimp only at hSw); (obtain ⟨c0, c1, c2⟩ := blk3 hSw.1; have zc := (cell_ch hSw.2 ⟨bl, off + a.toNat, none⟩ (by show bl < _; omega) (by show ¬ bl = g; omega)).trans cz); go_simp; (try with_reducible rfl))
      try simp only [Act.put, List.setIfInBounds_toArray, List.set_cons_zero, List.set_cons_succ]
      refine rgTake (i := 8) (d := 22) (v := ?_) rfl rfl (by kernel_rfl) (by kernel_rfl) (by kernel_rfl) (fun _ _ _ h => h) (by rfl) ?_ (by assumption) ?_
      rotate_left
      · ((intro w hSw); (try dsimp only at hSw); go_simp; (try with_reducible rfl))
      try simp only [Act.put, List.setIfInBounds_toArray, List.set_cons_zero, List.set_cons_succ]
      refine rgTake (i := 9) (d := 23) (v := ?_) rfl rfl (by kernel_rfl) (by kernel_rfl) (by kernel_rfl) (fun _ _ _ h => h) (by rfl) ?_ (by assumption) ?_
      rotate_left
      · ((intro w hSw); (try dsimp only at hSw); (obtain ⟨c0, c1, c2⟩ := blk3 hSw.1; have zc := (cell_ch hSw.2 ⟨bl, off + a.toNat, none⟩ (by show bl < _; omega) (by show ¬ bl = g; omega)).trans cz); go_simp; (try with_reducible rfl))
      try simp only [Act.put, List.setIfInBounds_toArray, List.set_cons_zero, List.set_cons_succ]
      refine rgTake (i := 10) (d := 24) (v := ?_) rfl rfl (by kernel_rfl) (by kernel_rfl) (by kernel_rfl) (fun _ _ _ h => h) (by rfl) ?_ (by assumption) ?_
      rotate_left
      · ((intro w hSw); (try dsimp only at hSw); go_simp; (try with_reducible rfl))
      try simp only [Act.put, List.setIfInBounds_toArray, List.set_cons_zero, List.set_cons_succ]
      refine rgTake (i := 11) (d := 3) (v := ?_) rfl rfl (by kernel_rfl) (by kernel_rfl) (by kernel_rfl) (fun _ _ _ h => h) (by rfl) ?_ (by assumption) ?_
      rotate_left
      · ((intro w hSw); (try dsimp only at hSw); go_simp; (try with_reducible rfl))
      try simp only [Act.put, List.setIfInBounds_toArray, List.set_cons_zero, List.set_cons_succ]
      refine wpAnyH_done (by kernel_rfl) ?_ _
      go_wp2_with fail
      go_meet
      exact ⟨rfl, hHeld⟩
    case rest =>
    obtain ⟨rfl, B, hc⟩ := hcut
    obtain ⟨c0, c1, c2⟩ := blk3 B
    have f1 := B.frozen 1
    have f2 := B.frozen 2
    go_wp2_with fail
    go_upto_region 6 with (fail)
    go_cut [53] (fun x wx => x = .bool true ∧ ∃ sd, Blk wx g 76 [.slice (some ⟨bl, off, none⟩) n c, .int .i64 (a + 1), .int .u64 sd] ∧ Ch (fun j => j = g) w wx)
    case first =>
      refine wp_region_held_drew (S := fun w' => ∃ sd, Blk w' g 76 [.slice (some ⟨bl, off, none⟩) n c, .int .i64 (a + 1), .int .u64 sd] ∧ Ch (fun j => j = g) w w') (by kernel_rfl) ?_ (fun hHeld => ?_)
      · (try dsimp only)
        first | exact ⟨_, ((B.set_ 1 _).set_ 2 _).drew, ((hc.trans (ch_set_ _)).trans (ch_set_ _)).drew⟩ | exact hHeld
      refine rgTake (i := 0) (d := 44) (v := ?_) rfl rfl (by kernel_rfl) (by kernel_rfl) (by kernel_rfl) (fun _ _ _ h => h) (by rfl) ?_ (by assumption) ?_
      rotate_left
      · ((intro w hSw); (try dsimp only at hSw); go_simp; (try with_reducible rfl))
      try simp only [Act.put, List.setIfInBounds_toArray, List.set_cons_zero, List.set_cons_succ]
      refine rgTake (i := 1) (d := 45) (v := ?_) rfl rfl (by kernel_rfl) (by kernel_rfl) (by kernel_rfl) (fun _ _ _ h => h) (by rfl) ?_ (by assumption) ?_
      rotate_left
      · ((intro w hSw); (try dsimp only at hSw); go_simp; (try with_reducible rfl))
      try simp only [Act.put, List.setIfInBounds_toArray, List.set_cons_zero, List.set_cons_succ]
      refine rgTake (i := 2) (d := 46) (v := ?_) rfl rfl (by kernel_rfl) (by kernel_rfl) (by kernel_rfl) (fun _ _ _ h => h) (by rfl) ?_ (by assumption) ?_
      rotate_left
      · ((intro w hSw); (try dsimp only at hSw); go_simp; (try with_reducible rfl))
      try simp only [Act.put, List.setIfInBounds_toArray, List.set_cons_zero, List.set_cons_succ]
      refine rgTake (i := 3) (d := 47) (v := ?_) rfl rfl (by kernel_rfl) (by kernel_rfl) (by kernel_rfl) (fun _ _ _ h => h) (by rfl) ?_ (by assumption) ?_
      rotate_left
      · ((intro w hSw); (try dsimp only at hSw); (obtain ⟨sd9, B9, hc9⟩ := hSw; obtain ⟨c0, c1, c2⟩ := blk3 B9); go_simp; (try with_reducible rfl))
      try simp only [Act.put, List.setIfInBounds_toArray, List.set_cons_zero, List.set_cons_succ]
      refine rgTake (i := 4) (d := 48) (v := ?_) rfl rfl (by kernel_rfl) (by kernel_rfl) (by kernel_rfl) (fun _ _ _ h => h) (by rfl) ?_ (by assumption) ?_
      rotate_left
      · ((intro w hSw); (try dsimp only at hSw); go_simp; (try with_reducible rfl))
      try simp only [Act.put, List.setIfInBounds_toArray, List.set_cons_zero, List.set_cons_succ]
      refine rgTake (i := 5) (d := 49) (v := ?_) rfl rfl (by kernel_rfl) (by kernel_rfl) (by kernel_rfl) (fun _ _ _ h => h) (by rfl) ?_ (by assumption) ?_
      rotate_left
      · ((intro w hSw); (try dsimp only at hSw); go_simp; (try with_reducible rfl))
      try simp only [Act.put, List.setIfInBounds_toArray, List.set_cons_zero, List.set_cons_succ]
      refine rgTake (i := 6) (d := 50) (v := ?_) rfl rfl (by kernel_rfl) (by kernel_rfl) (by kernel_rfl) (fun _ _ _ h => h) (by rfl) ?_ (by assumption) ?_
      rotate_left
      · ((intro w hSw); (try dsimp only at hSw); go_simp; (try with_reducible rfl))
      try simp only [Act.put, List.setIfInBounds_toArray, List.set_cons_zero, List.set_cons_succ]
      refine rgTake (i := 7) (d := 51) (v := ?_) rfl rfl (by kernel_rfl) (by kernel_rfl) (by kernel_rfl) (fun _ _ _ h => h) (by rfl) ?_ (by assumption) ?_
      rotate_left
      · ((intro w hSw); (try dsimp only at hSw); (obtain ⟨sd9, B9, hc9⟩ := hSw; obtain ⟨c0, c1, c2⟩ := blk3 B9); go_simp; (try with_reducible rfl))
      try simp only [Act.put, List.setIfInBounds_toArray, List.set_cons_zero, List.set_cons_succ]
      refine rgTake (i := 8) (d := 52) (v := ?_) rfl rfl (by kernel_rfl) (by kernel_rfl) (by kernel_rfl) (fun _ _ _ h => h) (by rfl) ?_ (by assumption) ?_
      rotate_left
      · ((intro w hSw); (try dsimp only at hSw); go_simp; (try with_reducible rfl))
      try simp only [Act.put, List.setIfInBounds_toArray, List.set_cons_zero, List.set_cons_succ]
      refine rgTake (i := 9) (d := 53) (v := ?_) rfl rfl (by kernel_rfl) (by kernel_rfl) (by kernel_rfl) (fun _ _ _ h => h) (by rfl) ?_ (by assumption) ?_
      rotate_left
      · ((intro w hSw); (try dsimp only at hSw); go_simp; (try with_reducible rfl))
      try simp only [Act.put, List.setIfInBounds_toArray, List.set_cons_zero, List.set_cons_succ]
      refine wpAnyH_done (by kernel_rfl) ?_ _
      go_wp2_with fail
      go_meet
      exact ⟨rfl, hHeld⟩
    case rest =>
    obtain ⟨rfl, sd2, B, hc⟩ := hcut
    go_wp2_with fail
    go_ret
    exact ⟨_, rfl, hb.1, hb.2, ⟨_, n, c, l, a + 1, sd2, hR.keep (fun p hp => cell_ch hc p (by omega) (by omega)), hl, hn, by omega, by omega, hbg, B⟩, hc⟩
  · have hle : ¬ a + 1 ≤ n := by omega
    have hd : decide (a < (n : Int)) = false := by simp; omega
    have hd2 : decide (a + 1 ≤ (n : Int)) = false := by simp; omega
    go_enter Tryz.func89, Tryz.ntmps89
    go_wp2_with fail
    go_upto_region 2 with (fail)
    go_cut [13] (fun x wx => x = .bool false ∧ Blk wx g 76 [.slice C n c, .int .i64 a, .int .u64 sd] ∧ Ch (fun j => j = g) w wx)
    case first =>
      refine wp_region_held_drew (S := fun w' => Blk w' g 76 [.slice C n c, .int .i64 a, .int .u64 sd] ∧ Ch (fun j => j = g) w w') (by kernel_rfl) ?_ (fun hHeld => ?_)
      · (try dsimp only)
        first | exact ⟨B.drew, hc.drew⟩ | exact hHeld | exact ⟨hHeld.1.set_ _ _, hHeld.2.trans (ch_set_ _)⟩
      refine rgTake (i := 0) (d := 4) (v := ?_) rfl rfl (by kernel_rfl) (by kernel_rfl) (by kernel_rfl) (fun _ _ _ h => h) (by rfl) ?_ (by assumption) ?_
      rotate_left
      · ((intro w hSw); (try dsimp only at hSw); go_simp; (try with_reducible rfl))
      try simp only [Act.put, List.setIfInBounds_toArray, List.set_cons_zero, List.set_cons_succ]
      refine rgTake (i := 1) (d := 5) (v := ?_) rfl rfl (by kernel_rfl) (by kernel_rfl) (by kernel_rfl) (fun _ _ _ h => h) (by rfl) ?_ (by assumption) ?_
      rotate_left
      · ((intro w hSw); (try dsimp only at hSw); go_simp; (try with_reducible rfl))
      try simp only [Act.put, List.setIfInBounds_toArray, List.set_cons_zero, List.set_cons_succ]
      refine rgTake (i := 2) (d := 6) (v := ?_) rfl rfl (by kernel_rfl) (by kernel_rfl) (by kernel_rfl) (fun _ _ _ h => h) (by rfl) ?_ (by assumption) ?_
      rotate_left
      · ((intro w hSw); (try dsimp only at hSw); go_simp; (try with_reducible rfl))
      try simp only [Act.put, List.setIfInBounds_toArray, List.set_cons_zero, List.set_cons_succ]
      refine rgTake (i := 3) (d := 7) (v := ?_) rfl rfl (by kernel_rfl) (by kernel_rfl) (by kernel_rfl) (fun _ _ _ h => h) (by rfl) ?_ (by assumption) ?_
      rotate_left
      · ((intro w hSw); (try dsimp only at hSw); (obtain ⟨c0, c1, c2⟩ := blk3 hSw.1); go_simp; (try with_reducible rfl))
      try simp only [Act.put, List.setIfInBounds_toArray, List.set_cons_zero, List.set_cons_succ]
      refine rgTake (i := 4) (d := 8) (v := ?_) rfl rfl (by kernel_rfl) (by kernel_rfl) (by kernel_rfl) (fun _ _ _ h => h) (by rfl) ?_ (by assumption) ?_
      rotate_left
      · ((intro w hSw); (try dsimp only at hSw); go_simp; (try with_reducible rfl))
      try simp only [Act.put, List.setIfInBounds_toArray, List.set_cons_zero, List.set_cons_succ]
      refine rgTake (i := 5) (d := 9) (v := ?_) rfl rfl (by kernel_rfl) (by kernel_rfl) (by kernel_rfl) (fun _ _ _ h => h) (by rfl) ?_ (by assumption) ?_
      rotate_left
      · ((intro w hSw); (try dsimp only at hSw); go_simp; (try with_reducible rfl))
      try simp only [Act.put, List.setIfInBounds_toArray, List.set_cons_zero, List.set_cons_succ]
      refine rgTake (i := 6) (d := 10) (v := ?_) rfl rfl (by kernel_rfl) (by kernel_rfl) (by kernel_rfl) (fun _ _ _ h => h) (by rfl) ?_ (by assumption) ?_
      rotate_left
      · ((intro w hSw); (try dsimp only at hSw); go_simp; (try with_reducible rfl))
      try simp only [Act.put, List.setIfInBounds_toArray, List.set_cons_zero, List.set_cons_succ]
      refine rgTake (i := 7) (d := 11) (v := ?_) rfl rfl (by kernel_rfl) (by kernel_rfl) (by kernel_rfl) (fun _ _ _ h => h) (by rfl) ?_ (by assumption) ?_
      rotate_left
      · ((intro w hSw); (try dsimp only at hSw); (obtain ⟨c0, c1, c2⟩ := blk3 hSw.1); go_simp; (try with_reducible rfl))
      try simp only [Act.put, List.setIfInBounds_toArray, List.set_cons_zero, List.set_cons_succ]
      refine rgTake (i := 8) (d := 12) (v := ?_) rfl rfl (by kernel_rfl) (by kernel_rfl) (by kernel_rfl) (fun _ _ _ h => h) (by rfl) ?_ (by assumption) ?_
      rotate_left
      · ((intro w hSw); (try dsimp only at hSw); go_simp; (try with_reducible rfl))
      try simp only [Act.put, List.setIfInBounds_toArray, List.set_cons_zero, List.set_cons_succ]
      refine rgTake (i := 9) (d := 13) (v := ?_) rfl rfl (by kernel_rfl) (by kernel_rfl) (by kernel_rfl) (fun _ _ _ h => h) (by rfl) ?_ (by assumption) ?_
      rotate_left
      · ((intro w hSw); (try dsimp only at hSw); go_simp; (try with_reducible rfl))
      try simp only [Act.put, List.setIfInBounds_toArray, List.set_cons_zero, List.set_cons_succ]
      refine wpAnyH_done (by kernel_rfl) ?_ _
      go_wp2_with fail
      go_meet
      exact ⟨rfl, hHeld⟩
    case rest =>
    obtain ⟨rfl, B, hc⟩ := hcut
    obtain ⟨c0, c1, c2⟩ := blk3 B
    have f1 := B.frozen 1
    have f2 := B.frozen 2
    go_wp2_with fail
    go_upto_region 6 with (fail)
    go_cut [53] (fun x wx => x = .bool false ∧ ∃ sd, Blk wx g 76 [.slice C n c, .int .i64 (a + 1), .int .u64 sd] ∧ Ch (fun j => j = g) w wx)
    case first =>
      refine wp_region_held_drew (S := fun w' => ∃ sd, Blk w' g 76 [.slice C n c, .int .i64 (a + 1), .int .u64 sd] ∧ Ch (fun j => j = g) w w') (by kernel_rfl) ?_ (fun hHeld => ?_)
      · (try dsimp only)
        first | exact ⟨_, ((B.set_ 1 _).set_ 2 _).drew, ((hc.trans (ch_set_ _)).trans (ch_set_ _)).drew⟩ | exact hHeld
      refine rgTake (i := 0) (d := 44) (v := ?_) rfl rfl (by kernel_rfl) (by kernel_rfl) (by kernel_rfl) (fun _ _ _ h => h) (by rfl) ?_ (by assumption) ?_
      rotate_left
      · ((intro w hSw); (try dsimp only at hSw); go_simp; (try with_reducible rfl))
      try simp only [Act.put, List.setIfInBounds_toArray, List.set_cons_zero, List.set_cons_succ]
      refine rgTake (i := 1) (d := 45) (v := ?_) rfl rfl (by kernel_rfl) (by kernel_rfl) (by kernel_rfl) (fun _ _ _ h => h) (by rfl) ?_ (by assumption) ?_
      rotate_left
      · ((intro w hSw); (try dsimp only at hSw); go_simp; (try with_reducible rfl))
      try simp only [Act.put, List.setIfInBounds_toArray, List.set_cons_zero, List.set_cons_succ]
      refine rgTake (i := 2) (d := 46) (v := ?_) rfl rfl (by kernel_rfl) (by kernel_rfl) (by kernel_rfl) (fun _ _ _ h => h) (by rfl) ?_ (by assumption) ?_
      rotate_left
      · ((intro w hSw); (try dsimp only at hSw); go_simp; (try with_reducible rfl))
      try simp only [Act.put, List.setIfInBounds_toArray, List.set_cons_zero, List.set_cons_succ]
      refine rgTake (i := 3) (d := 47) (v := ?_) rfl rfl (by kernel_rfl) (by kernel_rfl) (by kernel_rfl) (fun _ _ _ h => h) (by rfl) ?_ (by assumption) ?_
      rotate_left
      · ((intro w hSw); (try dsimp only at hSw); (obtain ⟨sd9, B9, hc9⟩ := hSw; obtain ⟨c0, c1, c2⟩ := blk3 B9); go_simp; (try with_reducible rfl))
      try simp only [Act.put, List.setIfInBounds_toArray, List.set_cons_zero, List.set_cons_succ]
      refine rgTake (i := 4) (d := 48) (v := ?_) rfl rfl (by kernel_rfl) (by kernel_rfl) (by kernel_rfl) (fun _ _ _ h => h) (by rfl) ?_ (by assumption) ?_
      rotate_left
      · ((intro w hSw); (try dsimp only at hSw); go_simp; (try with_reducible rfl))
      try simp only [Act.put, List.setIfInBounds_toArray, List.set_cons_zero, List.set_cons_succ]
      refine rgTake (i := 5) (d := 49) (v := ?_) rfl rfl (by kernel_rfl) (by kernel_rfl) (by kernel_rfl) (fun _ _ _ h => h) (by rfl) ?_ (by assumption) ?_
      rotate_left
      · ((intro w hSw); (try dsimp only at hSw); go_simp; (try with_reducible rfl))
      try simp only [Act.put, List.setIfInBounds_toArray, List.set_cons_zero, List.set_cons_succ]
      refine rgTake (i := 6) (d := 50) (v := ?_) rfl rfl (by kernel_rfl) (by kernel_rfl) (by kernel_rfl) (fun _ _ _ h => h) (by rfl) ?_ (by assumption) ?_
      rotate_left
      · ((intro w hSw); (try dsimp only at hSw); go_simp; (try with_reducible rfl))
      try simp only [Act.put, List.setIfInBounds_toArray, List.set_cons_zero, List.set_cons_succ]
      refine rgTake (i := 7) (d := 51) (v := ?_) rfl rfl (by kernel_rfl) (by kernel_rfl) (by kernel_rfl) (fun _ _ _ h => h) (by rfl) ?_ (by assumption) ?_
      rotate_left
      · ((intro w hSw); (try dsimp only at hSw); (obtain ⟨sd9, B9, hc9⟩ := hSw; obtain ⟨c0, c1, c2⟩ := blk3 B9); go_simp; (try with_reducible rfl))
      try simp only [Act.put, List.setIfInBounds_toArray, List.set_cons_zero, List.set_cons_succ]
      refine rgTake (i := 8) (d := 52) (v := ?_) rfl rfl (by kernel_rfl) (by kernel_rfl) (by kernel_rfl) (fun _ _ _ h => h) (by rfl) ?_ (by assumption) ?_
      rotate_left
      · ((intro w hSw); (try dsimp only at hSw); go_simp; (try with_reducible rfl))
      try simp only [Act.put, List.setIfInBounds_toArray, List.set_cons_zero, List.set_cons_succ]
      refine rgTake (i := 9) (d := 53) (v := ?_) rfl rfl (by kernel_rfl) (by kernel_rfl) (by kernel_rfl) (fun _ _ _ h => h) (by rfl) ?_ (by assumption) ?_
      rotate_left
      · ((intro w hSw); (try dsimp only at hSw); go_simp; (try with_reducible rfl))
      try simp only [Act.put, List.setIfInBounds_toArray, List.set_cons_zero, List.set_cons_succ]
      refine wpAnyH_done (by kernel_rfl) ?_ _
      go_wp2_with fail
      go_meet
      exact ⟨rfl, hHeld⟩
    case rest =>
    obtain ⟨rfl, sd2, B, hc⟩ := hcut
    obtain ⟨c0, c1, c2⟩ := blk3 B
    go_wp2_with fail
    go_ret
    exact ⟨_, rfl, (byte_of _).1, (byte_of _).2, ⟨_, n, c, l, a + 1, sd2, hR.keep (fun p hp => cell_ch hc p (by omega) (by omega)), hl, hn, by omega, by omega, hbg, B⟩, hc⟩
set_option maxHeartbeats 1000000 in
theorem pick_any {b g : Nat} {k m : Int} {w : World} (K : Cur w b g k) (hk : k ≤ 900000) (hm0 : 0 ≤ m) (hm : m ≤ 60000) :
    Calls Tryz.prog 61 #[.pointer (some ⟨g, 0, none⟩), .int .i64 m] w fun e w' => ∃ r, e = .returned (.int .i64 r) ∧ 0 ≤ r ∧ (r = 0 ∨ r < m) ∧ Cur w' b g (k + 2) ∧ Ch (fun j => j = g) w w' := by
  by_cases h1 : m ≤ 1
  · go_enter Tryz.func61, Tryz.ntmps61
    go_wp2_with fail
    go_ret
    exact ⟨0, rfl, Int.le_refl _, Or.inl rfl, K.more (by omega), ch_refl _⟩
  have hz : m ≠ 0 := by omega
  by_cases h2 : 200 < m
  · go_enter Tryz.func61, Tryz.ntmps61
    go_wp2_with fail
    refine (next_any K (by omega)).mono ?_
    rintro e w1 ⟨x, rfl, hx0, hx1, K1, hc1⟩
    go_wp2_with fail
    refine (next_any K1 (by omega)).mono ?_
    rintro e w2 ⟨y, rfl, hy0, hy1, K2, hc2⟩
    have hxy : IntKind.i64.wrap (x * 256 + y) = x * 256 + y := IntWalk.i64_in _ (by omega)
    have hx2 : 0 ≤ x * 256 + y := by omega
    go_wp2_with fail
    go_ret
    exact ⟨_, rfl, Int.emod_nonneg _ hz, Or.inr (Int.emod_lt_of_pos _ (by omega)), K2.more (by omega), hc1.trans hc2⟩
  · go_enter Tryz.func61, Tryz.ntmps61
    go_wp2_with fail
    refine (next_any K (by omega)).mono ?_
    rintro e w1 ⟨x, rfl, hx0, hx1, K1, hc1⟩
    go_wp2_with fail
    go_ret
    exact ⟨_, rfl, Int.emod_nonneg _ hz, Or.inr (Int.emod_lt_of_pos _ (by omega)), K1.more (by omega), hc1⟩
theorem one_any {b g : Nat} {k m : Int} {w : World} (K : Cur w b g k) (hk : k ≤ 900000) (hm0 : 0 ≤ m) (hm : m ≤ 60000) :
    Calls Tryz.prog 52 #[.pointer (some ⟨g, 0, none⟩), .int .i64 m] w fun e w' => ∃ r, e = .returned (.bool r) ∧ Cur w' b g (k + 2) ∧ Ch (fun j => j = g) w w' := by
  go_enter Tryz.func52, Tryz.ntmps52
  go_wp2_with fail
  refine (pick_any K hk hm0 hm).mono ?_
  rintro e w1 ⟨x, rfl, hx0, hx1, K1, hc1⟩
  go_wp2_with fail
  go_ret
  exact ⟨_, rfl, K1, hc1⟩
theorem of_any {b g gl n : Nat} {k : Int} {xs : List ByteArray} {w : World} (K : Cur w b g k) (hk : k ≤ 900000) (L : Blk w gl 9 (strs xs)) (hg : gl ≠ g) (hn : xs.length = n) (hn0 : 0 < n) (hn1 : n ≤ 60000) :
    Calls Tryz.prog 88 #[.pointer (some ⟨g, 0, none⟩), .slice (some ⟨gl, 0, none⟩) n n] w fun e w' => ∃ s ∈ xs, e = .returned (.string s) ∧ Cur w' b g (k + 2) ∧ Ch (fun j => j = g) w w' := by
  go_enter Tryz.func88, Tryz.ntmps88
  go_wp2_with fail
  refine (pick_any K hk (by omega) (by omega)).mono ?_
  rintro e w1 ⟨x, rfl, hx0, hx1, K1, hc1⟩
  have hxn : x < n := by omega
  have L1 := L.ch hc1 hg
  have kx : x.toNat < xs.length := by omega
  have cz : w1.cell? ⟨gl, x.toNat, none⟩ = some (.string xs[x.toNat]) := by rw [L1.cell]; simp [strs, kx]
  have hm := List.getElem_mem kx
  generalize xs[x.toNat] = s at *
  go_wp2_with fail
  go_ret
  exact ⟨s, hm, rfl, K1, hc1⟩
theorem among_any {b g gl n : Nat} {k : Int} {xs : List Int} {w : World} (K : Cur w b g k) (hk : k ≤ 900000) (L : Blk w gl 3 (ints xs)) (hg : gl ≠ g) (hn : xs.length = n) (hn0 : 0 < n) (hn1 : n ≤ 60000) :
    Calls Tryz.prog 60 #[.pointer (some ⟨g, 0, none⟩), .slice (some ⟨gl, 0, none⟩) n n] w fun e w' => ∃ s ∈ xs, e = .returned (.int .i64 s) ∧ Cur w' b g (k + 2) ∧ Ch (fun j => j = g) w w' := by
  go_enter Tryz.func60, Tryz.ntmps60
  go_wp2_with fail
  refine (pick_any K hk (by omega) (by omega)).mono ?_
  rintro e w1 ⟨x, rfl, hx0, hx1, K1, hc1⟩
  have hxn : x < n := by omega
  have L1 := L.ch hc1 hg
  have kx : x.toNat < xs.length := by omega
  have cz : w1.cell? ⟨gl, x.toNat, none⟩ = some (.int .i64 xs[x.toNat]) := by rw [L1.cell, ints_get kx]
  have hm := List.getElem_mem kx
  generalize xs[x.toNat] = s at *
  go_wp2_with fail
  go_ret
  exact ⟨s, hm, rfl, K1, hc1⟩
end Go.Proofs.YtmmpcchjalgokaaGreatDoor
