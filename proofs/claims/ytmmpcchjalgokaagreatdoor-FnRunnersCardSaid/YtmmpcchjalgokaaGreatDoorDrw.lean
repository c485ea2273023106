/- The reference's draws of runners. -/
import Derived.Test.YtmmpcchjalgokaaGreatDoorCur
import Derived.Test.YtmmpcchjalgokaaGreatDoorInv
import Derived.Test.YtmmpcchjalgokaaGreatDoorAdd
namespace Go.Proofs.YtmmpcchjalgokaaGreatDoor
set_option linter.unusedVariables false
set_option linter.unusedSimpArgs false
open Go.RowKit
def bsn (l : List UInt8) : ByteArray := ⟨l.toArray⟩
def nmL : List ByteArray := [bsn [97, 110, 110], bsn [98, 111], bsn [99, 121], bsn [100, 105]]
def clL : List ByteArray := [bsn [104, 105, 108, 108], bsn [104, 105, 108, 108], bsn [102, 101, 110], bsn [111, 97, 107]]
theorem nmL_sz : ∀ s ∈ nmL, s.size ≤ 20 := by decide
theorem clL_sz : ∀ s ∈ clL, s.size ≤ 20 := by decide
def bnL : List Int := [1920, 1960, 1990, 2008, 2020]
def cdL : List Int := [0, 0, 1, 7, 8, 9, 815, 9999]
theorem bnL_bd : ∀ x ∈ bnL, 0 ≤ x ∧ x ≤ 9999 := by decide
theorem cdL_bd : ∀ x ∈ cdL, 0 ≤ x ∧ x ≤ 9999 := by decide
def b0L : List Int := [0, 999, 1000]
def b1L : List ByteArray := [bsn [], bsn [65], bsn [97, 98, 99, 100, 101, 102, 103, 104, 105, 106, 107]]
def b3L : List Int := [1919, 2021]
def b4L : List Int := [-1, 10000]
theorem b0L_bd : ∀ x ∈ b0L, 0 ≤ x ∧ x ≤ 9999 := by decide
theorem b1L_bd : ∀ s ∈ b1L, s.size ≤ 20 := by decide
theorem b3L_bd : ∀ x ∈ b3L, 0 ≤ x ∧ x ≤ 9999 := by decide
theorem b4L_bd : ∀ x ∈ b4L, -1 ≤ x ∧ x ≤ 10000 := by decide
theorem rn_ok {a d f : Int} {b c : ByteArray} {e : Bool} (ha : -1 ≤ a ∧ a ≤ 10000) (hb : b.size ≤ 20) (hc : c.size ≤ 20) (hd : -1 ≤ d ∧ d ≤ 10000) (hf : -1 ≤ f ∧ f ≤ 10000) : Rn.Ok ⟨a, b, c, d, e, f⟩ := by
  unfold Rn.Ok I64
  dsimp only
  simp only [maxLen]
  omega
theorem two_new1 (w : World) (o : Obj) (t : TypeId) (cs : List Value) : Blk ((w.alloc o).alloc (.cells cs.toArray t)) (w.heap.size + 1) t cs := by
  have := Blk.new (w.alloc o) t cs
  rwa [World.size_alloc] at this
theorem ch_alloc {S : Nat → Prop} {w w' : World} (h : Ch S w w') (o : Obj) : Ch S w (w'.alloc o) := h.trans (Ch.of_below (Below.alloc (Below.refl _ _) (Nat.le_refl _) o))
theorem ch_new {S : Nat → Prop} {w w' w'' : World} {j : Nat} (h : Ch S w w') (c : Ch (fun k => k = j) w' w'') (hj : w.heap.size ≤ j) : Ch S w w'' :=
  ⟨c.os.trans h.os, c.tape.trans h.tape, c.output.trans h.output, Nat.le_trans h.size c.size, fun i hi hs => (c.block i (Nat.lt_of_lt_of_le hi h.size) (by show ¬ i = j; omega)).trans (h.block i hi hs)⟩
theorem ch_put6 {g : Nat} (w : World) (o : Nat) (r : Rn) : Ch (fun k => k = g) w (World.setCell (World.setCell (World.setCell (World.setCell (World.setCell (World.setCell w ⟨g, o, none⟩ (.int .i64 r.id)) ⟨g, o + 1, none⟩ (.string r.name)) ⟨g, o + 2, none⟩ (.string r.club)) ⟨g, o + 3, none⟩ (.int .i64 r.born)) ⟨g, o + 4, none⟩ (.bool r.woman)) ⟨g, o + 5, none⟩ (.int .i64 r.card)) :=
  (((((ch_set_ w).trans (ch_set_ _)).trans (ch_set_ _)).trans (ch_set_ _)).trans (ch_set_ _)).trans (ch_set_ _)
set_option maxRecDepth 100000 in
set_option maxHeartbeats 4000000 in
theorem runner_any {b g : Nat} {k id : Int} {w : World} (K : Cur w b g k) (hk : k ≤ 800000) (hi : 0 ≤ id ∧ id ≤ 1000) :
    Calls Tryz.prog 72 #[.pointer (some ⟨g, 0, none⟩), .int .i64 id] w fun e w' => ∃ r : Rn, Rn.Ok r ∧ e = .returned (.agg #[.int .i64 r.id, .string r.name, .string r.club, .int .i64 r.born, .bool r.woman, .int .i64 r.card]) ∧ Cur w' b g (k + 20) ∧ Ch (fun j => j = g) w w' := by
  have hl := K.lt.1
  have Z := Blk.new w 41 [.int .i64 0, .string ByteArray.empty, .string ByteArray.empty, .int .i64 0, .bool false, .int .i64 0]
  go_enter Tryz.func72, Tryz.ntmps72
  go_wp2_with fail
  refine (of_any (xs := nmL) (n := 4) ((K.alloc _).alloc _) (by omega) (two_new1 w _ _ _) (by omega) rfl (by omega) (by omega)).mono ?_
  rintro e w1 ⟨s1, hs1, rfl, K1, hc1⟩
  replace Z := (Z.alloc _).ch hc1 (by omega)
  have HC := ch_alloc (ch_alloc (ch_refl (S := fun j => j = g) w) _) _ |>.trans hc1
  have g1 := K1.lt.1
  go_wp2_with fail
  refine (of_any (xs := clL) (n := 4) (K1.alloc _) (by omega) (Blk.new w1 _ _) (by omega) rfl (by omega) (by omega)).mono ?_
  rintro e w2 ⟨s2, hs2, rfl, K2, hc2⟩
  replace Z := (Z.alloc _).ch hc2 (by omega)
  replace HC := (ch_alloc HC _).trans hc2
  have g2 := K2.lt.1
  go_wp2_with fail
  refine (among_any (xs := bnL) (n := 5) (K2.alloc _) (by omega) (Blk.new w2 _ _) (by omega) rfl (by omega) (by omega)).mono ?_
  rintro e w3 ⟨s3, hs3, rfl, K3, hc3⟩
  replace Z := (Z.alloc _).ch hc3 (by omega)
  replace HC := (ch_alloc HC _).trans hc3
  go_wp2_with fail
  refine (one_any K3 (by omega) (by omega) (by omega)).mono ?_
  rintro e w4 ⟨s4, rfl, K4, hc4⟩
  replace Z := Z.ch hc4 (by omega)
  replace HC := HC.trans hc4
  have g4 := K4.lt.1
  go_wp2_with fail
  refine (among_any (xs := cdL) (n := 8) (K4.alloc _) (by omega) (Blk.new w4 _ _) (by omega) rfl (by omega) (by omega)).mono ?_
  rintro e w5 ⟨s5, hs5, rfl, K5, hc5⟩
  replace Z := (Z.alloc _).ch hc5 (by omega)
  replace HC := (ch_alloc HC _).trans hc5
  have g5 := K5.lt.1
  clear hc1 hc2 hc3 hc4 hc5 K K1 K2 K3 K4
  have B := Blk.new w5 41 [.int .i64 id, .string s1, .string s2, .int .i64 s3, .bool s4, .int .i64 s5]
  have HB := ch_alloc HC (.cells #[.int .i64 id, .string s1, .string s2, .int .i64 s3, .bool s4, .int .i64 s5] 41)
  replace HC := HB
  clear HB
  have hgx : w.heap.size < w5.heap.size := Z.lt
  go_wp2_with fail
  refine (pick_any (K5.alloc _) (by omega) (by omega) (by omega)).mono ?_
  rintro e w6 ⟨x, rfl, hx0, hx1, K6, hc6⟩
  replace B := B.ch hc6 (by omega)
  replace Z := (Z.alloc _).ch hc6 (by omega)
  replace HC := HC.trans hc6
  have g6 := K6.lt.1
  generalize w5.heap.size = gx at *
  have hlt6 := Z.lt
  have bs1 := nmL_sz s1 hs1
  have bs2 := clL_sz s2 hs2
  have bs3 := bnL_bd s3 hs3
  have bs5 := cdL_bd s5 hs5
  clear hc6 K5 hs1 hs2 hs3 hs5
  have HCC := Lib.hid HC
  have KKK := Lib.hid K6
  have HZ := Lib.hid Z
  have HBB := Lib.hid B
  clear HC K6 Z B
  have hx : x = 0 ∨ x = 1 ∨ x = 2 ∨ x = 3 ∨ x = 4 ∨ 5 ≤ x := by omega
  clear hx0 hx1
  rcases hx with rfl | rfl | rfl | rfl | rfl | h5
  · go_wp2_with fail
    refine (among_any (xs := b0L) (n := 3) (KKK.out.alloc _) (by omega) (Blk.new w6 _ _) (by omega) rfl (by omega) (by omega)).mono ?_
    rintro e w7 ⟨v, hv, rfl, K7, hc7⟩
    have BB := (HBB.out.alloc _).ch hc7 (by omega)
    have ZZ := (HZ.out.alloc _).ch hc7 (by omega)
    have H7 := Lib.hid ((ch_alloc HCC.out _).trans hc7)
    have bv := b0L_bd v hv
    have fb := BB.frozen 0
    obtain ⟨b0, b1, b2, b3, b4, b5⟩ := blk6 BB
    obtain ⟨y0, y1, y2, y3, y4, y5⟩ := blk6 ZZ
    have z0 := ZZ.frozen 0
    have z1 := ZZ.frozen 1
    have z2 := ZZ.frozen 2
    have z3 := ZZ.frozen 3
    have z4 := ZZ.frozen 4
    have z5 := ZZ.frozen 5
    have HK7 := Lib.hid K7
    have HZ7 := Lib.hid ZZ
    have hlb := BB.lt
    clear BB ZZ hc7 hv K7
    go_wp2_with fail
    have Z2 := (HZ7.out.far (p := ⟨gx, 0, none⟩) (by show w.heap.size ≠ gx; omega) (.int .i64 v)).put6 0 ⟨v, s1, s2, s3, s4, s5⟩
    have KE := (HK7.out.ch (ch_set_ (g := gx) (i := 0) (u := (.int .i64 v)) w7) (fun j h => by subst h; omega)).ch (ch_put6 (g := w.heap.size) _ 0 ⟨v, s1, s2, s3, s4, s5⟩) (fun j h => by subst h; omega)
    have HE := ch_new (ch_new H7.out (ch_set_ (g := gx) (i := 0) (u := (.int .i64 v)) w7) (by omega)) (ch_put6 (g := w.heap.size) _ 0 ⟨v, s1, s2, s3, s4, s5⟩) (Nat.le_refl _)
    obtain ⟨q0, q1, q2, q3, q4, q5⟩ := blk6 (show Blk _ _ _ (Rn.cells ⟨v, s1, s2, s3, s4, s5⟩) from Z2)
    refine bodyPost_ret (v := .agg #[.int .i64 v, .string s1, .string s2, .int .i64 s3, .bool s4, .int .i64 s5]) (by simp [results, Tryz.results72, go_sem, q0, q1, q2, q3, q4, q5]) rfl ⟨⟨v, s1, s2, s3, s4, s5⟩, rn_ok (by omega) (by omega) (by omega) (by omega) (by omega), rfl, KE.more (by omega), HE⟩
  · go_wp2_with fail
    refine (of_any (xs := b1L) (n := 3) (KKK.out.alloc _) (by omega) (Blk.new w6 _ _) (by omega) rfl (by omega) (by omega)).mono ?_
    rintro e w7 ⟨v, hv, rfl, K7, hc7⟩
    have BB := (HBB.out.alloc _).ch hc7 (by omega)
    have ZZ := (HZ.out.alloc _).ch hc7 (by omega)
    have H7 := Lib.hid ((ch_alloc HCC.out _).trans hc7)
    have bv := b1L_bd v hv
    have fb := BB.frozen 1
    obtain ⟨b0, b1, b2, b3, b4, b5⟩ := blk6 BB
    obtain ⟨y0, y1, y2, y3, y4, y5⟩ := blk6 ZZ
    have z0 := ZZ.frozen 0
    have z1 := ZZ.frozen 1
    have z2 := ZZ.frozen 2
    have z3 := ZZ.frozen 3
    have z4 := ZZ.frozen 4
    have z5 := ZZ.frozen 5
    have HK7 := Lib.hid K7
    have HZ7 := Lib.hid ZZ
    have hlb := BB.lt
    clear BB ZZ hc7 hv K7
    go_wp2_with fail
    have Z2 := (HZ7.out.far (p := ⟨gx, 1, none⟩) (by show w.heap.size ≠ gx; omega) (.string v)).put6 0 ⟨id, v, s2, s3, s4, s5⟩
    have KE := (HK7.out.ch (ch_set_ (g := gx) (i := 1) (u := (.string v)) w7) (fun j h => by subst h; omega)).ch (ch_put6 (g := w.heap.size) _ 0 ⟨id, v, s2, s3, s4, s5⟩) (fun j h => by subst h; omega)
    have HE := ch_new (ch_new H7.out (ch_set_ (g := gx) (i := 1) (u := (.string v)) w7) (by omega)) (ch_put6 (g := w.heap.size) _ 0 ⟨id, v, s2, s3, s4, s5⟩) (Nat.le_refl _)
    obtain ⟨q0, q1, q2, q3, q4, q5⟩ := blk6 (show Blk _ _ _ (Rn.cells ⟨id, v, s2, s3, s4, s5⟩) from Z2)
    refine bodyPost_ret (v := .agg #[.int .i64 id, .string v, .string s2, .int .i64 s3, .bool s4, .int .i64 s5]) (by simp [results, Tryz.results72, go_sem, q0, q1, q2, q3, q4, q5]) rfl ⟨⟨id, v, s2, s3, s4, s5⟩, rn_ok (by omega) (by omega) (by omega) (by omega) (by omega), rfl, KE.more (by omega), HE⟩
  · go_wp2_with fail
    refine (of_any (xs := b1L) (n := 3) (KKK.out.alloc _) (by omega) (Blk.new w6 _ _) (by omega) rfl (by omega) (by omega)).mono ?_
    rintro e w7 ⟨v, hv, rfl, K7, hc7⟩
    have BB := (HBB.out.alloc _).ch hc7 (by omega)
    have ZZ := (HZ.out.alloc _).ch hc7 (by omega)
    have H7 := Lib.hid ((ch_alloc HCC.out _).trans hc7)
    have bv := b1L_bd v hv
    have fb := BB.frozen 2
    obtain ⟨b0, b1, b2, b3, b4, b5⟩ := blk6 BB
    obtain ⟨y0, y1, y2, y3, y4, y5⟩ := blk6 ZZ
    have z0 := ZZ.frozen 0
    have z1 := ZZ.frozen 1
    have z2 := ZZ.frozen 2
    have z3 := ZZ.frozen 3
    have z4 := ZZ.frozen 4
    have z5 := ZZ.frozen 5
    have HK7 := Lib.hid K7
    have HZ7 := Lib.hid ZZ
    have hlb := BB.lt
    clear BB ZZ hc7 hv K7
    go_wp2_with fail
    have Z2 := (HZ7.out.far (p := ⟨gx, 2, none⟩) (by show w.heap.size ≠ gx; omega) (.string v)).put6 0 ⟨id, s1, v, s3, s4, s5⟩
    have KE := (HK7.out.ch (ch_set_ (g := gx) (i := 2) (u := (.string v)) w7) (fun j h => by subst h; omega)).ch (ch_put6 (g := w.heap.size) _ 0 ⟨id, s1, v, s3, s4, s5⟩) (fun j h => by subst h; omega)
    have HE := ch_new (ch_new H7.out (ch_set_ (g := gx) (i := 2) (u := (.string v)) w7) (by omega)) (ch_put6 (g := w.heap.size) _ 0 ⟨id, s1, v, s3, s4, s5⟩) (Nat.le_refl _)
    obtain ⟨q0, q1, q2, q3, q4, q5⟩ := blk6 (show Blk _ _ _ (Rn.cells ⟨id, s1, v, s3, s4, s5⟩) from Z2)
    refine bodyPost_ret (v := .agg #[.int .i64 id, .string s1, .string v, .int .i64 s3, .bool s4, .int .i64 s5]) (by simp [results, Tryz.results72, go_sem, q0, q1, q2, q3, q4, q5]) rfl ⟨⟨id, s1, v, s3, s4, s5⟩, rn_ok (by omega) (by omega) (by omega) (by omega) (by omega), rfl, KE.more (by omega), HE⟩
  · go_wp2_with fail
    refine (among_any (xs := b3L) (n := 2) (KKK.out.alloc _) (by omega) (Blk.new w6 _ _) (by omega) rfl (by omega) (by omega)).mono ?_
    rintro e w7 ⟨v, hv, rfl, K7, hc7⟩
    have BB := (HBB.out.alloc _).ch hc7 (by omega)
    have ZZ := (HZ.out.alloc _).ch hc7 (by omega)
    have H7 := Lib.hid ((ch_alloc HCC.out _).trans hc7)
    have bv := b3L_bd v hv
    have fb := BB.frozen 3
    obtain ⟨b0, b1, b2, b3, b4, b5⟩ := blk6 BB
    obtain ⟨y0, y1, y2, y3, y4, y5⟩ := blk6 ZZ
    have z0 := ZZ.frozen 0
    have z1 := ZZ.frozen 1
    have z2 := ZZ.frozen 2
    have z3 := ZZ.frozen 3
    have z4 := ZZ.frozen 4
    have z5 := ZZ.frozen 5
    have HK7 := Lib.hid K7
    have HZ7 := Lib.hid ZZ
    have hlb := BB.lt
    clear BB ZZ hc7 hv K7
    go_wp2_with fail
    have Z2 := (HZ7.out.far (p := ⟨gx, 3, none⟩) (by show w.heap.size ≠ gx; omega) (.int .i64 v)).put6 0 ⟨id, s1, s2, v, s4, s5⟩
    have KE := (HK7.out.ch (ch_set_ (g := gx) (i := 3) (u := (.int .i64 v)) w7) (fun j h => by subst h; omega)).ch (ch_put6 (g := w.heap.size) _ 0 ⟨id, s1, s2, v, s4, s5⟩) (fun j h => by subst h; omega)
    have HE := ch_new (ch_new H7.out (ch_set_ (g := gx) (i := 3) (u := (.int .i64 v)) w7) (by omega)) (ch_put6 (g := w.heap.size) _ 0 ⟨id, s1, s2, v, s4, s5⟩) (Nat.le_refl _)
    obtain ⟨q0, q1, q2, q3, q4, q5⟩ := blk6 (show Blk _ _ _ (Rn.cells ⟨id, s1, s2, v, s4, s5⟩) from Z2)
    refine bodyPost_ret (v := .agg #[.int .i64 id, .string s1, .string s2, .int .i64 v, .bool s4, .int .i64 s5]) (by simp [results, Tryz.results72, go_sem, q0, q1, q2, q3, q4, q5]) rfl ⟨⟨id, s1, s2, v, s4, s5⟩, rn_ok (by omega) (by omega) (by omega) (by omega) (by omega), rfl, KE.more (by omega), HE⟩
  · go_wp2_with fail
    refine (among_any (xs := b4L) (n := 2) (KKK.out.alloc _) (by omega) (Blk.new w6 _ _) (by omega) rfl (by omega) (by omega)).mono ?_
    rintro e w7 ⟨v, hv, rfl, K7, hc7⟩
    have BB := (HBB.out.alloc _).ch hc7 (by omega)
    have ZZ := (HZ.out.alloc _).ch hc7 (by omega)
    have H7 := Lib.hid ((ch_alloc HCC.out _).trans hc7)
    have bv := b4L_bd v hv
    have fb := BB.frozen 5
    obtain ⟨b0, b1, b2, b3, b4, b5⟩ := blk6 BB
    obtain ⟨y0, y1, y2, y3, y4, y5⟩ := blk6 ZZ
    have z0 := ZZ.frozen 0
    have z1 := ZZ.frozen 1
    have z2 := ZZ.frozen 2
    have z3 := ZZ.frozen 3
    have z4 := ZZ.frozen 4
    have z5 := ZZ.frozen 5
    have HK7 := Lib.hid K7
    have HZ7 := Lib.hid ZZ
    have hlb := BB.lt
    clear BB ZZ hc7 hv K7
    go_wp2_with fail
    have Z2 := (HZ7.out.far (p := ⟨gx, 5, none⟩) (by show w.heap.size ≠ gx; omega) (.int .i64 v)).put6 0 ⟨id, s1, s2, s3, s4, v⟩
    have KE := (HK7.out.ch (ch_set_ (g := gx) (i := 5) (u := (.int .i64 v)) w7) (fun j h => by subst h; omega)).ch (ch_put6 (g := w.heap.size) _ 0 ⟨id, s1, s2, s3, s4, v⟩) (fun j h => by subst h; omega)
    have HE := ch_new (ch_new H7.out (ch_set_ (g := gx) (i := 5) (u := (.int .i64 v)) w7) (by omega)) (ch_put6 (g := w.heap.size) _ 0 ⟨id, s1, s2, s3, s4, v⟩) (Nat.le_refl _)
    obtain ⟨q0, q1, q2, q3, q4, q5⟩ := blk6 (show Blk _ _ _ (Rn.cells ⟨id, s1, s2, s3, s4, v⟩) from Z2)
    refine bodyPost_ret (v := .agg #[.int .i64 id, .string s1, .string s2, .int .i64 s3, .bool s4, .int .i64 v]) (by simp [results, Tryz.results72, go_sem, q0, q1, q2, q3, q4, q5]) rfl ⟨⟨id, s1, s2, s3, s4, v⟩, rn_ok (by omega) (by omega) (by omega) (by omega) (by omega), rfl, KE.more (by omega), HE⟩
  · have e0 : (x == 0) = false := by simp; omega
    have e1 : (x == 1) = false := by simp; omega
    have e2 : (x == 2) = false := by simp; omega
    have e3 : (x == 3) = false := by simp; omega
    have e4 : (x == 4) = false := by simp; omega
    have n0 : ¬ x = 0 := by omega
    have n1 : ¬ x = 1 := by omega
    have n2 : ¬ x = 2 := by omega
    have n3 : ¬ x = 3 := by omega
    have n4 : ¬ x = 4 := by omega
    have BB := HBB.out
    have ZZ := HZ.out
    obtain ⟨b0, b1, b2, b3, b4, b5⟩ := blk6 BB
    obtain ⟨y0, y1, y2, y3, y4, y5⟩ := blk6 ZZ
    have z0 := ZZ.frozen 0
    have z1 := ZZ.frozen 1
    have z2 := ZZ.frozen 2
    have z3 := ZZ.frozen 3
    have z4 := ZZ.frozen 4
    have z5 := ZZ.frozen 5
    clear BB ZZ
    go_wp2_with fail
    have Z2 := HZ.out.put6 0 ⟨id, s1, s2, s3, s4, s5⟩
    have KE := KKK.out.ch (ch_put6 (g := w.heap.size) _ 0 ⟨id, s1, s2, s3, s4, s5⟩) (fun j h => by subst h; omega)
    have HE := ch_new HCC.out (ch_put6 (g := w.heap.size) _ 0 ⟨id, s1, s2, s3, s4, s5⟩) (Nat.le_refl _)
    obtain ⟨q0, q1, q2, q3, q4, q5⟩ := blk6 (show Blk _ _ _ (Rn.cells ⟨id, s1, s2, s3, s4, s5⟩) from Z2)
    refine bodyPost_ret (v := .agg #[.int .i64 id, .string s1, .string s2, .int .i64 s3, .bool s4, .int .i64 s5]) (by simp [results, Tryz.results72, go_sem, q0, q1, q2, q3, q4, q5]) rfl ⟨⟨id, s1, s2, s3, s4, s5⟩, rn_ok (by omega) (by omega) (by omega) (by omega) (by omega), rfl, KE.more (by omega), HE⟩
end Go.Proofs.YtmmpcchjalgokaaGreatDoor
