/- The reference's draws of features. -/
import Derived.Test.YtmmpcchjalgokaaDoorSpo
import Derived.Test.YtmmpcchjalgokaaDoorTrn
import Derived.Deep.DeepCutAuto
namespace Go.Proofs.YtmmpcchjalgokaaDoor
set_option linter.unusedVariables false
set_option linter.unusedSimpArgs false
open Go.RowKit
def Sml (f : Ft) : Prop := (0 ≤ f.code ∧ f.code ≤ 200) ∧ f.which.size ≤ 20 ∧ f.what.size ≤ 20 ∧ f.look.size ≤ 20 ∧ f.side.size ≤ 20
theorem Sml.ok {f : Ft} (h : Sml f) : Ft.Ok f := by
  unfold Sml at h
  unfold Ft.Ok I64
  simp only [maxLen]
  omega
theorem ch_allocF {S : Nat → Prop} {w w' : World} (h : Ch S w w') (o : Obj) : Ch S w (w'.alloc o) := h.trans (Ch.of_below (Below.alloc (Below.refl _ _) (Nat.le_refl _) o))
theorem ch_newF {S T : Nat → Prop} {w w' w'' : World} (h : Ch S w w') (c : Ch T w' w'') (hT : ∀ j, T j → w.heap.size ≤ j ∨ S j) : Ch S w w'' :=
  ⟨c.os.trans h.os, c.tape.trans h.tape, c.output.trans h.output, Nat.le_trans h.size c.size, fun i hi hs => (c.block i (Nat.lt_of_lt_of_le hi h.size) (fun h9 => by rcases hT i h9 with h8 | h8; omega; exact hs h8)).trans (h.block i hi hs)⟩
/-- What holds while a feature is drawn: its box lies at X, the result's box at Z. -/
structure FtSt (w0 : World) (b g Z X : Nat) (k : Int) (w : World) : Prop where
  hg : g < w0.heap.size
  hz : w0.heap.size ≤ Z
  hx : w0.heap.size ≤ X
  ne : Z ≠ X
  ft : ∃ f : Ft, Sml f ∧ Blk w X 23 f.cells
  res : Blk w Z 23 [.int .i64 0, .string ByteArray.empty, .string ByteArray.empty, .string ByteArray.empty, .string ByteArray.empty]
  cur : Cur w b g k
  ch : Ch (fun j => j = g) w0 w
theorem FtSt.lt {w0 : World} {b g Z X : Nat} {k : Int} {w : World} (h : FtSt w0 b g Z X k w) : X < w.heap.size := by
  obtain ⟨f, _, B⟩ := h.ft
  exact B.lt
theorem FtSt.step {w0 : World} {b g Z X : Nat} {k k' : Int} {w w' : World} (h : FtSt w0 b g Z X k w) (K : Cur w' b g k') (hc : Ch (fun j => j = g) w w') : FtSt w0 b g Z X k' w' := by
  obtain ⟨hg, hz, hx, ne, ⟨f, hf, B⟩, R, _, C⟩ := h
  exact ⟨hg, hz, hx, ne, ⟨f, hf, B.ch hc (by omega)⟩, R.ch hc (by omega), K, C.trans hc⟩
theorem FtSt.more {w0 : World} {b g Z X : Nat} {k k' : Int} {w : World} (h : FtSt w0 b g Z X k w) (hk : k ≤ k') : FtSt w0 b g Z X k' w :=
  ⟨h.hg, h.hz, h.hx, h.ne, h.ft, h.res, h.cur.more hk, h.ch⟩
theorem FtSt.on {w0 : World} {b g Z X : Nat} {k : Int} {w w' : World} (h : FtSt w0 b g Z X k w) (hb : Below w.heap.size w w') : FtSt w0 b g Z X k w' :=
  h.step (h.cur.on hb) (Ch.of_below hb)
theorem FtSt.alloc {w0 : World} {b g Z X : Nat} {k : Int} {w : World} (h : FtSt w0 b g Z X k w) (o : Obj) : FtSt w0 b g Z X k (w.alloc o) :=
  h.on (Below.alloc (Below.refl _ _) (Nat.le_refl _) o)
theorem FtSt.put {w0 : World} {b g Z X : Nat} {k : Int} {w : World} (h : FtSt w0 b g Z X k w) (i : Nat) (u : Value) (hu : ∀ f : Ft, Sml f → ∃ f' : Ft, Sml f' ∧ f.cells.set i u = f'.cells) : FtSt w0 b g Z X k (w.setCell ⟨X, i, none⟩ u) := by
  obtain ⟨hg, hz, hx, ne, ⟨f, hf, B⟩, R, K, C⟩ := h
  obtain ⟨f', hf', e⟩ := hu f hf
  have B' := B.set_ i u
  rw [e] at B'
  exact ⟨hg, hz, hx, ne, ⟨f', hf', B'⟩, R.far (p := ⟨X, i, none⟩) ne u, K.ch (ch_set_ (g := X) (i := i) (u := u) w) (fun j h => by subst h; omega), ch_newF C (ch_set_ (g := X) (i := i) (u := u) w) (fun j h => by subst h; left; omega)⟩
theorem FtSt.puts {w0 : World} {b g Z X : Nat} {k : Int} {w : World} (h : FtSt w0 b g Z X k w) {i : Nat} (hi : i = 1 ∨ i = 2 ∨ i = 3 ∨ i = 4) {s : ByteArray} (hs : s.size ≤ 20) : FtSt w0 b g Z X k (w.setCell ⟨X, i, none⟩ (.string s)) := by
  refine h.put i _ (fun f hf => ?_)
  unfold Sml at hf
  rcases hi with rfl | rfl | rfl | rfl
  · exact ⟨{ f with which := s }, by unfold Sml; simp only; omega, rfl⟩
  · exact ⟨{ f with what := s }, by unfold Sml; simp only; omega, rfl⟩
  · exact ⟨{ f with look := s }, by unfold Sml; simp only; omega, rfl⟩
  · exact ⟨{ f with side := s }, by unfold Sml; simp only; omega, rfl⟩
theorem FtSt.putc {w0 : World} {b g Z X : Nat} {k : Int} {w : World} (h : FtSt w0 b g Z X k w) {x : Int} (hx : 0 ≤ x ∧ x ≤ 200) : FtSt w0 b g Z X k (w.setCell ⟨X, 0, none⟩ (.int .i64 x)) := by
  refine h.put 0 _ (fun f hf => ?_)
  unfold Sml at hf
  exact ⟨{ f with code := x }, by unfold Sml; simp only; omega, rfl⟩
theorem FtSt.new {w0 : World} {b g Z : Nat} {k : Int} {w : World} (hg : g < w0.heap.size) (hz : w0.heap.size ≤ Z) (K : Cur w b g k) (R : Blk w Z 23 [.int .i64 0, .string ByteArray.empty, .string ByteArray.empty, .string ByteArray.empty, .string ByteArray.empty]) (C : Ch (fun j => j = g) w0 w) (f : Ft) (hf : Sml f) : FtSt w0 b g Z w.heap.size k (w.alloc (.cells f.cells.toArray 23)) :=
  ⟨hg, hz, C.size, (by have := R.lt; omega), ⟨f, hf, Blk.new w _ _⟩, R.alloc _, K.alloc _, ch_allocF C _⟩
theorem FtSt.lay {w0 : World} {b g Z X : Nat} {k : Int} {w : World} (hg : g < w0.heap.size) (hz : w0.heap.size ≤ Z) (hx : w0.heap.size ≤ X) (ne : Z ≠ X) (K : Cur w b g k) (R : Blk w Z 23 [.int .i64 0, .string ByteArray.empty, .string ByteArray.empty, .string ByteArray.empty, .string ByteArray.empty]) (C : Ch (fun j => j = g) w0 w) (B : Blk w X 23 [.int .i64 0, .string ByteArray.empty, .string ByteArray.empty, .string ByteArray.empty, .string ByteArray.empty]) (f : Ft) (hf : Sml f) : FtSt w0 b g Z X k (World.setCell (World.setCell (World.setCell (World.setCell (World.setCell w ⟨X, 0, none⟩ (.int .i64 f.code)) ⟨X, 1, none⟩ (.string f.which)) ⟨X, 2, none⟩ (.string f.what)) ⟨X, 3, none⟩ (.string f.look)) ⟨X, 4, none⟩ (.string f.side)) := by
  have hc : Ch (fun j => j = X) w (World.setCell (World.setCell (World.setCell (World.setCell (World.setCell w ⟨X, 0, none⟩ (.int .i64 f.code)) ⟨X, 1, none⟩ (.string f.which)) ⟨X, 2, none⟩ (.string f.what)) ⟨X, 3, none⟩ (.string f.look)) ⟨X, 4, none⟩ (.string f.side)) :=
    ((((ch_set_ w).trans (ch_set_ _)).trans (ch_set_ _)).trans (ch_set_ _)).trans (ch_set_ _)
  exact ⟨hg, hz, hx, ne, ⟨f, hf, B.put5 f⟩, R.ch hc ne, K.ch hc (fun j h => by subst h; omega), ch_newF C hc (fun j h => by subst h; left; omega)⟩
theorem ch_put5 (X : Nat) (w : World) (f : Ft) : Ch (fun j => j = X) w (World.setCell (World.setCell (World.setCell (World.setCell (World.setCell w ⟨X, 0, none⟩ (.int .i64 f.code)) ⟨X, 1, none⟩ (.string f.which)) ⟨X, 2, none⟩ (.string f.what)) ⟨X, 3, none⟩ (.string f.look)) ⟨X, 4, none⟩ (.string f.side)) :=
  ((((ch_set_ w).trans (ch_set_ _)).trans (ch_set_ _)).trans (ch_set_ _)).trans (ch_set_ _)
theorem Cur.ne {w : World} {b g gl : Nat} {k : Int} {cs : List Value} (K : Cur w b g k) (L : Blk w gl 9 cs) : gl ≠ g := by
  intro h
  subst h
  obtain ⟨C, n, c, l, a, sd, _, _, _, _, _, _, B⟩ := K
  have e := B.symm.trans L
  injection e with e
  injection e with _ e _
  exact absurd e (by decide)
theorem sides_gt {w0 w : World} {A : Option Addr} {n c : Nat} {xs : List ByteArray} {g : Nat} (h : w.ownsRow w0.heap.size 9 1 (.slice A n c) n (strs xs)) (hn : 0 < n) (hg : g < w0.heap.size) : ∀ w', Ch (fun j => j = g) w w' → ∃ B, Rd w' B 1 A n (strs xs) := by
  intro w' hc
  obtain ⟨q, rfl, hq, _⟩ := own_at h hn
  have h2 := own_ch h hc (fun k hk => by simp [Value.ownBlock] at hk; omega)
  exact ⟨_, Rd.of_own h2⟩
theorem mkF_size (l : Bs) : (mk l).size = l.length := by
  show l.toArray.size = l.length
  simp
theorem mkL_sz {ws : List Bs} (h : (ws.all fun l => decide (l.length ≤ 20)) = true) : ∀ s ∈ ws.map mk, s.size ≤ 20 := by
  intro s hs
  obtain ⟨l, hl, rfl⟩ := List.mem_map.1 hs
  rw [List.all_eq_true] at h
  have := h l hl
  rw [decide_eq_true_eq] at this
  rw [mkF_size]
  exact this
def g0L : List Int := [30, 100]
def g1L : List Bs := [[116, 111, 112], [98, 105, 103], [110, 111, 114, 116, 104]]
def g2L : List Bs := [[], [116, 114, 101, 101], [115, 105, 100, 101]]
def g3L : List Bs := [[100, 114, 121], [117, 112, 112, 101, 114]]
def g4L : List Bs := [[98, 101, 116, 119, 101, 101, 110], [116, 111, 112], [108, 101, 102, 116], [117, 112, 112, 101, 114]]
theorem g0L_bd : ∀ x ∈ g0L, 0 ≤ x ∧ x ≤ 200 := by decide
theorem WL_small {k : Nat} (h : k < 5) : ((WL k).all fun l => decide (l.length ≤ 20)) = true := by
  rcases (show k = 0 ∨ k = 1 ∨ k = 2 ∨ k = 3 ∨ k = 4 by omega) with rfl | rfl | rfl | rfl | rfl <;> decide
theorem sid_len (f : Int) : 0 < (sidL f).length ∧ (sidL f).length ≤ 20 := by
  unfold sidL
  split
  · decide
  · split
    · decide
    · split <;> decide
theorem sidL_small (f : Int) : ((sidL f).all fun l => decide (l.length ≤ 20)) = true := by
  unfold sidL
  split
  · decide
  · split
    · decide
    · split <;> decide
theorem wl_pos {k : Nat} (h : k < 5) : 0 < (WL k).length := by
  rcases (show k = 0 ∨ k = 1 ∨ k = 2 ∨ k = 3 ∨ k = 4 by omega) with rfl | rfl | rfl | rfl | rfl <;> decide
theorem of_rd {b g n c : Nat} {A : Option Addr} {k : Int} {xs : List ByteArray} {w : World} (K : Cur w b g k) (hk : k ≤ 900000) (L : ∀ w', Ch (fun j => j = g) w w' → ∃ B, Rd w' B 1 A n (strs xs)) (hn : xs.length = n) (hn0 : 0 < n) (hn1 : n ≤ 60000) :
    Calls Tryd.prog 93 #[.pointer (some ⟨g, 0, none⟩), .slice A n c] w fun e w' => ∃ s ∈ xs, e = .returned (.string s) ∧ Cur w' b g (k + 2) ∧ Ch (fun j => j = g) w w' := by
  obtain ⟨B0, R0⟩ := L w (ch_refl w)
  obtain ⟨bl, off, rfl, _, _⟩ := R0.2 hn0
  have HL := Lib.hid L
  clear L R0
  go_enter Tryd.func93, Tryd.ntmps93
  go_wp2_with fail
  refine (pick_any K hk (by omega) (by omega)).mono ?_
  rintro e w1 ⟨x, rfl, hx0, hx1, K1, hc1⟩
  have hxn : x < n := by omega
  obtain ⟨B1, R1⟩ := HL.out w1 hc1
  obtain ⟨bl', off', e', hbb, hcell⟩ := R1.2 hn0
  have eb : bl' = bl := by injection e' with e'; injection e' with e' _; exact e'.symm
  have eo : off' = off := by injection e' with e'; injection e' with _ e'; exact e'.symm
  subst eb eo
  have kx : x.toNat < xs.length := by omega
  have cz := hcell x.toNat (.string xs[x.toNat]) (by simp [strs, kx])
  have hm := List.getElem_mem kx
  generalize xs[x.toNat] = s at *
  clear hcell e' R1 HL
  go_wp2_with fail
  go_ret
  exact ⟨s, hm, rfl, K1, hc1⟩
set_option maxHeartbeats 2000000 in
theorem l3Whats_lo (w : World) : Calls Tryd.prog 116 #[] w fun e w' => ∃ (g : Nat) (gs : Nat → Nat), e = .returned (.slice (some ⟨g, 0, none⟩) 5 5) ∧ (∀ k, k < 5 → w'.cell? ⟨g, k, none⟩ = some (.slice (some ⟨gs k, 0, none⟩) (WL k).length (WL k).length) ∧ Blk w' (gs k) 9 (strs ((WL k).map mk)) ∧ w.heap.size ≤ gs k) ∧ (w.heap.size ≤ g ∧ g < w'.heap.size) ∧ Below w.heap.size w w' := by
  go_enter Tryd.func116, Tryd.ntmps116
  go_wp2_with fail
  go_ret
  refine ⟨_, fun k => w.heap.size + k, rfl, fun k hk => ?_, ⟨?_, ?_⟩, (by repeat (first | exact Below.refl _ _ | refine below_drewN ?_ _ | refine Below.drew ?_ | refine Below.alloc ?_ (by first | omega | (simp; done) | (simp; omega)) _ | refine Below.setCell ?_ (by first | omega | (simp; done) | (simp; omega)) _))⟩
  obtain ⟨b0, b1, b2, b3, b4, b5⟩ := six_new w _ _ _ _ _ _
  have B5 := b5
  refine ⟨?_, ?_, ?_⟩
  · refine (Blk.cell (t := 40) (cs := [_, _, _, _, _]) B5 k).trans ?_
    rcases (show k = 0 ∨ k = 1 ∨ k = 2 ∨ k = 3 ∨ k = 4 by omega) with rfl | rfl | rfl | rfl | rfl <;> rfl
  · rcases (show k = 0 ∨ k = 1 ∨ k = 2 ∨ k = 3 ∨ k = 4 by omega) with rfl | rfl | rfl | rfl | rfl
    · exact b0
    · exact b1
    · exact b2
    · exact b3
    · exact b4
  · show w.heap.size ≤ w.heap.size + k
    omega
  · first | omega | (simp; done) | (simp; omega)
  · first | omega | (simp; done) | (simp; omega)
set_option maxRecDepth 100000 in
set_option maxHeartbeats 16000000 in
theorem feature_any {b g : Nat} {k : Int} {w : World} (K : Cur w b g k) (hk : k ≤ 700000) :
    Calls Tryd.prog 119 #[.pointer (some ⟨g, 0, none⟩)] w fun e w' => ∃ f : Ft, Sml f ∧ e = .returned (.agg #[.int .i64 f.code, .string f.which, .string f.what, .string f.look, .string f.side]) ∧ Cur w' b g (k + 60) ∧ Ch (fun j => j = g) w w' := by
  have hl := K.lt.1
  have Z := Blk.new w 23 [.int .i64 0, .string ByteArray.empty, .string ByteArray.empty, .string ByteArray.empty, .string ByteArray.empty]
  have HC := ch_allocF (Ch.of_below (Below.refl w.heap.size w) : Ch (fun j => j = g) w w) (.cells #[.int .i64 0, .string ByteArray.empty, .string ByteArray.empty, .string ByteArray.empty, .string ByteArray.empty] 23)
  have KC := K.alloc (.cells #[.int .i64 0, .string ByteArray.empty, .string ByteArray.empty, .string ByteArray.empty, .string ByteArray.empty] 23)
  clear K
  go_enter Tryd.func119, Tryd.ntmps119
  go_wp2_with fail
  refine (l3Whats_lo _).mono ?_
  rintro e w1 ⟨g5, gs, rfl, hcell, ⟨hg5, hg6⟩, hb⟩
  rw [World.size_alloc] at hg5
  replace KC := KC.on hb
  replace Z := Z.on hb
  replace HC := HC.trans (Ch.of_below hb)
  have HCC := Lib.hid hcell
  clear hb hcell
  go_wp2_with fail
  refine (pick_any KC (by omega) (by omega) (by omega)).mono ?_
  rintro e w2 ⟨x, rfl, hx0, hx1, K2, hc2⟩
  replace hx1 : x < 5 := by omega
  have hx1' : x.toNat < 5 := by omega
  obtain ⟨hcell, L, hgl⟩ := HCC.out x.toNat hx1'
  rw [World.size_alloc] at hgl
  replace hcell := (cell_ch hc2 ⟨g5, x.toNat, none⟩ hg6 (by show ¬ g5 = g; omega)).trans hcell
  replace L := L.ch hc2 (by omega)
  replace Z := Z.ch hc2 (by omega)
  replace HC := HC.trans hc2
  replace KC := K2
  replace hg6 : g5 < w2.heap.size := Nat.lt_of_lt_of_le hg6 hc2.size
  have hgs : gs x.toNat ≠ g := by omega
  have hg5' : ¬ g5 = g := by omega
  have hwl := WL_len hx1'
  have hwp := wl_pos hx1'
  have hws := WL_small hx1'
  generalize gs x.toNat = gf at *
  generalize hLL : WL x.toNat = LL at hcell L hwl hwp hws
  generalize hnn : LL.length = nn at hcell hwl hwp
  have HNN := Lib.hid hnn
  have HWS := Lib.hid hws
  clear hLL hnn hws HCC K2 hc2
  go_wp2_with fail
  go_upto_region 3 with (fail)
  go_cut [5] (fun p wx => ∃ X, p = .pointer (some ⟨X, 0, none⟩) ∧ FtSt w b g w.heap.size X (k + 10) wx)
  case first =>
    refine wp_region_held_drew (S := fun w' => Ch (fun j => j = g) w2 w') (by kernel_rfl) ?_ (fun hHeld => ?_)
    · (try dsimp only)
      exact (ch_refl w2).drew
    replace KC := KC.drew; replace Z := Z.drew; replace HC := HC.drew; replace L := L.drew; have hwz : w2.heap.size ≤ w2.drew.heap.size := Nat.le_refl _; generalize w2.drew = wx at *
    refine rgTake (i := 0) (d := 9) (v := ?_) rfl rfl (by kernel_rfl) (by kernel_rfl) (by kernel_rfl) (fun _ _ _ h => h) (by rfl) ?_ (by assumption) ?_
    rotate_left
    · ((intro w hSw); (try dsimp only at hSw); go_simp; (try with_reducible rfl))
    try simp only [Act.put, List.setIfInBounds_toArray, List.set_cons_zero, List.set_cons_succ]
    refine rgTake (i := 3) (d := 12) (v := ?_) rfl rfl (by kernel_rfl) (by kernel_rfl) (by kernel_rfl) (fun _ _ _ h => h) (by rfl) ?_ (by assumption) ?_
    rotate_left
    · ((intro w hSw); (try dsimp only at hSw); go_simp; (try with_reducible rfl))
    try simp only [Act.put, List.setIfInBounds_toArray, List.set_cons_zero, List.set_cons_succ]
    refine rgTake (i := 4) (d := 13) (v := ?_) rfl rfl (by kernel_rfl) (by kernel_rfl) (by kernel_rfl) (fun _ _ _ h => h) (by rfl) ?_ (by assumption) ?_
    rotate_left
    · ((intro w hSw); (try dsimp only at hSw); go_simp; (try with_reducible rfl))
    try simp only [Act.put, List.setIfInBounds_toArray, List.set_cons_zero, List.set_cons_succ]
    refine rgTake (i := 5) (d := 14) (v := ?_) rfl rfl (by kernel_rfl) (by kernel_rfl) (by kernel_rfl) (fun _ _ _ h => h) (by rfl) ?_ (by assumption) ?_
    rotate_left
    · ((intro w hSw); (try dsimp only at hSw); go_simp; (try with_reducible rfl))
    try simp only [Act.put, List.setIfInBounds_toArray, List.set_cons_zero, List.set_cons_succ]
    refine rgTake (i := 6) (d := 15) (v := ?_) rfl rfl (by kernel_rfl) (by kernel_rfl) (by kernel_rfl) (fun _ _ _ h => h) (by rfl) ?_ (by assumption) ?_
    rotate_left
    · ((intro w hSw); (try dsimp only at hSw); go_simp; (try with_reducible rfl))
    try simp only [Act.put, List.setIfInBounds_toArray, List.set_cons_zero, List.set_cons_succ]
    refine rgTake (i := 7) (d := 16) (v := ?_) rfl rfl (by kernel_rfl) (by kernel_rfl) (by kernel_rfl) (fun _ _ _ h => h) (by rfl) ?_ (by assumption) ?_
    rotate_left
    · ((intro w hSw); (try dsimp only at hSw); (have z := (cell_ch hSw ⟨g5, x.toNat, none⟩ hg6 hg5').trans hcell); go_simp; (try with_reducible rfl))
    try simp only [Act.put, List.setIfInBounds_toArray, List.set_cons_zero, List.set_cons_succ]
    refine wpAnyH_ready (rs := [1, 10]) (by kernel_rfl) (by simp) ?_
    refine AllReadyH.cons rfl (fun K hK => ?_) ?_
    ·
      go_simp
      refine (pick_any KC (by omega) (by omega) (by omega)).mono ?_; rintro e wx ⟨r, rfl, hr0, hr1, K9, hc9⟩; replace Z := Z.ch hc9 (by omega); replace L := L.ch hc9 hgs; replace HC := HC.trans hc9; replace KC := K9; try (replace X := X.ch hc9 (by omega))
      go_wp2_with fail
      refine hK.out _ _ ?_ (fun hHeld => ?_)
      · (try dsimp only)
        exact hHeld.trans hc9
      clear hK K
      try simp only [Act.put, List.setIfInBounds_toArray, List.set_cons_zero, List.set_cons_succ]
      refine rgTake (i := 2) (d := 11) (v := ?_) rfl rfl (by kernel_rfl) (by kernel_rfl) (by kernel_rfl) (fun _ _ _ h => h) (by rfl) ?_ (by assumption) ?_
      rotate_left
      · ((intro w hSw); (try dsimp only at hSw); go_simp; (try with_reducible rfl))
      try simp only [Act.put, List.setIfInBounds_toArray, List.set_cons_zero, List.set_cons_succ]
      refine wpAnyH_ready (rs := [8, 10]) (by kernel_rfl) (by simp) ?_
      refine AllReadyH.cons rfl (fun K hK => ?_) ?_
      ·
        go_simp
        refine (of_any (xs := LL.map mk) (n := nn) KC (by omega) L hgs (by rw [List.length_map, HNN.out]) (by omega) (by omega)).mono ?_; rintro e wx ⟨s, hs, rfl, K9, hc9⟩; replace Z := Z.ch hc9 (by omega); replace L := L.ch hc9 hgs; replace HC := HC.trans hc9; replace KC := K9; try (replace X := X.ch hc9 (by omega))
        go_wp2_with fail
        refine hK.out _ _ ?_ (fun hHeld => ?_)
        · (try dsimp only)
          exact hHeld.trans hc9
        clear hK K
        try simp only [Act.put, List.setIfInBounds_toArray, List.set_cons_zero, List.set_cons_succ]
        refine rgTake (i := 9) (d := 18) (v := ?_) rfl rfl (by kernel_rfl) (by kernel_rfl) (by kernel_rfl) (fun _ _ _ h => h) (by rfl) ?_ (by assumption) ?_
        rotate_left
        · ((intro w hSw); (try dsimp only at hSw); go_simp; (try with_reducible rfl))
        try simp only [Act.put, List.setIfInBounds_toArray, List.set_cons_zero, List.set_cons_succ]
        refine wpAnyH_ready (rs := [10]) (by kernel_rfl) (by simp) ?_
        refine AllReadyH.cons rfl (fun K hK => ?_) AllReadyH.nil
        (have hX : w.heap.size < wx.heap.size := Z.lt); (have hX2 := hHeld.size); (have X := Blk.new wx 23 [.int .i64 0, .string ByteArray.empty, .string ByteArray.empty, .string ByteArray.empty, .string ByteArray.empty]); (have KC0 := KC); (have Z0 := Z); (have HC0 := HC); (replace KC := KC.alloc (.cells #[.int .i64 0, .string ByteArray.empty, .string ByteArray.empty, .string ByteArray.empty, .string ByteArray.empty] 23)); (replace Z := Z.alloc (.cells #[.int .i64 0, .string ByteArray.empty, .string ByteArray.empty, .string ByteArray.empty, .string ByteArray.empty] 23)); (replace L := L.alloc (.cells #[.int .i64 0, .string ByteArray.empty, .string ByteArray.empty, .string ByteArray.empty, .string ByteArray.empty] 23)); (replace HC := ch_allocF HC (.cells #[.int .i64 0, .string ByteArray.empty, .string ByteArray.empty, .string ByteArray.empty, .string ByteArray.empty] 23)); go_simp
        refine hK.out _ _ ?_ (fun hHeld => ?_)
        · (try dsimp only)
          exact ch_allocF hHeld _
        clear hK K
        try simp only [Act.put, List.setIfInBounds_toArray, List.set_cons_zero, List.set_cons_succ]
        refine wpAnyH_ready (rs := [11]) (by kernel_rfl) (by simp) ?_
        refine AllReadyH.cons rfl (fun K hK => ?_) AllReadyH.nil
        (have x0 := X.frozen 0); (have x1 := X.frozen 1); (have x2 := X.frozen 2); (have x3 := X.frozen 3); (have x4 := X.frozen 4); (obtain ⟨y0, y1, y2, y3, y4⟩ := blk5 X); go_simp
        refine hK.out _ _ ?_ (fun hHeld => ?_)
        · (try dsimp only)
          first | exact (fun h9 : Ch (fun j => j = g) w2 wx => ch_allocF h9 _) (by assumption) | exact ch_newF hHeld (((((ch_set_ _).trans (ch_set_ _)).trans (ch_set_ _)).trans (ch_set_ _)).trans (ch_set_ _)) (fun j h => by subst h; left; omega)
        clear hK K
        try simp only [Act.put, List.setIfInBounds_toArray, List.set_cons_zero, List.set_cons_succ]
        refine wpAnyH_done (by kernel_rfl) ?_ _
        go_wp2_with fail
        go_meet
        have hwr : IntKind.i64.wrap (31 + r) = 31 + r := IntWalk.i64_in _ (by omega)
        have hsz := mkL_sz HWS.out s hs
        have hsm : Sml ⟨IntKind.i64.wrap (31 + r), ⟨#[]⟩, s, ⟨#[]⟩, ⟨#[]⟩⟩ := by (unfold Sml; dsimp only; rw [hwr]; exact ⟨by omega, by decide, by omega, by decide, by decide⟩)
        first | exact (fun h9 : Cur wx b g _ => ⟨_, rfl, (FtSt.new hl (Nat.le_refl _) h9 Z0 HC0 _ hsm).more (by omega)⟩) KC0 | exact ⟨_, rfl, (FtSt.lay hl (Nat.le_refl _) (by omega) (by omega) KC Z HC X _ hsm).more (by omega)⟩
      refine AllReadyH.cons rfl (fun K hK => ?_) ?_
      ·
        (have hX : w.heap.size < wx.heap.size := Z.lt); (have hX2 := hHeld.size); (have X := Blk.new wx 23 [.int .i64 0, .string ByteArray.empty, .string ByteArray.empty, .string ByteArray.empty, .string ByteArray.empty]); (have KC0 := KC); (have Z0 := Z); (have HC0 := HC); (replace KC := KC.alloc (.cells #[.int .i64 0, .string ByteArray.empty, .string ByteArray.empty, .string ByteArray.empty, .string ByteArray.empty] 23)); (replace Z := Z.alloc (.cells #[.int .i64 0, .string ByteArray.empty, .string ByteArray.empty, .string ByteArray.empty, .string ByteArray.empty] 23)); (replace L := L.alloc (.cells #[.int .i64 0, .string ByteArray.empty, .string ByteArray.empty, .string ByteArray.empty, .string ByteArray.empty] 23)); (replace HC := ch_allocF HC (.cells #[.int .i64 0, .string ByteArray.empty, .string ByteArray.empty, .string ByteArray.empty, .string ByteArray.empty] 23)); go_simp
        refine hK.out _ _ ?_ (fun hHeld => ?_)
        · (try dsimp only)
          exact ch_allocF hHeld _
        clear hK K
        try simp only [Act.put, List.setIfInBounds_toArray, List.set_cons_zero, List.set_cons_succ]
        refine wpAnyH_ready (rs := [8]) (by kernel_rfl) (by simp) ?_
        refine AllReadyH.cons rfl (fun K hK => ?_) AllReadyH.nil
        go_simp
        refine (of_any (xs := LL.map mk) (n := nn) KC (by omega) L hgs (by rw [List.length_map, HNN.out]) (by omega) (by omega)).mono ?_; rintro e wx ⟨s, hs, rfl, K9, hc9⟩; replace Z := Z.ch hc9 (by omega); replace L := L.ch hc9 hgs; replace HC := HC.trans hc9; replace KC := K9; try (replace X := X.ch hc9 (by omega))
        go_wp2_with fail
        refine hK.out _ _ ?_ (fun hHeld => ?_)
        · (try dsimp only)
          exact hHeld.trans hc9
        clear hK K
        try simp only [Act.put, List.setIfInBounds_toArray, List.set_cons_zero, List.set_cons_succ]
        refine rgTake (i := 9) (d := 18) (v := ?_) rfl rfl (by kernel_rfl) (by kernel_rfl) (by kernel_rfl) (fun _ _ _ h => h) (by rfl) ?_ (by assumption) ?_
        rotate_left
        · ((intro w hSw); (try dsimp only at hSw); go_simp; (try with_reducible rfl))
        try simp only [Act.put, List.setIfInBounds_toArray, List.set_cons_zero, List.set_cons_succ]
        refine wpAnyH_ready (rs := [11]) (by kernel_rfl) (by simp) ?_
        refine AllReadyH.cons rfl (fun K hK => ?_) AllReadyH.nil
        (have x0 := X.frozen 0); (have x1 := X.frozen 1); (have x2 := X.frozen 2); (have x3 := X.frozen 3); (have x4 := X.frozen 4); (obtain ⟨y0, y1, y2, y3, y4⟩ := blk5 X); go_simp
        refine hK.out _ _ ?_ (fun hHeld => ?_)
        · (try dsimp only)
          first | exact (fun h9 : Ch (fun j => j = g) w2 wx => ch_allocF h9 _) (by assumption) | exact ch_newF hHeld (((((ch_set_ _).trans (ch_set_ _)).trans (ch_set_ _)).trans (ch_set_ _)).trans (ch_set_ _)) (fun j h => by subst h; left; omega)
        clear hK K
        try simp only [Act.put, List.setIfInBounds_toArray, List.set_cons_zero, List.set_cons_succ]
        refine wpAnyH_done (by kernel_rfl) ?_ _
        go_wp2_with fail
        go_meet
        have hwr : IntKind.i64.wrap (31 + r) = 31 + r := IntWalk.i64_in _ (by omega)
        have hsz := mkL_sz HWS.out s hs
        have hsm : Sml ⟨IntKind.i64.wrap (31 + r), ⟨#[]⟩, s, ⟨#[]⟩, ⟨#[]⟩⟩ := by (unfold Sml; dsimp only; rw [hwr]; exact ⟨by omega, by decide, by omega, by decide, by decide⟩)
        first | exact (fun h9 : Cur wx b g _ => ⟨_, rfl, (FtSt.new hl (Nat.le_refl _) h9 Z0 HC0 _ hsm).more (by omega)⟩) KC0 | exact ⟨_, rfl, (FtSt.lay hl (Nat.le_refl _) (by omega) (by omega) KC Z HC X _ hsm).more (by omega)⟩
      exact AllReadyH.nil
    refine AllReadyH.cons rfl (fun K hK => ?_) ?_
    ·
      (have hX : w.heap.size < wx.heap.size := Z.lt); (have hX2 := hHeld.size); (have X := Blk.new wx 23 [.int .i64 0, .string ByteArray.empty, .string ByteArray.empty, .string ByteArray.empty, .string ByteArray.empty]); (have KC0 := KC); (have Z0 := Z); (have HC0 := HC); (replace KC := KC.alloc (.cells #[.int .i64 0, .string ByteArray.empty, .string ByteArray.empty, .string ByteArray.empty, .string ByteArray.empty] 23)); (replace Z := Z.alloc (.cells #[.int .i64 0, .string ByteArray.empty, .string ByteArray.empty, .string ByteArray.empty, .string ByteArray.empty] 23)); (replace L := L.alloc (.cells #[.int .i64 0, .string ByteArray.empty, .string ByteArray.empty, .string ByteArray.empty, .string ByteArray.empty] 23)); (replace HC := ch_allocF HC (.cells #[.int .i64 0, .string ByteArray.empty, .string ByteArray.empty, .string ByteArray.empty, .string ByteArray.empty] 23)); go_simp
      refine hK.out _ _ ?_ (fun hHeld => ?_)
      · (try dsimp only)
        exact ch_allocF hHeld _
      clear hK K
      try simp only [Act.put, List.setIfInBounds_toArray, List.set_cons_zero, List.set_cons_succ]
      refine wpAnyH_ready (rs := [1]) (by kernel_rfl) (by simp) ?_
      refine AllReadyH.cons rfl (fun K hK => ?_) AllReadyH.nil
      go_simp
      refine (pick_any KC (by omega) (by omega) (by omega)).mono ?_; rintro e wx ⟨r, rfl, hr0, hr1, K9, hc9⟩; replace Z := Z.ch hc9 (by omega); replace L := L.ch hc9 hgs; replace HC := HC.trans hc9; replace KC := K9; try (replace X := X.ch hc9 (by omega))
      go_wp2_with fail
      refine hK.out _ _ ?_ (fun hHeld => ?_)
      · (try dsimp only)
        exact hHeld.trans hc9
      clear hK K
      try simp only [Act.put, List.setIfInBounds_toArray, List.set_cons_zero, List.set_cons_succ]
      refine rgTake (i := 2) (d := 11) (v := ?_) rfl rfl (by kernel_rfl) (by kernel_rfl) (by kernel_rfl) (fun _ _ _ h => h) (by rfl) ?_ (by assumption) ?_
      rotate_left
      · ((intro w hSw); (try dsimp only at hSw); go_simp; (try with_reducible rfl))
      try simp only [Act.put, List.setIfInBounds_toArray, List.set_cons_zero, List.set_cons_succ]
      refine wpAnyH_ready (rs := [8]) (by kernel_rfl) (by simp) ?_
      refine AllReadyH.cons rfl (fun K hK => ?_) AllReadyH.nil
      go_simp
      refine (of_any (xs := LL.map mk) (n := nn) KC (by omega) L hgs (by rw [List.length_map, HNN.out]) (by omega) (by omega)).mono ?_; rintro e wx ⟨s, hs, rfl, K9, hc9⟩; replace Z := Z.ch hc9 (by omega); replace L := L.ch hc9 hgs; replace HC := HC.trans hc9; replace KC := K9; try (replace X := X.ch hc9 (by omega))
      go_wp2_with fail
      refine hK.out _ _ ?_ (fun hHeld => ?_)
      · (try dsimp only)
        exact hHeld.trans hc9
      clear hK K
      try simp only [Act.put, List.setIfInBounds_toArray, List.set_cons_zero, List.set_cons_succ]
      refine rgTake (i := 9) (d := 18) (v := ?_) rfl rfl (by kernel_rfl) (by kernel_rfl) (by kernel_rfl) (fun _ _ _ h => h) (by rfl) ?_ (by assumption) ?_
      rotate_left
      · ((intro w hSw); (try dsimp only at hSw); go_simp; (try with_reducible rfl))
      try simp only [Act.put, List.setIfInBounds_toArray, List.set_cons_zero, List.set_cons_succ]
      refine wpAnyH_ready (rs := [11]) (by kernel_rfl) (by simp) ?_
      refine AllReadyH.cons rfl (fun K hK => ?_) AllReadyH.nil
      (have x0 := X.frozen 0); (have x1 := X.frozen 1); (have x2 := X.frozen 2); (have x3 := X.frozen 3); (have x4 := X.frozen 4); (obtain ⟨y0, y1, y2, y3, y4⟩ := blk5 X); go_simp
      refine hK.out _ _ ?_ (fun hHeld => ?_)
      · (try dsimp only)
        first | exact (fun h9 : Ch (fun j => j = g) w2 wx => ch_allocF h9 _) (by assumption) | exact ch_newF hHeld (((((ch_set_ _).trans (ch_set_ _)).trans (ch_set_ _)).trans (ch_set_ _)).trans (ch_set_ _)) (fun j h => by subst h; left; omega)
      clear hK K
      try simp only [Act.put, List.setIfInBounds_toArray, List.set_cons_zero, List.set_cons_succ]
      refine wpAnyH_done (by kernel_rfl) ?_ _
      go_wp2_with fail
      go_meet
      have hwr : IntKind.i64.wrap (31 + r) = 31 + r := IntWalk.i64_in _ (by omega)
      have hsz := mkL_sz HWS.out s hs
      have hsm : Sml ⟨IntKind.i64.wrap (31 + r), ⟨#[]⟩, s, ⟨#[]⟩, ⟨#[]⟩⟩ := by (unfold Sml; dsimp only; rw [hwr]; exact ⟨by omega, by decide, by omega, by decide, by decide⟩)
      first | exact (fun h9 : Cur wx b g _ => ⟨_, rfl, (FtSt.new hl (Nat.le_refl _) h9 Z0 HC0 _ hsm).more (by omega)⟩) KC0 | exact ⟨_, rfl, (FtSt.lay hl (Nat.le_refl _) (by omega) (by omega) KC Z HC X _ hsm).more (by omega)⟩
    exact AllReadyH.nil
  case rest =>
  obtain ⟨gx, rfl, H9⟩ := hcut
  clear KC Z HC L hcell hgl hg5 hg6 hgs hg5' hwl hwp HNN HWS hx1'
  go_wp2_with fail
  refine (one_any H9.cur (by omega) (by omega) (by omega)).mono ?_
  rintro e wa ⟨q, rfl, K1, hc1⟩
  replace H9 := H9.step K1 hc1
  clear K1 hc1
  go_upto_if 20 with (fail)
  go_cut [] (fun wx => FtSt w b g w.heap.size gx (k + 14) wx)
  case first =>
    cases q
    · go_wp2_with fail
      go_meet
      exact H9.more (by omega)
    · go_wp2_with fail
      refine (l3Whiches_any _).mono ?_
      rintro e wb ⟨gl, rfl, BL, hb⟩
      replace H9 := H9.on hb
      clear hb
      go_wp2_with fail
      refine (of_any (xs := whichL.map mk) (n := 7) H9.cur (by omega) BL (H9.cur.ne BL) (by rfl) (by omega) (by omega)).mono ?_
      rintro e wd ⟨s, hs, rfl, K1, hc1⟩
      have SS := H9.step K1 hc1
      have hsz := mkL_sz (ws := whichL) (by decide) s hs
      clear K1 hc1 H9 BL hs
      obtain ⟨f, hf, B⟩ := SS.ft
      obtain ⟨b0, b1, b2, b3, b4⟩ := blk5 B
      have f0 := B.frozen 0
      have f1 := B.frozen 1
      have f2 := B.frozen 2
      have f3 := B.frozen 3
      have f4 := B.frozen 4
      have hss := Lib.hid SS
      clear B SS hf
      go_wp2_with fail
      go_meet
      exact (hss.out.puts (by simp) hsz).more (by omega)
  case rest =>
  have H9 := hcut
  clear hcut
  go_wp2_with fail
  refine (one_any H9.cur (by omega) (by omega) (by omega)).mono ?_
  rintro e wa ⟨q, rfl, K1, hc1⟩
  replace H9 := H9.step K1 hc1
  clear K1 hc1
  go_upto_if 26 with (fail)
  go_cut [] (fun wx => FtSt w b g w.heap.size gx (k + 18) wx)
  case first =>
    cases q
    · go_wp2_with fail
      go_meet
      exact H9.more (by omega)
    · go_wp2_with fail
      refine (l3Looks_any _).mono ?_
      rintro e wb ⟨gl, rfl, BL, hb⟩
      replace H9 := H9.on hb
      clear hb
      go_wp2_with fail
      refine (of_any (xs := lookL.map mk) (n := 4) H9.cur (by omega) BL (H9.cur.ne BL) (by rfl) (by omega) (by omega)).mono ?_
      rintro e wd ⟨s, hs, rfl, K1, hc1⟩
      have SS := H9.step K1 hc1
      have hsz := mkL_sz (ws := lookL) (by decide) s hs
      clear K1 hc1 H9 BL hs
      obtain ⟨f, hf, B⟩ := SS.ft
      obtain ⟨b0, b1, b2, b3, b4⟩ := blk5 B
      have f0 := B.frozen 0
      have f1 := B.frozen 1
      have f2 := B.frozen 2
      have f3 := B.frozen 3
      have f4 := B.frozen 4
      have hss := Lib.hid SS
      clear B SS hf
      go_wp2_with fail
      go_meet
      exact (hss.out.puts (by simp) hsz).more (by omega)
  case rest =>
  have H9 := hcut
  clear hcut
  go_wp2_with fail
  refine (one_any H9.cur (by omega) (by omega) (by omega)).mono ?_
  rintro e wa ⟨q, rfl, K1, hc1⟩
  replace H9 := H9.step K1 hc1
  clear K1 hc1
  go_upto_if 32 with (fail)
  go_cut [] (fun wx => FtSt w b g w.heap.size gx (k + 24) wx)
  case first =>
    cases q
    · go_wp2_with fail
      go_meet
      exact H9.more (by omega)
    · go_wp2_with fail
      refine (l3Sides_any _ _).mono ?_
      rintro e wb ⟨A, cp, rfl, own, hb⟩
      replace own := own_le own H9.ch.size
      replace H9 := H9.on hb
      have hsl := sid_len x
      have hsm := sidL_small x
      have L := sides_gt own hsl.1 hl
      generalize hns : (sidL x).length = ns at *
      generalize sidL x = SL at *
      have HNS := Lib.hid hns
      have HL := Lib.hid L
      clear hns own hb L
      go_wp2_with fail
      refine (of_rd (xs := SL.map mk) (n := ns) H9.cur (by omega) HL.out (by rw [List.length_map, HNS.out]) (by omega) (by omega)).mono ?_
      rintro e wd ⟨s, hs, rfl, K1, hc1⟩
      have SS := H9.step K1 hc1
      have hsz := mkL_sz hsm s hs
      clear K1 hc1 H9 HL hs
      obtain ⟨f, hf, B⟩ := SS.ft
      obtain ⟨b0, b1, b2, b3, b4⟩ := blk5 B
      have f0 := B.frozen 0
      have f1 := B.frozen 1
      have f2 := B.frozen 2
      have f3 := B.frozen 3
      have f4 := B.frozen 4
      have hss := Lib.hid (SS.puts (i := 4) (by simp) hsz)
      clear B SS hf
      cases hbt : (s.toList == [98, 101, 116, 119, 101, 101, 110])
      · go_wp2_with fail
        go_meet
        exact hss.out.more (by omega)
      · go_wp2_with fail
        refine (one_any hss.out.cur (by omega) (by omega) (by omega)).mono ?_
        rintro e we ⟨q, rfl, K1, hc1⟩
        have SS := hss.out.step K1 hc1
        clear hss K1 hc1 b0 b1 b2 b3 b4 f0 f1 f2 f3 f4
        obtain ⟨f, hf, B⟩ := SS.ft
        obtain ⟨b0, b1, b2, b3, b4⟩ := blk5 B
        have f0 := B.frozen 0
        have f1 := B.frozen 1
        have f2 := B.frozen 2
        have f3 := B.frozen 3
        have f4 := B.frozen 4
        have hss := Lib.hid SS
        clear B SS hf
        cases q
        · go_wp2_with fail
          go_meet
          exact (hss.out.puts (i := 1) (by simp) (s := ByteArray.empty) (by decide)).more (by omega)
        · go_wp2_with fail
          go_meet
          exact hss.out.more (by omega)
  case rest =>
  have H9 := hcut
  clear hcut
  go_at_K
  go_step
  go_step
  go_cut [] (fun wx => FtSt w b g w.heap.size gx (k + 30) wx)
  case first =>
    go_wp2_with fail
    refine (pick_any H9.cur (by omega) (by omega) (by omega)).mono ?_
    rintro e wa ⟨y, rfl, hy0, hy1, K1, hc1⟩
    replace H9 := H9.step K1 hc1
    clear K1 hc1
    rcases (show y = 0 ∨ y = 1 ∨ y = 2 ∨ y = 3 ∨ y = 4 ∨ 5 ≤ y by omega) with rfl | rfl | rfl | rfl | rfl | hy
    · go_wp2_with fail
      have hgw := H9.cur.lt.1
      refine (among_any (xs := g0L) (n := 2) (H9.alloc _).cur (by omega) (Blk.new wa _ _) (by omega) rfl (by omega) (by omega)).mono ?_
      rintro e wd ⟨s, hs, rfl, K1, hc1⟩
      have SS := (H9.alloc _).step K1 hc1
      have hsz := g0L_bd s hs
      clear K1 hc1 H9 hs
      obtain ⟨f, hf, B⟩ := SS.ft
      obtain ⟨b0, b1, b2, b3, b4⟩ := blk5 B
      have f0 := B.frozen 0
      have f1 := B.frozen 1
      have f2 := B.frozen 2
      have f3 := B.frozen 3
      have f4 := B.frozen 4
      have hss := Lib.hid SS
      clear B SS hf
      go_wp2_with fail
      go_meet
      exact (hss.out.putc hsz).more (by omega)
    · go_wp2_with fail
      have hgw := H9.cur.lt.1
      refine (of_any (xs := g1L.map mk) (n := 3) (H9.alloc _).cur (by omega) (Blk.new wa _ _) (by omega) rfl (by omega) (by omega)).mono ?_
      rintro e wd ⟨s, hs, rfl, K1, hc1⟩
      have SS := (H9.alloc _).step K1 hc1
      have hsz := mkL_sz (ws := g1L) (by decide) s hs
      clear K1 hc1 H9 hs
      obtain ⟨f, hf, B⟩ := SS.ft
      obtain ⟨b0, b1, b2, b3, b4⟩ := blk5 B
      have f0 := B.frozen 0
      have f1 := B.frozen 1
      have f2 := B.frozen 2
      have f3 := B.frozen 3
      have f4 := B.frozen 4
      have hss := Lib.hid SS
      clear B SS hf
      go_wp2_with fail
      go_meet
      exact (hss.out.puts (by simp) hsz).more (by omega)
    · go_wp2_with fail
      have hgw := H9.cur.lt.1
      refine (of_any (xs := g2L.map mk) (n := 3) (H9.alloc _).cur (by omega) (Blk.new wa _ _) (by omega) rfl (by omega) (by omega)).mono ?_
      rintro e wd ⟨s, hs, rfl, K1, hc1⟩
      have SS := (H9.alloc _).step K1 hc1
      have hsz := mkL_sz (ws := g2L) (by decide) s hs
      clear K1 hc1 H9 hs
      obtain ⟨f, hf, B⟩ := SS.ft
      obtain ⟨b0, b1, b2, b3, b4⟩ := blk5 B
      have f0 := B.frozen 0
      have f1 := B.frozen 1
      have f2 := B.frozen 2
      have f3 := B.frozen 3
      have f4 := B.frozen 4
      have hss := Lib.hid SS
      clear B SS hf
      go_wp2_with fail
      go_meet
      exact (hss.out.puts (by simp) hsz).more (by omega)
    · go_wp2_with fail
      have hgw := H9.cur.lt.1
      refine (of_any (xs := g3L.map mk) (n := 2) (H9.alloc _).cur (by omega) (Blk.new wa _ _) (by omega) rfl (by omega) (by omega)).mono ?_
      rintro e wd ⟨s, hs, rfl, K1, hc1⟩
      have SS := (H9.alloc _).step K1 hc1
      have hsz := mkL_sz (ws := g3L) (by decide) s hs
      clear K1 hc1 H9 hs
      obtain ⟨f, hf, B⟩ := SS.ft
      obtain ⟨b0, b1, b2, b3, b4⟩ := blk5 B
      have f0 := B.frozen 0
      have f1 := B.frozen 1
      have f2 := B.frozen 2
      have f3 := B.frozen 3
      have f4 := B.frozen 4
      have hss := Lib.hid SS
      clear B SS hf
      go_wp2_with fail
      go_meet
      exact (hss.out.puts (by simp) hsz).more (by omega)
    · go_wp2_with fail
      have hgw := H9.cur.lt.1
      refine (of_any (xs := g4L.map mk) (n := 4) (H9.alloc _).cur (by omega) (Blk.new wa _ _) (by omega) rfl (by omega) (by omega)).mono ?_
      rintro e wd ⟨s, hs, rfl, K1, hc1⟩
      have SS := (H9.alloc _).step K1 hc1
      have hsz := mkL_sz (ws := g4L) (by decide) s hs
      clear K1 hc1 H9 hs
      obtain ⟨f, hf, B⟩ := SS.ft
      obtain ⟨b0, b1, b2, b3, b4⟩ := blk5 B
      have f0 := B.frozen 0
      have f1 := B.frozen 1
      have f2 := B.frozen 2
      have f3 := B.frozen 3
      have f4 := B.frozen 4
      have hss := Lib.hid SS
      clear B SS hf
      go_wp2_with fail
      go_meet
      exact (hss.out.puts (by simp) hsz).more (by omega)
    · have e0 : (y == 0) = false := by simp; omega
      have e1 : (y == 1) = false := by simp; omega
      have e2 : (y == 2) = false := by simp; omega
      have e3 : (y == 3) = false := by simp; omega
      have e4 : (y == 4) = false := by simp; omega
      go_wp2_with fail
      go_meet
      exact H9.more (by omega)
  case rest =>
  have H9 := hcut
  clear hcut
  obtain ⟨f, hf, B⟩ := H9.ft
  obtain ⟨b0, b1, b2, b3, b4⟩ := blk5 B
  obtain ⟨y0, y1, y2, y3, y4⟩ := blk5 H9.res
  have z0 := H9.res.frozen 0
  have z1 := H9.res.frozen 1
  have z2 := H9.res.frozen 2
  have z3 := H9.res.frozen 3
  have z4 := H9.res.frozen 4
  have hss := Lib.hid H9
  have HF := Lib.hid hf
  clear H9 B hf
  go_wp2_with fail
  have Z2 := hss.out.res.put5 f
  have hc := ch_put5 w.heap.size wc f
  have KE := hss.out.cur.ch hc (fun j h => by subst h; omega)
  have HE := ch_newF hss.out.ch hc (fun j h => by subst h; left; omega)
  obtain ⟨q0, q1, q2, q3, q4⟩ := blk5 (show Blk _ _ _ [.int .i64 f.code, .string f.which, .string f.what, .string f.look, .string f.side] from Z2)
  refine bodyPost_ret (v := .agg #[.int .i64 f.code, .string f.which, .string f.what, .string f.look, .string f.side]) (by simp [results, Tryd.results119, go_sem, q0, q1, q2, q3, q4]) rfl ⟨f, HF.out, rfl, KE.more (by omega), HE⟩
end Go.Proofs.YtmmpcchjalgokaaDoor
