/- The reference's draws of maps. -/
import Derived.Test.YtmmpcchjalgokaaDoorSpo
import Derived.Test.YtmmpcchjalgokaaDoorCux
import Derived.Test.YtmmpcchjalgokaaDoorPms
import Derived.Test.YtmmpcchjalgokaaDoorMtx
import Derived.Deep.DeepCutAuto
namespace Go.Proofs.YtmmpcchjalgokaaDoor
set_option linter.unusedVariables false
set_option linter.unusedSimpArgs false
open Go.RowKit
/-- What holds while a map is drawn: its box lies at X with the cells bx, its rows are its own; the result's box at Z. -/
structure MSt (w0 : World) (b g Z X : Nat) (k : Int) (A B : Option Addr) (n c d p : Nat) (ri co : List Int) (bx : List Value) (w : World) : Prop where
  hg : g < w0.heap.size
  hz : Z = w0.heap.size
  hx : Z < X
  two : Two w (w0.heap.size + 1) X A B n c d ri co p
  box : Blk w X 47 bx
  res : Blk w Z 47 [.int .i64 0, .int .i64 0, .slice none 0 0, .slice none 0 0]
  cur : Cur w b g k
  ch : Ch (fun j => j = g) w0 w
theorem ch_newM {S T : Nat → Prop} {w w' w'' : World} (h : Ch S w w') (c : Ch T w' w'') (hT : ∀ j, T j → w.heap.size ≤ j ∨ S j) : Ch S w w'' :=
  ⟨c.os.trans h.os, c.tape.trans h.tape, c.output.trans h.output, Nat.le_trans h.size c.size, fun i hi hs => (c.block i (Nat.lt_of_lt_of_le hi h.size) (fun h9 => by rcases hT i h9 with h8 | h8; omega; exact hs h8)).trans (h.block i hi hs)⟩
section
variable {w0 w w' : World} {b g Z X : Nat} {k k' : Int} {A B : Option Addr} {n c d p : Nat} {ri co : List Int} {bx : List Value}
theorem MSt.lts (h : MSt w0 b g Z X k A B n c d p ri co bx w) : X < w.heap.size ∧ Z < w.heap.size ∧ g < Z := by
  have := h.box.lt
  have := h.hx
  have := h.hg
  have := h.hz
  omega
theorem MSt.step (h : MSt w0 b g Z X k A B n c d p ri co bx w) (K : Cur w' b g k') (hc : Ch (fun j => j = g) w w') : MSt w0 b g Z X k' A B n c d p ri co bx w' := by
  have hl := h.lts
  have hxz := h.hx
  have hzz := h.hz
  exact ⟨h.hg, h.hz, h.hx, h.two.ch hc (fun q hq e => by have := (h.two.oa.lt q hq).1; omega) (fun q hq e => by have := (h.two.ob.lt q hq).1; omega), h.box.ch hc (by omega), h.res.ch hc (by omega), K, h.ch.trans hc⟩
theorem MSt.more (h : MSt w0 b g Z X k A B n c d p ri co bx w) (hk : k ≤ k') : MSt w0 b g Z X k' A B n c d p ri co bx w :=
  ⟨h.hg, h.hz, h.hx, h.two, h.box, h.res, h.cur.more hk, h.ch⟩
theorem MSt.on (h : MSt w0 b g Z X k A B n c d p ri co bx w) (hb : Below w.heap.size w w') : MSt w0 b g Z X k A B n c d p ri co bx w' :=
  h.step (h.cur.on hb) (Ch.of_below hb)
theorem MSt.alloc (h : MSt w0 b g Z X k A B n c d p ri co bx w) (o : Obj) : MSt w0 b g Z X k A B n c d p ri co bx (w.alloc o) :=
  h.on (Below.alloc (Below.refl _ _) (Nat.le_refl _) o)
theorem MSt.drew (h : MSt w0 b g Z X k A B n c d p ri co bx w) : MSt w0 b g Z X k A B n c d p ri co bx w.drew := h.on (Below.drew (Below.refl _ _))
theorem MSt.put (h : MSt w0 b g Z X k A B n c d p ri co bx w) (i : Nat) (u : Value) : MSt w0 b g Z X k A B n c d p ri co (bx.set i u) (w.setCell ⟨X, i, none⟩ u) := by
  have hl := h.lts
  have hxz := h.hx
  have hzz := h.hz
  exact ⟨h.hg, h.hz, h.hx, h.two.box, h.box.set_ i u, h.res.far (p := ⟨X, i, none⟩) (by show Z ≠ X; omega) u, h.cur.ch (ch_set_ (g := X) (i := i) (u := u) w) (fun j e => by omega), ch_newM h.ch (ch_set_ (g := X) (i := i) (u := u) w) (fun j e => by left; omega)⟩
theorem MSt.pushA {A' : Option Addr} {cap : Nat} {x : Int} {w1 : World} (h : MSt w0 b g Z X k A B n c d p ri co bx w)
    (hown : w1.ownsRow (w0.heap.size + 1) 3 1 (.slice A' (n + 1) cap) (n + 1) (ints (ri ++ [x]))) (hgrow : w.grownBy w1 (Value.ownBlock (.slice A n c))) (hat : ∀ q : Nat, Value.ownBlock (.slice A' (n + 1) cap) = some q → Value.ownBlock (.slice A n c) = some q ∨ w.heap.size ≤ q) :
    MSt w0 b g Z X k A' B (n + 1) cap d p (ri ++ [x]) co bx w1 := by
  have hl := h.lts
  have hxz := h.hx
  have hzz := h.hz
  have hc : Ch (fun q => Value.ownBlock (.slice A n c) = some q) w w1 := Ch.of_grown hgrow (fun _ h => h)
  have hlt := h.two.oa.lt
  exact ⟨h.hg, h.hz, h.hx, h.two.pushR hl.1 hown hgrow hat, h.box.ch hc h.two.ax, h.res.ch hc (fun e => by have := (hlt Z e).1; omega), h.cur.ch hc (fun j e => by have := (hlt j e).1; omega), ch_newM h.ch hc (fun j e => by left; have := (hlt j e).1; omega)⟩
theorem MSt.swap_two (h : MSt w0 b g Z X k A B n c d p ri co bx w) : Two w (w0.heap.size + 1) X B A p d c co ri n := h.two.swap
theorem MSt.pushB {B' : Option Addr} {cap : Nat} {x : Int} {w1 : World} (h : MSt w0 b g Z X k A B n c d p ri co bx w)
    (hown : w1.ownsRow (w0.heap.size + 1) 3 1 (.slice B' (p + 1) cap) (p + 1) (ints (co ++ [x]))) (hgrow : w.grownBy w1 (Value.ownBlock (.slice B p d))) (hat : ∀ q : Nat, Value.ownBlock (.slice B' (p + 1) cap) = some q → Value.ownBlock (.slice B p d) = some q ∨ w.heap.size ≤ q) :
    MSt w0 b g Z X k A B' n c cap (p + 1) ri (co ++ [x]) bx w1 := by
  have hl := h.lts
  have hxz := h.hx
  have hzz := h.hz
  have hc : Ch (fun q => Value.ownBlock (.slice B p d) = some q) w w1 := Ch.of_grown hgrow (fun _ h => h)
  have hlt := h.two.ob.lt
  exact ⟨h.hg, h.hz, h.hx, (h.two.swap.pushR hl.1 hown hgrow hat).swap, h.box.ch hc h.two.bx, h.res.ch hc (fun e => by have := (hlt Z e).1; omega), h.cur.ch hc (fun j e => by have := (hlt j e).1; omega), ch_newM h.ch hc (fun j e => by left; have := (hlt j e).1; omega)⟩
theorem MSt.cellA {q : Nat} {x : Int} (h : MSt w0 b g Z X k (some ⟨q, 0, none⟩) B n c d p ri co bx w) (hn : 0 < n) : MSt w0 b g Z X k (some ⟨q, 0, none⟩) B n c d p (ri.set 0 x) co bx (w.setCell ⟨q, 0, none⟩ (.int .i64 x)) ∧ w.frozen? ⟨q, 0, none⟩ = false := by
  have hl := h.lts
  have hxz := h.hx
  have hzz := h.hz
  have hq := h.two.oa.lt q rfl
  have hst := (h.two.oa.stored 0 (.int .i64 x)).1
  have e : (ints ri).set 0 (.int .i64 x) = ints (ri.set 0 x) := by unfold ints; rw [List.map_set]
  rw [e] at hst
  have hc := ch_set_ (g := q) (i := 0) (u := .int .i64 x) w
  refine ⟨⟨h.hg, h.hz, h.hx, ⟨hst, own_ch h.two.ob hc (fun j hj e => h.two.ab q rfl (by rw [hj, e])), h.two.ab, h.two.ax, h.two.bx⟩, h.box.ch hc (fun e => h.two.ax (by rw [e]; rfl)), h.res.ch hc (by omega), h.cur.ch hc (fun j e => by omega), ch_newM h.ch hc (fun j e => by left; omega)⟩, ?_⟩
  exact h.two.oa.frozenAt 0
theorem MSt.cellB {q : Nat} {x : Int} (h : MSt w0 b g Z X k A (some ⟨q, 0, none⟩) n c d p ri co bx w) (hn : 0 < p) : MSt w0 b g Z X k A (some ⟨q, 0, none⟩) n c d p ri (co.set 0 x) bx (w.setCell ⟨q, 0, none⟩ (.int .i64 x)) ∧ w.frozen? ⟨q, 0, none⟩ = false := by
  have hl := h.lts
  have hxz := h.hx
  have hzz := h.hz
  have hq := h.two.ob.lt q rfl
  have hst := (h.two.ob.stored 0 (.int .i64 x)).1
  have e : (ints co).set 0 (.int .i64 x) = ints (co.set 0 x) := by unfold ints; rw [List.map_set]
  rw [e] at hst
  have hc := ch_set_ (g := q) (i := 0) (u := .int .i64 x) w
  refine ⟨⟨h.hg, h.hz, h.hx, ⟨own_ch h.two.oa hc (fun j hj e => h.two.ab j hj (by rw [e]; rfl)), hst, h.two.ab, h.two.ax, h.two.bx⟩, h.box.ch hc (fun e => h.two.bx (by rw [e]; rfl)), h.res.ch hc (by omega), h.cur.ch hc (fun j e => by omega), ch_newM h.ch hc (fun j e => by left; omega)⟩, ?_⟩
  exact h.two.ob.frozenAt 0
end
theorem start3M (w : World) (cs : List Value) (o3 : Obj) : Two (((w.alloc (.cells #[] 3)).alloc (.cells #[] 3)).alloc o3) w.heap.size (w.heap.size + 2) (some ⟨w.heap.size, 0, none⟩) (some ⟨w.heap.size + 1, 0, none⟩) 0 0 0 [] [] 0 := start3P w o3
def coL : List Int := [1, 1, 1, 2, 3, 0, 1, 2]
def riL : List Int := [0, 0, 1, 2, 2, 5]
theorem coL_bd : ∀ x ∈ coL, 0 ≤ x ∧ x ≤ 9 := by decide
theorem riL_bd : ∀ x ∈ riL, 0 ≤ x ∧ x ≤ 9 := by decide
def spL : List Int := [-1, 10, 9]
theorem spL_bd : ∀ x ∈ spL, -1 ≤ x ∧ x ≤ 10 := by decide
/-- A map whose rows are of the call's own. -/
def MpAt (w : World) (base : Nat) (m : Mp) (A B : Option Addr) (c d : Nat) : Prop := m.ri.length ≤ 100 ∧ m.co.length ≤ 100 ∧ w.ownsRow base 3 1 (.slice A m.ri.length c) m.ri.length (ints m.ri) ∧ w.ownsRow base 3 1 (.slice B m.co.length d) m.co.length (ints m.co)
theorem MpAt.ch {S : Nat → Prop} {w w' : World} {base : Nat} {m : Mp} {A B : Option Addr} {c d : Nat} (h : MpAt w base m A B c d) (hc : Ch S w w') (hS : ∀ j, S j → j < base) : MpAt w' base m A B c d :=
  ⟨h.1, h.2.1, own_ch h.2.2.1 hc (fun k hk e => by have := (h.2.2.1.lt k hk).1; have := hS k e; omega), own_ch h.2.2.2 hc (fun k hk e => by have := (h.2.2.2.lt k hk).1; have := hS k e; omega)⟩
theorem MpAt.le {w : World} {base base' : Nat} {m : Mp} {A B : Option Addr} {c d : Nat} (h : MpAt w base m A B c d) (hb : base' ≤ base) : MpAt w base' m A B c d := ⟨h.1, h.2.1, own_le h.2.2.1 hb, own_le h.2.2.2 hb⟩
theorem MpAt.on {w w' : World} {base : Nat} {m : Mp} {A B : Option Addr} {c d : Nat} (h : MpAt w base m A B c d) (hb : Below w.heap.size w w') : MpAt w' base m A B c d := ⟨h.1, h.2.1, own_below h.2.2.1 hb, own_below h.2.2.2 hb⟩
theorem MpAt.alloc {w : World} {base : Nat} {m : Mp} {A B : Option Addr} {c d : Nat} (h : MpAt w base m A B c d) (o : Obj) : MpAt (w.alloc o) base m A B c d := h.on (Below.alloc (Below.refl _ _) (Nat.le_refl _) o)
theorem MpAt.inn {w : World} {base : Nat} {m : Mp} {A B : Option Addr} {c d : Nat} (h : MpAt w base m A B c d) : MapIn w m (.agg #[.int .i64 m.wd, .int .i64 m.ht, .slice A m.ri.length c, .slice B m.co.length d]) :=
  MapIn.mk' (Rd.of_own h.2.2.1) (Rd.of_own h.2.2.2) (by have := h.1; simp only [maxLen]; omega) (by have := h.2.1; simp only [maxLen]; omega)
theorem ints_one (l : List Int) : ∀ u ∈ ints l, u.oneCell' = true := by
  intro u hu
  unfold ints at hu
  obtain ⟨x, _, rfl⟩ := List.mem_map.1 hu
  rfl
theorem ints_snoc (l : List Int) (x : Int) : ints l ++ ints [x] = ints (l ++ [x]) := by simp [ints]
set_option maxRecDepth 100000 in
set_option maxHeartbeats 8000000 in
theorem mapOf_any {b g : Nat} {k : Int} {w : World} (K : Cur w b g k) (hk : k ≤ 700000) :
    Calls Tryd.prog 109 #[.pointer (some ⟨g, 0, none⟩)] w fun e w' => ∃ (m : Mp) (A B : Option Addr) (c d : Nat), e = .returned (.agg #[.int .i64 m.wd, .int .i64 m.ht, .slice A m.ri.length c, .slice B m.co.length d]) ∧ MpAt w' w.heap.size m A B c d ∧ Cur w' b g (k + 300) ∧ Ch (fun j => j = g) w w' := by
  have hl := K.lt.1
  obtain ⟨i0, hi0, hz0, hz1, hz2⟩ := info_parts int_info
  have Z := Blk.new w 47 [.int .i64 0, .int .i64 0, .slice none 0 0, .slice none 0 0]
  have HC := (Ch.of_below (Below.alloc (Below.refl _ _) (Nat.le_refl _) (.cells #[.int .i64 0, .int .i64 0, .slice none 0 0, .slice none 0 0] 47)) : Ch (fun j => j = g) w (w.alloc (.cells #[.int .i64 0, .int .i64 0, .slice none 0 0, .slice none 0 0] 47)))
  have KC := K.alloc (.cells #[.int .i64 0, .int .i64 0, .slice none 0 0, .slice none 0 0] 47)
  clear K
  go_enter Tryd.func109, Tryd.ntmps109
  go_wp2_with fail
  refine (pick_any KC (by omega) (by omega) (by omega)).mono ?_
  rintro e w1 ⟨x, rfl, hx0, hx1, K1, hc1⟩
  replace Z := Z.ch hc1 (by omega)
  replace HC := HC.trans hc1
  have hw1 : IntKind.i64.wrap (2 + x) = 2 + x := IntWalk.i64_in _ (by omega)
  clear KC hc1
  go_wp2_with fail
  refine (pick_any K1 (by omega) (by omega) (by omega)).mono ?_
  rintro e w2 ⟨y, rfl, hy0, hy1, K2, hc2⟩
  replace Z := Z.ch hc2 (by omega)
  replace HC := HC.trans hc2
  have hw2 : IntKind.i64.wrap (1 + y) = 1 + y := IntWalk.i64_in _ (by omega)
  obtain ⟨W, hW⟩ : ∃ W, 2 + x = W := ⟨_, rfl⟩
  obtain ⟨H, hH⟩ : ∃ H, 1 + y = H := ⟨_, rfl⟩
  have hWb : 1 ≤ W ∧ W ≤ 5 := by omega
  have hHb : 1 ≤ H ∧ H ≤ 4 := by omega
  rw [hW] at hw1
  rw [hH] at hw2
  obtain ⟨N, hN⟩ := Int.eq_ofNat_of_zero_le (Int.mul_nonneg (show 0 ≤ W by omega) (show 0 ≤ H by omega))
  have hN1 : 1 ≤ N ∧ N ≤ 20 := by
    have h1 := Int.mul_le_mul hWb.2 hHb.2 (by omega) (by omega)
    have h2 := Int.mul_le_mul hWb.1 hHb.1 (by omega) (by omega)
    omega
  have hmul : IntKind.i64.wrap (W * H) = (N : Int) := by rw [hN]; exact IntWalk.i64_in _ (by omega)
  have hzl := Z.lt
  have S0 : MSt w b g w.heap.size (w2.heap.size + 2) (k + 2 + 2) (some ⟨w2.heap.size, 0, none⟩) (some ⟨w2.heap.size + 1, 0, none⟩) 0 0 0 0 [] [] [.int .i64 W, .int .i64 H, .slice (some ⟨w2.heap.size, 0, none⟩) 0 0, .slice (some ⟨w2.heap.size + 1, 0, none⟩) 0 0] (((w2.alloc (.cells #[] 3)).alloc (.cells #[] 3)).alloc (.cells #[.int .i64 W, .int .i64 H, .slice (some ⟨w2.heap.size, 0, none⟩) 0 0, .slice (some ⟨w2.heap.size + 1, 0, none⟩) 0 0] 47)) := by
    have T3 := start3P w2 (.cells #[.int .i64 W, .int .i64 H, .slice (some ⟨w2.heap.size, 0, none⟩) 0 0, .slice (some ⟨w2.heap.size + 1, 0, none⟩) 0 0] 47)
    have B3 := box3P w2 (.cells #[] 3) (.cells #[] 3) 47 [.int .i64 W, .int .i64 H, .slice (some ⟨w2.heap.size, 0, none⟩) 0 0, .slice (some ⟨w2.heap.size + 1, 0, none⟩) 0 0]
    refine ⟨hl, rfl, by omega, ⟨own_le T3.oa (by omega), own_le T3.ob (by omega), T3.ab, T3.ax, T3.bx⟩, B3, ((Z.alloc _).alloc _).alloc _, ((K2.alloc _).alloc _).alloc _, ?_⟩
    exact ((HC.trans (Ch.of_below (Below.alloc (Below.refl _ _) (Nat.le_refl _) _))).trans (Ch.of_below (Below.alloc (Below.refl _ _) (Nat.le_refl _) _))).trans (Ch.of_below (Below.alloc (Below.refl _ _) (Nat.le_refl _) _))
  have HS0 := Lib.hid S0
  have hWW := hw1
  rw [← hW] at hWW
  have hHH := hw2
  rw [← hH] at hHH
  clear S0 Z HC K1 K2 hc2 hN hw1 hw2
  go_wp2_with fail
  generalize w2.heap.size + 2 = X at *
  go_loopw [4] (fun i wr => ∃ (A B : Option Addr) (j c d : Nat) (ri co : List Int) (kk : Int), i = .int .i64 j ∧ j ≤ N ∧ kk + 6 * (N - j) ≤ k + 200 ∧ MSt w b g w.heap.size X kk A B j c d j ri co [.int .i64 W, .int .i64 H, .slice A j c, .slice B j d] wr) (fun i _ => N - (intOf i).toNat)
  case atStart => exact ⟨_, _, 0, 0, 0, [], [], k + 2 + 2, rfl, Nat.zero_le _, by omega, HS0.out⟩
  clear HS0
  case round =>
    obtain ⟨A, B, j, c, d, ri, co, kk, rfl, hj, hkk, S⟩ := hrel
    obtain ⟨x0, x1, x2, x3⟩ := blk4 S.box
    have HS := Lib.hid S
    clear S
    by_cases hlt : j < N
    · have hlti : (j : Int) < (N : Int) := by omega
      have hp1 : IntKind.i64.wrap ((j : Int) + 1) = (j : Int) + 1 := IntWalk.i64_in _ (by omega)
      go_wp2_with fail
      have hlg := HS.out.cur.lt.1
      refine (among_any (xs := coL) (n := 8) (HS.out.cur.alloc _) (by omega) (Blk.new wr _ _) (by omega) rfl (by omega) (by omega)).mono ?_
      rintro e w3 ⟨cost, hco, rfl, K3, hc3⟩
      have hcb := coL_bd cost hco
      replace HS := Lib.hid ((HS.out.alloc _).step K3 hc3)
      clear hco K3 hc3 x0 x1 x2 x3
      go_wp2_with fail
      replace hlg := HS.out.cur.lt.1
      refine (among_any (xs := riL) (n := 6) (HS.out.cur.alloc _) (by omega) (Blk.new w3 _ _) (by omega) rfl (by omega) (by omega)).mono ?_
      rintro e w4 ⟨rise, hri, rfl, K3, hc3⟩
      have hrb := riL_bd rise hri
      replace HS := Lib.hid ((HS.out.alloc _).step K3 hc3)
      clear hri K3 hc3
      go_upto_region 7 with (fail)
      go_cut [37] (fun z wx => ∃ q : Bool, z = .bool q ∧ MSt w b g w.heap.size X (kk + 6) A B j c d j ri co [.int .i64 W, .int .i64 H, .slice A j c, .slice B j d] wx)
      case first =>
        by_cases h0 : cost = 0
        · subst h0
          go_wp2_with fail
          refine (one_any HS.out.cur (by omega) (by omega) (by omega)).mono ?_
          rintro e w5 ⟨q, rfl, K3, hc3⟩
          have SS := HS.out.step K3 hc3
          have HSS := Lib.hid SS
          clear SS K3 hc3
          go_wp2_with fail
          go_meet
          exact ⟨_, rfl, HSS.out.more (by omega)⟩
        · have e0 : (cost == 0) = false := by simpa using h0
          go_wp2_with fail
          go_meet
          exact ⟨_, rfl, HS.out.more (by omega)⟩
      case rest =>
      obtain ⟨q, rfl, S⟩ := hcut
      clear HS
      have HS := Lib.hid S
      clear S
      go_upto_if 37 with (fail)
      go_cut [6] (fun r wx => ∃ rr : Int, r = .int .i64 rr ∧ (0 ≤ rr ∧ rr ≤ 9) ∧ MSt w b g w.heap.size X (kk + 6) A B j c d j ri co [.int .i64 W, .int .i64 H, .slice A j c, .slice B j d] wx)
      case first =>
        cases q
        · go_wp2_with fail
          go_meet
          exact ⟨_, rfl, by omega, HS.out⟩
        · go_wp2_with fail
          go_meet
          exact ⟨_, rfl, by omega, HS.out⟩
      case rest =>
      obtain ⟨rr, rfl, hrr, S⟩ := hcut
      clear HS
      have HS := Lib.hid S
      clear S
      have OW := (HS.out.alloc (.cells #[.int .i64 cost] 3)).two.ob
      have HV := Lib.hid ((Blk.new wc 3 (ints [cost])).rd (size := 1) (n := 1) rfl)
      have SA := HS.out.alloc (.cells #[.int .i64 cost] 3)
      have HSA := Lib.hid SA
      obtain ⟨x0, x1, x2, x3⟩ := blk4 SA.box
      clear SA
      obtain ⟨y0, y1, y2, y3⟩ := blk4 HS.out.box
      go_wp2_with (at_builtin; refine wpList_append_rd rfl _ _ 34 rfl (w.heap.size + 1) 3 i0 (.int .i64 0) 1 8 Tryd.underlying34 hi0 hz0 hz1 hz2 rfl (by decide) _ _ _ rfl OW _ _ _ _ _ rfl HV.out (ints_one _) ?c1 ?d1 ?e1 ?_)
      case c1 => simp only [maxLen]; omega
      case d1 => omega
      case e1 => have := HS.out.ch.size; simp; omega
      intro B7 d7 w7 h7 own7 grow7 at7
      rw [ints_snoc] at own7
      have SS := HSA.out.pushB own7 grow7 (fun q9 h9 => by have := at7 q9 h9; rw [World.size_alloc]; exact this)
      have HSS := Lib.hid SS
      obtain ⟨x0, x1, x2, x3⟩ := blk4 SS.box
      have f3 := SS.box.frozen 3
      clear SS own7 grow7 at7 OW HV HSA HS
      go_upto_region 10 with (fail)
      have HS := Lib.hid (HSS.out.put 3 (.slice B7 (j + 1) d7))
      clear HSS x0 x1 x2 x3 y0 y1 y2 y3 f3
      generalize World.setCell w7 ⟨X, 3, none⟩ (.slice B7 (j + 1) d7) = w8 at *
      obtain ⟨x0, x1, x2, x3⟩ := blk4 HS.out.box
      have OW := (HS.out.alloc (.cells #[.int .i64 rr] 3)).two.oa
      have HV := Lib.hid ((Blk.new w8 3 (ints [rr])).rd (size := 1) (n := 1) rfl)
      have SA := HS.out.alloc (.cells #[.int .i64 rr] 3)
      have HSA := Lib.hid SA
      obtain ⟨x0, x1, x2, x3⟩ := blk4 SA.box
      clear SA
      obtain ⟨y0, y1, y2, y3⟩ := blk4 HS.out.box
      go_wp2_with (at_builtin; refine wpList_append_rd rfl _ _ 34 rfl (w.heap.size + 1) 3 i0 (.int .i64 0) 1 8 Tryd.underlying34 hi0 hz0 hz1 hz2 rfl (by decide) _ _ _ rfl OW _ _ _ _ _ rfl HV.out (ints_one _) ?c2 ?d2 ?e2 ?_)
      case c2 => simp only [maxLen]; omega
      case d2 => omega
      case e2 => have := HS.out.ch.size; simp; omega
      intro A7 c7 w7 h7 own7 grow7 at7
      rw [ints_snoc] at own7
      have SS := HSA.out.pushA own7 grow7 (fun q9 h9 => by have := at7 q9 h9; rw [World.size_alloc]; exact this)
      have HSS := Lib.hid SS
      obtain ⟨x0, x1, x2, x3⟩ := blk4 SS.box
      have f2 := SS.box.frozen 2
      clear SS own7 grow7 at7 OW HV HSA HS
      go_wp2_with fail
      go_roundw
      case rel => exact ⟨_, _, j + 1, _, _, _, _, kk + 6, by go_num, by omega, by omega, HSS.out.put 2 _⟩
      case measure => simp [intOf]; omega
    · have hje : j = N := by omega
      subst hje
      go_wp2_with fail
      refine (pick_any HS.out.cur (by omega) (by omega) (by omega)).mono ?_
      rintro e w3 ⟨y9, rfl, hy0, hy1, K3, hc3⟩
      replace HS := Lib.hid (HS.out.step K3 hc3)
      clear K3 hc3 x0 x1 x2 x3
      go_upto_block 2 with (fail)
      go_cut [] (fun wx => ∃ (W9 : Int) (A B : Option Addr) (n p c d : Nat) (ri co : List Int), n ≤ 30 ∧ p ≤ 30 ∧ MSt w b g w.heap.size X (kk + 20) A B n c d p ri co [.int .i64 W9, .int .i64 H, .slice A n c, .slice B p d] wx)
      case first =>
        have hj1 : 1 ≤ j := hN1.1
        have hj20 : j ≤ 20 := hN1.2
        have hj0 : 0 < j := hN1.1
        have hwp : IntKind.i64.wrap (W + 1) = W + 1 := IntWalk.i64_in _ (by omega)
        have hlr := HS.out.two.oa.1
        have hlc := HS.out.two.ob.1
        rw [Nat.mul_one] at hlr hlc
        have HLR := Lib.hid hlr
        have HLC := Lib.hid hlc
        clear hlr hlc
        obtain ⟨qa, rfl, _, _⟩ := own_at HS.out.two.oa (by omega)
        obtain ⟨qb, rfl, _, _⟩ := own_at HS.out.two.ob (by omega)
        obtain ⟨x0, x1, x2, x3⟩ := blk4 HS.out.box
        rcases (show y9 = 0 ∨ y9 = 1 ∨ y9 = 2 ∨ y9 = 3 ∨ 4 ≤ y9 by omega) with rfl | rfl | rfl | rfl | hy
        · go_wp2_with fail
          have hlg := HS.out.cur.lt.1
          refine (among_any (xs := [0, 7, W + 1]) (n := 3) (HS.out.cur.alloc _) (by omega) (Blk.new w3 _ _) (by omega) rfl (by omega) (by omega)).mono ?_
          rintro e w4 ⟨v, hv, rfl, K9, hc9⟩
          have HB := Lib.hid ((HS.out.alloc _).step K9 hc9)
          clear x0 x1 x2 x3
          obtain ⟨x0, x1, x2, x3⟩ := blk4 HB.out.box
          have f0 := HB.out.box.frozen 0
          clear hv K9 hc9
          go_wp2_with fail
          go_meet
          exact ⟨v, _, _, j, j, c, d, ri, co, by omega, by omega, (HB.out.put 0 _).more (by omega)⟩
        · go_upto_region 15 with (fail)
          refine wp_region_held_drew (S := fun w' => ∃ co', MSt w b g w.heap.size X (kk + 20) (some ⟨qa, 0, none⟩) (some ⟨qb, 0, none⟩) j c d j ri co' [.int .i64 W, .int .i64 H, .slice (some ⟨qa, 0, none⟩) j c, .slice (some ⟨qb, 0, none⟩) j d] w') (by kernel_rfl) ?_ (fun hHeld => ?_)
          · (try dsimp only)
            exact ⟨_, HS.out.drew.more (by omega)⟩
          have HS9 := Lib.hid HS.out.drew; clear HS x0 x1 x2 x3; have HS := HS9; clear HS9; generalize w3.drew = wx at *
          refine rgTake (i := 0) (d := 63) (v := ?_) rfl rfl (by kernel_rfl) (by kernel_rfl) (by kernel_rfl) (fun _ _ _ h => h) (by rfl) ?_ (by assumption) ?_
          rotate_left
          · ((intro w hSw); (try dsimp only at hSw); go_simp; (try with_reducible rfl))
          try simp only [Act.put, List.setIfInBounds_toArray, List.set_cons_zero, List.set_cons_succ]
          refine rgTake (i := 1) (d := 64) (v := ?_) rfl rfl (by kernel_rfl) (by kernel_rfl) (by kernel_rfl) (fun _ _ _ h => h) (by rfl) ?_ (by assumption) ?_
          rotate_left
          · ((intro w hSw); (try dsimp only at hSw); (obtain ⟨co9, S9⟩ := hSw; obtain ⟨l0, l1, l2, l3⟩ := blk4 S9.box); go_simp; (try with_reducible rfl))
          try simp only [Act.put, List.setIfInBounds_toArray, List.set_cons_zero, List.set_cons_succ]
          refine rgTake (i := 2) (d := 65) (v := ?_) rfl rfl (by kernel_rfl) (by kernel_rfl) (by kernel_rfl) (fun _ _ _ h => h) (by rfl) ?_ (by assumption) ?_
          rotate_left
          · ((intro w hSw); (try dsimp only at hSw); go_simp; (try with_reducible rfl))
          try simp only [Act.put, List.setIfInBounds_toArray, List.set_cons_zero, List.set_cons_succ]
          refine wpAnyH_ready (rs := [3]) (by kernel_rfl) (by simp) ?_
          refine AllReadyH.cons rfl (fun K hK => ?_) AllReadyH.nil
          (have hlg := HS.out.cur.lt.1); (have LB := Blk.new wx 3 (ints spL)); (have HA := HS.out.alloc (.cells #[.int .i64 (-1), .int .i64 10, .int .i64 9] 3)); go_simp
          refine hK.out _ _ ?_ (fun hHeld => ?_)
          · (try dsimp only)
            exact ⟨_, HA.more (by omega)⟩
          clear hK K
          try simp only [Act.put, List.setIfInBounds_toArray, List.set_cons_zero, List.set_cons_succ]
          refine wpAnyH_ready (rs := [4]) (by kernel_rfl) (by simp) ?_
          refine AllReadyH.cons rfl (fun K hK => ?_) AllReadyH.nil
          go_simp
          refine (among_any (xs := spL) (n := 3) HA.cur (by omega) LB (by omega) rfl (by omega) (by omega)).mono ?_; rintro e wz ⟨v, hv, rfl, K9, hc9⟩; have HB := HA.step K9 hc9
          go_wp2_with fail
          refine hK.out _ _ ?_ (fun hHeld => ?_)
          · (try dsimp only)
            exact ⟨_, HB.more (by omega)⟩
          clear hK K
          try simp only [Act.put, List.setIfInBounds_toArray, List.set_cons_zero, List.set_cons_succ]
          refine rgTake (i := 5) (d := 68) (v := ?_) rfl rfl (by kernel_rfl) (by kernel_rfl) (by kernel_rfl) (fun _ _ _ h => h) (by rfl) ?_ (by assumption) ?_
          rotate_left
          · ((intro w hSw); (try dsimp only at hSw); go_simp; (try with_reducible rfl))
          try simp only [Act.put, List.setIfInBounds_toArray, List.set_cons_zero, List.set_cons_succ]
          refine wpAnyH_ready (rs := [6]) (by kernel_rfl) (by simp) ?_
          refine AllReadyH.cons rfl (fun K hK => ?_) AllReadyH.nil
          (obtain ⟨HC9, fz⟩ := MSt.cellB (x := v) HB (by omega)); (have cz : wz.cell? ⟨qb, 0, none⟩ = some (.int .i64 (co[0]'(by have := HLC.out; simp only [ints, List.length_map] at this; omega))) := by (rw [HB.two.ob.cellAt 0 (by omega), ints_get])); go_simp
          refine hK.out _ _ ?_ (fun hHeld => ?_)
          · (try dsimp only)
            exact ⟨_, HC9.more (by omega)⟩
          clear hK K
          try simp only [Act.put, List.setIfInBounds_toArray, List.set_cons_zero, List.set_cons_succ]
          refine wpAnyH_done (by kernel_rfl) ?_ _
          go_wp2_with fail
          go_meet
          exact ⟨W, _, _, j, j, c, d, ri, _, (by omega), (by omega), HC9.more (by omega)⟩
        · go_upto_region 17 with (fail)
          refine wp_region_held_drew (S := fun w' => ∃ ri', MSt w b g w.heap.size X (kk + 20) (some ⟨qa, 0, none⟩) (some ⟨qb, 0, none⟩) j c d j ri' co [.int .i64 W, .int .i64 H, .slice (some ⟨qa, 0, none⟩) j c, .slice (some ⟨qb, 0, none⟩) j d] w') (by kernel_rfl) ?_ (fun hHeld => ?_)
          · (try dsimp only)
            exact ⟨_, HS.out.drew.more (by omega)⟩
          have HS9 := Lib.hid HS.out.drew; clear HS x0 x1 x2 x3; have HS := HS9; clear HS9; generalize w3.drew = wx at *
          refine rgTake (i := 0) (d := 71) (v := ?_) rfl rfl (by kernel_rfl) (by kernel_rfl) (by kernel_rfl) (fun _ _ _ h => h) (by rfl) ?_ (by assumption) ?_
          rotate_left
          · ((intro w hSw); (try dsimp only at hSw); go_simp; (try with_reducible rfl))
          try simp only [Act.put, List.setIfInBounds_toArray, List.set_cons_zero, List.set_cons_succ]
          refine rgTake (i := 1) (d := 72) (v := ?_) rfl rfl (by kernel_rfl) (by kernel_rfl) (by kernel_rfl) (fun _ _ _ h => h) (by rfl) ?_ (by assumption) ?_
          rotate_left
          · ((intro w hSw); (try dsimp only at hSw); (obtain ⟨co9, S9⟩ := hSw; obtain ⟨l0, l1, l2, l3⟩ := blk4 S9.box); go_simp; (try with_reducible rfl))
          try simp only [Act.put, List.setIfInBounds_toArray, List.set_cons_zero, List.set_cons_succ]
          refine rgTake (i := 2) (d := 73) (v := ?_) rfl rfl (by kernel_rfl) (by kernel_rfl) (by kernel_rfl) (fun _ _ _ h => h) (by rfl) ?_ (by assumption) ?_
          rotate_left
          · ((intro w hSw); (try dsimp only at hSw); go_simp; (try with_reducible rfl))
          try simp only [Act.put, List.setIfInBounds_toArray, List.set_cons_zero, List.set_cons_succ]
          refine wpAnyH_ready (rs := [3]) (by kernel_rfl) (by simp) ?_
          refine AllReadyH.cons rfl (fun K hK => ?_) AllReadyH.nil
          (have hlg := HS.out.cur.lt.1); (have LB := Blk.new wx 3 (ints spL)); (have HA := HS.out.alloc (.cells #[.int .i64 (-1), .int .i64 10, .int .i64 9] 3)); go_simp
          refine hK.out _ _ ?_ (fun hHeld => ?_)
          · (try dsimp only)
            exact ⟨_, HA.more (by omega)⟩
          clear hK K
          try simp only [Act.put, List.setIfInBounds_toArray, List.set_cons_zero, List.set_cons_succ]
          refine wpAnyH_ready (rs := [4]) (by kernel_rfl) (by simp) ?_
          refine AllReadyH.cons rfl (fun K hK => ?_) AllReadyH.nil
          go_simp
          refine (among_any (xs := spL) (n := 3) HA.cur (by omega) LB (by omega) rfl (by omega) (by omega)).mono ?_; rintro e wz ⟨v, hv, rfl, K9, hc9⟩; have HB := HA.step K9 hc9
          go_wp2_with fail
          refine hK.out _ _ ?_ (fun hHeld => ?_)
          · (try dsimp only)
            exact ⟨_, HB.more (by omega)⟩
          clear hK K
          try simp only [Act.put, List.setIfInBounds_toArray, List.set_cons_zero, List.set_cons_succ]
          refine rgTake (i := 5) (d := 76) (v := ?_) rfl rfl (by kernel_rfl) (by kernel_rfl) (by kernel_rfl) (fun _ _ _ h => h) (by rfl) ?_ (by assumption) ?_
          rotate_left
          · ((intro w hSw); (try dsimp only at hSw); go_simp; (try with_reducible rfl))
          try simp only [Act.put, List.setIfInBounds_toArray, List.set_cons_zero, List.set_cons_succ]
          refine wpAnyH_ready (rs := [6]) (by kernel_rfl) (by simp) ?_
          refine AllReadyH.cons rfl (fun K hK => ?_) AllReadyH.nil
          (obtain ⟨HC9, fz⟩ := MSt.cellA (x := v) HB (by omega)); (have cz : wz.cell? ⟨qa, 0, none⟩ = some (.int .i64 (ri[0]'(by have := HLR.out; simp only [ints, List.length_map] at this; omega))) := by (rw [HB.two.oa.cellAt 0 (by omega), ints_get])); go_simp
          refine hK.out _ _ ?_ (fun hHeld => ?_)
          · (try dsimp only)
            exact ⟨_, HC9.more (by omega)⟩
          clear hK K
          try simp only [Act.put, List.setIfInBounds_toArray, List.set_cons_zero, List.set_cons_succ]
          refine wpAnyH_done (by kernel_rfl) ?_ _
          go_wp2_with fail
          go_meet
          exact ⟨W, _, _, j, j, c, d, _, co, (by omega), (by omega), HC9.more (by omega)⟩
        · clear x0 x1 x2 x3
          have OW := (HS.out.alloc (.cells #[.int .i64 0] 3)).two.oa
          have HV := Lib.hid ((Blk.new w3 3 (ints [0])).rd (size := 1) (n := 1) rfl)
          have SA := HS.out.alloc (.cells #[.int .i64 0] 3)
          have HSA := Lib.hid SA
          obtain ⟨x0, x1, x2, x3⟩ := blk4 SA.box
          clear SA
          obtain ⟨y0, y1, y2, y3⟩ := blk4 HS.out.box
          go_wp2_with (at_builtin; refine wpList_append_rd rfl _ _ 34 rfl (w.heap.size + 1) 3 i0 (.int .i64 0) 1 8 Tryd.underlying34 hi0 hz0 hz1 hz2 rfl (by decide) _ _ _ rfl OW _ _ _ _ _ rfl HV.out (ints_one _) ?c3 ?d3 ?e3 ?_)
          case c3 => simp only [maxLen]; omega
          case d3 => omega
          case e3 => have := HS.out.ch.size; simp; omega
          intro A7 c7 w7 h7 own7 grow7 at7
          rw [ints_snoc] at own7
          have SS := HSA.out.pushA own7 grow7 (fun q9 h9 => by have := at7 q9 h9; rw [World.size_alloc]; exact this)
          have HSS := Lib.hid SS
          obtain ⟨x0, x1, x2, x3⟩ := blk4 SS.box
          have f2 := SS.box.frozen 2
          clear SS own7 grow7 at7 OW HV HSA HS
          go_wp2_with fail
          go_meet
          exact ⟨W, _, _, j + 1, j, _, d, _, co, by omega, by omega, (HSS.out.put 2 _).more (by omega)⟩
        · have e0 : (y9 == 0) = false := by simp; omega
          have e1 : (y9 == 1) = false := by simp; omega
          have e2 : (y9 == 2) = false := by simp; omega
          have e3 : (y9 == 3) = false := by simp; omega
          go_wp2_with fail
          go_meet
          exact ⟨W, _, _, j, j, c, d, ri, co, by omega, by omega, HS.out.more (by omega)⟩
      case rest =>
      obtain ⟨W9, A, B, n, p, c, d, ri, co, hn30, hp30, S⟩ := hcut
      clear HS
      have hlr := S.two.oa.1
      have hlc := S.two.ob.1
      rw [Nat.mul_one] at hlr hlc
      simp only [ints, List.length_map] at hlr hlc
      obtain ⟨x0, x1, x2, x3⟩ := blk4 S.box
      obtain ⟨z0, z1, z2, z3⟩ := blk4 S.res
      have f0 := S.res.frozen 0
      have f1 := S.res.frozen 1
      have f2 := S.res.frozen 2
      have f3 := S.res.frozen 3
      have Z2 := (((S.res.set_ 0 (.int .i64 W9)).set_ 1 (.int .i64 H)).set_ 2 (.slice A n c)).set_ 3 (.slice B p d)
      obtain ⟨q0, q1, q2, q3⟩ := blk4 Z2
      have hc4 : Ch (fun j => j = w.heap.size) wc (World.setCell (World.setCell (World.setCell (World.setCell wc ⟨w.heap.size, 0, none⟩ (.int .i64 W9)) ⟨w.heap.size, 1, none⟩ (.int .i64 H)) ⟨w.heap.size, 2, none⟩ (.slice A n c)) ⟨w.heap.size, 3, none⟩ (.slice B p d)) := (((ch_set_ _).trans (ch_set_ _)).trans (ch_set_ _)).trans (ch_set_ _)
      have oA := own_ch S.two.oa hc4 (fun q hq e => by have := (S.two.oa.lt q hq).1; omega)
      have oB := own_ch S.two.ob hc4 (fun q hq e => by have := (S.two.ob.lt q hq).1; omega)
      have KE := S.cur.ch hc4 (fun j e => by omega)
      have HE := ch_newM S.ch hc4 (fun j e => by left; omega)
      subst hlr hlc
      clear Z2 S
      go_wp2_with fail
      refine bodyPost_ret (v := .agg #[.int .i64 W9, .int .i64 H, .slice A ri.length c, .slice B co.length d]) ?_ ?_ ?_
      · simp [results, Tryd.results109, go_sem, q0, q1, q2, q3]
      · rfl
      exact ⟨⟨W9, H, ri, co⟩, A, B, c, d, rfl, ⟨by show ri.length ≤ 100; omega, by show co.length ≤ 100; omega, own_le oA (by omega), own_le oB (by omega)⟩, KE.more (by omega), HE⟩
end Go.Proofs.YtmmpcchjalgokaaDoor
