/- Contracts: SwapCards, the program's and the reference's. -/
import Derived.Test.YtmmpcchjalgokaaGreatDoorRwc
import Derived.Test.YtmmpcchjalgokaaGreatDoorMkr
import Derived.Deep.DeepCutAuto
import Derived.Test.YtmmpcchjalgokaaGreatDoorRg2
namespace Go.Proofs.YtmmpcchjalgokaaGreatDoor
set_option linter.unusedVariables false
set_option linter.unusedSimpArgs false
open Go.RowKit
theorem rns_cons (x : Rn) (l : List Rn) : rns (x :: l) = x.cells ++ rns l := rfl
theorem put6_rns : ∀ (l : List Rn) (k : Nat) (r : Rn), k < l.length → put6 (rns l) (k * 6) r = rns (l.set k r)
  | [], k, r, h => by simp at h
  | x :: l, 0, r, _ => rfl
  | x :: l, k + 1, r, h => by
    have ih := put6_rns l k r (by simpa using h)
    rw [List.set_cons_succ, rns_cons, rns_cons, ← ih]
    rw [show (k + 1) * 6 = k * 6 + 6 by omega]
    rfl
def withC (r : Rn) (c : Int) : Rn := { r with card := c }
theorem card_rns : ∀ (l : List Rn) (k : Nat) (c : Int) (h : k < l.length), (rns l).set (k * 6 + 5) (.int .i64 c) = rns (l.set k (withC l[k] c))
  | [], k, c, h => by simp at h
  | x :: l, 0, c, _ => rfl
  | x :: l, k + 1, c, h => by
    have ih := card_rns l k c (by simpa using h)
    rw [List.set_cons_succ, rns_cons, rns_cons, List.getElem_cons_succ, ← ih]
    rw [show (k + 1) * 6 + 5 = k * 6 + 5 + 6 by omega]
    rfl
theorem rns_one (l : List Rn) : ∀ u ∈ rns l, u.oneCell' = true := by
  intro u hu
  obtain ⟨c, _, hu⟩ := List.mem_flatMap.1 hu
  simp [Rn.cells] at hu
  rcases hu with rfl | rfl | rfl | rfl | rfl | rfl <;> rfl
theorem idxB_neg {α : Type} {p : α → Bool} : ∀ (l : List α) (b : Nat), ¬ 0 ≤ idxB p l b → idxB p l b = -1
  | [], b, _ => rfl
  | x :: r, b, h => by
    cases hx : p x
    · have e0 : idxB p (x :: r) b = idxB p r (b + 1) := by rw [idxB, hx]; rfl
      rw [e0] at h ⊢
      exact idxB_neg r (b + 1) h
    · exact absurd (by rw [idxB, hx]; simp) h
theorem RnAt.own {w : World} {base n c j : Nat} {g : Nat} {t : TypeId} {l : List Rn} (h : w.ownsRow base t 6 (.slice (some ⟨g, 0, none⟩) n c) n (rns l)) (hj : j < l.length) : RnAt w g (j * 6) l[j] := by
  have hl := h.1
  rw [rns_len] at hl
  obtain ⟨b, off, e, _, hc⟩ := (Rd.of_own h).rn (by omega)
  simp only [Option.some.injEq, Addr.mk.injEq, and_true] at e
  obtain ⟨rfl, rfl⟩ := e
  have := hc j hj
  rwa [Nat.zero_add] at this
theorem own_far {w : World} {base n c size : Nat} {g : Nat} {t : TypeId} {xs : List Value} (h : w.ownsRow base t size (.slice (some ⟨g, 0, none⟩) n c) n xs) {p : Addr} (hp : g = p.block → False) (u : Value) : (w.setCell p u).ownsRow base t size (.slice (some ⟨g, 0, none⟩) n c) n xs := by
  have hc : Ch (fun k => k = p.block) w (w.setCell p u) := ⟨rfl, rfl, rfl, by simp [World.setCell], fun k _ hk => Below.heap_setCell w p u k hk⟩
  exact own_ch h hc (fun k hk e => by simp only [Value.ownBlock, Option.some.injEq] at hk; exact hp (hk.trans e))
theorem two_blk (w : World) (t : TypeId) (c1 c2 : List Value) : Blk ((w.alloc (.cells c1.toArray t)).alloc (.cells c2.toArray t)) w.heap.size t c1 ∧ Blk ((w.alloc (.cells c1.toArray t)).alloc (.cells c2.toArray t)) (w.heap.size + 1) t c2 := by
  refine ⟨(Blk.new w t c1).alloc _, ?_⟩
  have h := Blk.new (w.alloc (.cells c1.toArray t)) t c2
  rwa [show (w.alloc (.cells c1.toArray t)).heap.size = w.heap.size + 1 by simp] at h
theorem own_put6 {w : World} {base n c k : Nat} {g : Nat} {t : TypeId} {l : List Rn} (r : Rn) (h : w.ownsRow base t 6 (.slice (some ⟨g, 0, none⟩) n c) n (rns l)) (hk : k < l.length) :
    (World.setCell (World.setCell (World.setCell (World.setCell (World.setCell (World.setCell w ⟨g, k * 6, none⟩ (.int .i64 r.id)) ⟨g, k * 6 + 1, none⟩ (.string r.name)) ⟨g, k * 6 + 2, none⟩ (.string r.club)) ⟨g, k * 6 + 3, none⟩ (.int .i64 r.born)) ⟨g, k * 6 + 4, none⟩ (.bool r.woman)) ⟨g, k * 6 + 5, none⟩ (.int .i64 r.card)).ownsRow base t 6 (.slice (some ⟨g, 0, none⟩) n c) n (rns (l.set k r)) := by
  have h6 := ((((((h.stored (k * 6) (.int .i64 r.id)).1.stored (k * 6 + 1) (.string r.name)).1.stored (k * 6 + 2) (.string r.club)).1.stored (k * 6 + 3) (.int .i64 r.born)).1.stored (k * 6 + 4) (.bool r.woman)).1.stored (k * 6 + 5) (.int .i64 r.card)).1
  rw [← put6_rns l k r hk]
  exact h6
theorem Blk.far6 {w : World} {g g' : Nat} {t : TypeId} {cs : List Value} (h : Blk w g t cs) (hg : g ≠ g') (o : Nat) (r : Rn) : Blk (World.setCell (World.setCell (World.setCell (World.setCell (World.setCell (World.setCell w ⟨g', o, none⟩ (.int .i64 r.id)) ⟨g', o + 1, none⟩ (.string r.name)) ⟨g', o + 2, none⟩ (.string r.club)) ⟨g', o + 3, none⟩ (.int .i64 r.born)) ⟨g', o + 4, none⟩ (.bool r.woman)) ⟨g', o + 5, none⟩ (.int .i64 r.card)) g t cs :=
  (((((h.far hg _).far hg _).far hg _).far hg _).far hg _).far hg _
def ixR (l : List Rn) (x : Int) : Int := idxB (fun c => c.id == x) l 0
def swL (l : List Rn) (i k : Nat) : List Rn := (l.set i (withC (rnA l i) (rnA l k).card)).set k (withC (rnA l k) (rnA l i).card)
def swOk (l : List Rn) (a b : Int) : Bool := okRns l && (decide (0 ≤ ixR l a) && (decide (0 ≤ ixR l b) && !decide (ixR l a = ixR l b)))
def swR (l : List Rn) (a b : Int) : List Rn := if swOk l a b = true then swL l (ixR l a).toNat (ixR l b).toNat else []
theorem swL_len (l : List Rn) (i k : Nat) : (swL l i k).length = l.length := by simp [swL]
theorem swR_b (l : List Rn) (a b : Int) : (swR l a b).length ≤ 1000 := by
  unfold swR
  split
  · next h =>
    unfold swOk at h
    rw [Bool.and_eq_true] at h
    have := (okRns_iff h.1).1
    rw [swL_len]; omega
  · simp
set_option maxRecDepth 100000 in
set_option maxHeartbeats 4000000 in
theorem SwapCards_impl {R : Option Addr} {q cq : Nat} {l : List Rn} {a b : Int} {w : World} (hR : Rd w w.heap.size 6 R q (rns l)) (hq : q ≤ 1048576) (hqc : q ≤ cq) (hs : ∀ r ∈ l, r.name.size ≤ maxLen ∧ r.club.size ≤ maxLen) :
    Calls Tryz.prog 33 #[.slice R q cq, .int .i64 a, .int .i64 b] w fun e w' => ∃ A cp, e = .returned (.tuple #[.slice A (swR l a b).length cp, .bool (swOk l a b)]) ∧ w'.ownsRow w.heap.size 41 6 (.slice A (swR l a b).length cp) (swR l a b).length (rns (swR l a b)) ∧ Below w.heap.size w w' := by
  have HSZ := Lib.hid hs
  have HQ := Lib.hid hR.rlen
  clear hs
  have G := Below.refl w.heap.size w
  cases hok : okRns l
  · have e1 : swOk l a b = false := by unfold swOk; rw [hok]; rfl
    have e2 : swR l a b = [] := by unfold swR; rw [e1]; rfl
    rw [e1, e2]; clear e1 e2
    have HOK := Lib.hid hok
    clear hok
    go_enter Tryz.func33, Tryz.ntmps33
    go_wp2_with fail
    refine (runnerIndex_any (x := a) (hR.on G) hq).mono ?_
    rintro e w1 ⟨rfl, hb⟩
    replace G := G.trans (hb.mono G.size)
    clear hb
    rw [show idxB (fun c => c.id == a) l 0 = ixR l a from rfl]
    go_wp2_with fail
    refine (runnerIndex_any (x := b) (hR.on G) hq).mono ?_
    rintro e w2 ⟨rfl, hb⟩
    replace G := G.trans (hb.mono G.size)
    clear hb
    rw [show idxB (fun c => c.id == b) l 0 = ixR l b from rfl]
    go_wp2_with fail
    refine (AreRunners_impl (hR.on G) hq hqc HSZ.out).mono ?_
    rintro e w3 ⟨rfl, hb⟩
    replace G := G.trans (hb.mono G.size)
    clear hb
    rw [HOK.out]
    go_wp2_with fail
    go_ret2
    exact ⟨none, 0, rfl, World.ownsRow_nil _ _ _ _, G⟩
  have HOK := Lib.hid hok
  by_cases h0 : 0 ≤ ixR l a
  rotate_left
  · have e1 : swOk l a b = false := by unfold swOk; rw [show decide (0 ≤ ixR l a) = false by simpa using h0]; simp
    have e2 : swR l a b = [] := by unfold swR; rw [e1]; rfl
    rw [e1, e2]; clear e1 e2
    have HI := Lib.hid (show ixR l a = -1 from idxB_neg l 0 h0)
    clear hok h0
    go_enter Tryz.func33, Tryz.ntmps33
    go_wp2_with fail
    refine (runnerIndex_any (x := a) (hR.on G) hq).mono ?_
    rintro e w1 ⟨rfl, hb⟩
    replace G := G.trans (hb.mono G.size)
    clear hb
    rw [show idxB (fun c => c.id == a) l 0 = ixR l a from rfl]
    rw [HI.out]
    go_wp2_with fail
    refine (runnerIndex_any (x := b) (hR.on G) hq).mono ?_
    rintro e w2 ⟨rfl, hb⟩
    replace G := G.trans (hb.mono G.size)
    clear hb
    rw [show idxB (fun c => c.id == b) l 0 = ixR l b from rfl]
    go_wp2_with fail
    refine (AreRunners_impl (hR.on G) hq hqc HSZ.out).mono ?_
    rintro e w3 ⟨rfl, hb⟩
    replace G := G.trans (hb.mono G.size)
    clear hb
    rw [HOK.out]
    go_wp2_with fail
    go_ret2
    exact ⟨none, 0, rfl, World.ownsRow_nil _ _ _ _, G⟩
  obtain ⟨i9, hi9, hix, hpi, _⟩ := idxB_some l 0 h0
  have hi2 : ixR l a = (i9 : Int) := by unfold ixR; rw [hix]; simp
  have HI := Lib.hid hi2
  by_cases h1 : 0 ≤ ixR l b
  rotate_left
  · have e1 : swOk l a b = false := by unfold swOk; rw [show decide (0 ≤ ixR l b) = false by simpa using h1]; simp
    have e2 : swR l a b = [] := by unfold swR; rw [e1]; rfl
    rw [e1, e2]; clear e1 e2
    have HK := Lib.hid (show ixR l b = -1 from idxB_neg l 0 h1)
    clear hok h0 h1 hix hpi hi2
    go_enter Tryz.func33, Tryz.ntmps33
    go_wp2_with fail
    refine (runnerIndex_any (x := a) (hR.on G) hq).mono ?_
    rintro e w1 ⟨rfl, hb⟩
    replace G := G.trans (hb.mono G.size)
    clear hb
    rw [show idxB (fun c => c.id == a) l 0 = ixR l a from rfl]
    rw [HI.out]
    go_wp2_with fail
    refine (runnerIndex_any (x := b) (hR.on G) hq).mono ?_
    rintro e w2 ⟨rfl, hb⟩
    replace G := G.trans (hb.mono G.size)
    clear hb
    rw [show idxB (fun c => c.id == b) l 0 = ixR l b from rfl]
    rw [HK.out]
    go_wp2_with fail
    refine (AreRunners_impl (hR.on G) hq hqc HSZ.out).mono ?_
    rintro e w3 ⟨rfl, hb⟩
    replace G := G.trans (hb.mono G.size)
    clear hb
    rw [HOK.out]
    go_wp2_with fail
    go_ret2
    exact ⟨none, 0, rfl, World.ownsRow_nil _ _ _ _, G⟩
  obtain ⟨k9, hk9, hkx, hpk, _⟩ := idxB_some l 0 h1
  have hk2 : ixR l b = (k9 : Int) := by unfold ixR; rw [hkx]; simp
  have HK := Lib.hid hk2
  by_cases hne : i9 = k9
  · have e1 : swOk l a b = false := by unfold swOk; rw [hi2, hk2, hne]; simp
    have e2 : swR l a b = [] := by unfold swR; rw [e1]; rfl
    rw [e1, e2]; clear e1 e2
    subst hne
    clear hok h0 h1 hix hpi hi2 hkx hpk hk2
    go_enter Tryz.func33, Tryz.ntmps33
    go_wp2_with fail
    refine (runnerIndex_any (x := a) (hR.on G) hq).mono ?_
    rintro e w1 ⟨rfl, hb⟩
    replace G := G.trans (hb.mono G.size)
    clear hb
    rw [show idxB (fun c => c.id == a) l 0 = ixR l a from rfl]
    rw [HI.out]
    go_wp2_with fail
    refine (runnerIndex_any (x := b) (hR.on G) hq).mono ?_
    rintro e w2 ⟨rfl, hb⟩
    replace G := G.trans (hb.mono G.size)
    clear hb
    rw [show idxB (fun c => c.id == b) l 0 = ixR l b from rfl]
    rw [HK.out]
    go_wp2_with fail
    refine (AreRunners_impl (hR.on G) hq hqc HSZ.out).mono ?_
    rintro e w3 ⟨rfl, hb⟩
    replace G := G.trans (hb.mono G.size)
    clear hb
    rw [HOK.out]
    go_wp2_with fail
    go_ret2
    exact ⟨none, 0, rfl, World.ownsRow_nil _ _ _ _, G⟩
  have e1 : swOk l a b = true := by unfold swOk; rw [hok, hi2, hk2]; simp; omega
  have e2 : swR l a b = swL l i9 k9 := by unfold swR; rw [e1, if_pos rfl, hi2, hk2]; rfl
  rw [e1, e2]; clear e1 e2
  have hq10 : q ≤ 10 := by have := (okRns_iff hok).1; have := HQ.out; omega
  have hiq : i9 < q := by rw [← HQ.out]; exact hi9
  have hkq : k9 < q := by rw [← HQ.out]; exact hk9
  have ii : (i9 : Int) < (q : Int) := by omega
  have kk : (k9 : Int) < (q : Int) := by omega
  have ik : ¬ ((i9 : Int) = (k9 : Int)) := by omega
  have ikb : ((i9 : Int) == (k9 : Int)) = false := by simp; omega
  have hq0 : 0 < q := by omega
  have HSW := Lib.hid (show rns (swL l i9 k9) = rns ((l.set i9 (withC l[i9] l[k9].card)).set k9 (withC l[k9] l[i9].card)) by unfold swL; rw [rnA_get hi9, rnA_get hk9])
  have HSL := Lib.hid (show (swL l i9 k9).length = q by rw [swL_len]; exact HQ.out)
  obtain ⟨i0, hi0, hz0, hz1, hz2⟩ := info_parts rn_info
  obtain ⟨bl, off, rfl, hbb, hcc⟩ := hR.2 hq0
  obtain ⟨bl', off', hbe, _, hca⟩ := hR.rn hq0
  simp only [Option.some.injEq, Addr.mk.injEq, and_true] at hbe
  obtain ⟨rfl, rfl⟩ := hbe
  have CI := hca i9 hi9
  have CK := hca k9 hk9
  clear hca hok h0 h1 hix hpi hi2 hkx hpk hk2
  go_enter Tryz.func33, Tryz.ntmps33
  go_wp2_with fail
  refine (runnerIndex_any (x := a) (hR.on G) hq).mono ?_
  rintro e w1 ⟨rfl, hb⟩
  replace G := G.trans (hb.mono G.size)
  clear hb
  rw [show idxB (fun c => c.id == a) l 0 = ixR l a from rfl]
  rw [HI.out]
  go_wp2_with fail
  refine (runnerIndex_any (x := b) (hR.on G) hq).mono ?_
  rintro e w2 ⟨rfl, hb⟩
  replace G := G.trans (hb.mono G.size)
  clear hb
  rw [show idxB (fun c => c.id == b) l 0 = ixR l b from rfl]
  rw [HK.out]
  go_wp2_with fail
  refine (AreRunners_impl (hR.on G) hq hqc HSZ.out).mono ?_
  rintro e w3 ⟨rfl, hb⟩
  replace G := G.trans (hb.mono G.size)
  clear hb
  rw [HOK.out]
  have OW : (w3.alloc (.cells #[] 41)).ownsRow w.heap.size 41 6 (.slice (some ⟨w3.heap.size, 0, none⟩) 0 0) 0 [] := World.ownsRow_lit (base := w.heap.size) (size := 6) (e := 41) w3 #[] 0 G.size (by simp) rfl
  replace G := G.alloc G.size (.cells #[] 41)
  go_wp2_with (at_builtin; refine wpList_append_own _ rfl _ _ 47 rfl w.heap.size 41 i0 (.agg #[.int .i64 0, .string ByteArray.empty, .string ByteArray.empty, .int .i64 0, .bool false, .int .i64 0]) 6 64 Tryz.underlying47 hi0 hz0 hz1 hz2 rfl (by decide) _ _ _ rfl OW ⟨bl, off, none⟩ q cq (rns l) rfl (by rw [rns_len, HQ.out]) ?c1 ?c2 ?c3 ?c4 (by have := G.size; first | (simp; done) | (simp; omega) | omega) ?_)
  case c1 => intro j u hu; (try rw [add_none]); exact ((bcell G).1 bl (off + j) hbb).trans (hcc j u hu)
  case c2 => exact rns_one l
  case c3 => simp only [maxLen]; omega
  case c4 => omega
  intro v9 w9 own1 grow1 _
  (try simp only [Nat.zero_add, List.nil_append] at own1)
  obtain ⟨P9, c9, rfl⟩ := own_form own1
  obtain ⟨g9, rfl, hg9, _⟩ := own_at own1 hq0
  replace G := G.grown grow1 G.size (fun k hk => (OW.lt k hk).1)
  clear OW grow1 hcc
  have rl := rns_len l
  have yi : i9 * 6 + 5 < (rns l).length := by rw [rl]; omega
  have yk : k9 * 6 + 5 < (rns l).length := by rw [rl]; omega
  go_upto_region 5 with (fail)
  have hc1 := own1.cellAt (i9 * 6 + 5) (by omega)
  rw [List.getElem?_eq_getElem yi] at hc1
  have hf1 := own1.frozenAt (i9 * 6 + 5)
  obtain ⟨o1, _⟩ := own1.stored (i9 * 6 + 5) (.int .i64 l[k9].card)
  have hc2 := o1.cellAt (k9 * 6 + 5) (by omega)
  rw [List.getElem?_set_ne (by omega), List.getElem?_eq_getElem yk] at hc2
  have hf2 := o1.frozenAt (k9 * 6 + 5)
  obtain ⟨o2, _⟩ := o1.stored (k9 * 6 + 5) (.int .i64 l[i9].card)
  rw [card_rns l i9 _ hi9, card_rns _ k9 _ (by rw [List.length_set]; exact hk9), List.getElem_set_ne hne, ← HSW.out] at o2
  have HO := Lib.hid o2
  clear o1 o2 own1
  refine wp_region_held_drew (S := fun w' => Below w.heap.size w w') (by kernel_rfl) ?_ (fun hHeld => ?_)
  · (try dsimp only)
    first | exact G.drew | exact Below.setCell hHeld hg9 _
  refine rgTake (i := 0) (d := 36) (v := ?_) rfl rfl (by kernel_rfl) (by kernel_rfl) (by kernel_rfl) (fun _ _ _ h => h) (by rfl) ?_ (by assumption) ?_
  rotate_left
  · ((intro w hSw); (try dsimp only at hSw); go_simp; (try with_reducible rfl))
  try simp only [Act.put, List.setIfInBounds_toArray, List.set_cons_zero, List.set_cons_succ]
  refine rgTake (i := 1) (d := 37) (v := ?_) rfl rfl (by kernel_rfl) (by kernel_rfl) (by kernel_rfl) (fun _ _ _ h => h) (by rfl) ?_ (by assumption) ?_
  rotate_left
  · ((intro w hSw); (try dsimp only at hSw); go_simp; (try with_reducible rfl))
  try simp only [Act.put, List.setIfInBounds_toArray, List.set_cons_zero, List.set_cons_succ]
  refine rgTake (i := 2) (d := 38) (v := ?_) rfl rfl (by kernel_rfl) (by kernel_rfl) (by kernel_rfl) (fun _ _ _ h => h) (by rfl) ?_ (by assumption) ?_
  rotate_left
  · ((intro w hSw); (try dsimp only at hSw); go_simp; (try with_reducible rfl))
  try simp only [Act.put, List.setIfInBounds_toArray, List.set_cons_zero, List.set_cons_succ]
  refine rgTake (i := 3) (d := 39) (v := ?_) rfl rfl (by kernel_rfl) (by kernel_rfl) (by kernel_rfl) (fun _ _ _ h => h) (by rfl) ?_ (by assumption) ?_
  rotate_left
  · ((intro w hSw); (try dsimp only at hSw); go_simp; (try with_reducible rfl))
  try simp only [Act.put, List.setIfInBounds_toArray, List.set_cons_zero, List.set_cons_succ]
  refine rgTake (i := 4) (d := 40) (v := ?_) rfl rfl (by kernel_rfl) (by kernel_rfl) (by kernel_rfl) (fun _ _ _ h => h) (by rfl) ?_ (by assumption) ?_
  rotate_left
  · ((intro w hSw); (try dsimp only at hSw); go_simp; (try with_reducible rfl))
  try simp only [Act.put, List.setIfInBounds_toArray, List.set_cons_zero, List.set_cons_succ]
  refine rgTake (i := 5) (d := 41) (v := ?_) rfl rfl (by kernel_rfl) (by kernel_rfl) (by kernel_rfl) (fun _ _ _ h => h) (by rfl) ?_ (by assumption) ?_
  rotate_left
  · ((intro w hSw); (try dsimp only at hSw); go_simp; (try with_reducible rfl))
  try simp only [Act.put, List.setIfInBounds_toArray, List.set_cons_zero, List.set_cons_succ]
  refine rgTake (i := 6) (d := 42) (v := ?_) rfl rfl (by kernel_rfl) (by kernel_rfl) (by kernel_rfl) (fun _ _ _ h => h) (by rfl) ?_ (by assumption) ?_
  rotate_left
  · ((intro w hSw); (try dsimp only at hSw); go_simp; (try with_reducible rfl))
  try simp only [Act.put, List.setIfInBounds_toArray, List.set_cons_zero, List.set_cons_succ]
  refine rgTake (i := 7) (d := 43) (v := ?_) rfl rfl (by kernel_rfl) (by kernel_rfl) (by kernel_rfl) (fun _ _ _ h => h) (by rfl) ?_ (by assumption) ?_
  rotate_left
  · ((intro w hSw); (try dsimp only at hSw); go_simp; (try with_reducible rfl))
  try simp only [Act.put, List.setIfInBounds_toArray, List.set_cons_zero, List.set_cons_succ]
  refine rgTake (i := 8) (d := 44) (v := ?_) rfl rfl (by kernel_rfl) (by kernel_rfl) (by kernel_rfl) (fun _ _ _ h => h) (by rfl) ?_ (by assumption) ?_
  rotate_left
  · ((intro w hSw); (try dsimp only at hSw); (obtain ⟨y0, y1, y2, y3, y4, y5⟩ := CI.below hSw hbb; obtain ⟨z0, z1, z2, z3, z4, z5⟩ := CK.below hSw hbb); go_simp; (try with_reducible rfl))
  try simp only [Act.put, List.setIfInBounds_toArray, List.set_cons_zero, List.set_cons_succ]
  refine rgTake (i := 9) (d := 45) (v := ?_) rfl rfl (by kernel_rfl) (by kernel_rfl) (by kernel_rfl) (fun _ _ _ h => h) (by rfl) ?_ (by assumption) ?_
  rotate_left
  · ((intro w hSw); (try dsimp only at hSw); go_simp; (try with_reducible rfl))
  try simp only [Act.put, List.setIfInBounds_toArray, List.set_cons_zero, List.set_cons_succ]
  refine rgTake (i := 10) (d := 46) (v := ?_) rfl rfl (by kernel_rfl) (by kernel_rfl) (by kernel_rfl) (fun _ _ _ h => h) (by rfl) ?_ (by assumption) ?_
  rotate_left
  · ((intro w hSw); (try dsimp only at hSw); go_simp; (try with_reducible rfl))
  try simp only [Act.put, List.setIfInBounds_toArray, List.set_cons_zero, List.set_cons_succ]
  refine rgTake (i := 11) (d := 47) (v := ?_) rfl rfl (by kernel_rfl) (by kernel_rfl) (by kernel_rfl) (fun _ _ _ h => h) (by rfl) ?_ (by assumption) ?_
  rotate_left
  · ((intro w hSw); (try dsimp only at hSw); go_simp; (try with_reducible rfl))
  try simp only [Act.put, List.setIfInBounds_toArray, List.set_cons_zero, List.set_cons_succ]
  refine rgTake (i := 12) (d := 48) (v := ?_) rfl rfl (by kernel_rfl) (by kernel_rfl) (by kernel_rfl) (fun _ _ _ h => h) (by rfl) ?_ (by assumption) ?_
  rotate_left
  · ((intro w hSw); (try dsimp only at hSw); go_simp; (try with_reducible rfl))
  try simp only [Act.put, List.setIfInBounds_toArray, List.set_cons_zero, List.set_cons_succ]
  refine rgTake (i := 13) (d := 49) (v := ?_) rfl rfl (by kernel_rfl) (by kernel_rfl) (by kernel_rfl) (fun _ _ _ h => h) (by rfl) ?_ (by assumption) ?_
  rotate_left
  · ((intro w hSw); (try dsimp only at hSw); (obtain ⟨y0, y1, y2, y3, y4, y5⟩ := CI.below hSw hbb; obtain ⟨z0, z1, z2, z3, z4, z5⟩ := CK.below hSw hbb); go_simp; (try with_reducible rfl))
  try simp only [Act.put, List.setIfInBounds_toArray, List.set_cons_zero, List.set_cons_succ]
  refine rgTake (i := 14) (d := 50) (v := ?_) rfl rfl (by kernel_rfl) (by kernel_rfl) (by kernel_rfl) (fun _ _ _ h => h) (by rfl) ?_ (by assumption) ?_
  rotate_left
  · ((intro w hSw); (try dsimp only at hSw); go_simp; (try with_reducible rfl))
  try simp only [Act.put, List.setIfInBounds_toArray, List.set_cons_zero, List.set_cons_succ]
  refine rgTake (i := 15) (d := 51) (v := ?_) rfl rfl (by kernel_rfl) (by kernel_rfl) (by kernel_rfl) (fun _ _ _ h => h) (by rfl) ?_ (by assumption) ?_
  rotate_left
  · ((intro w hSw); (try dsimp only at hSw); go_simp; (try with_reducible rfl))
  try simp only [Act.put, List.setIfInBounds_toArray, List.set_cons_zero, List.set_cons_succ]
  refine wpAnyH_ready (rs := [16]) (by kernel_rfl) (by simp) ?_
  refine AllReadyH.cons rfl (fun K hK => ?_) AllReadyH.nil
  go_simp
  refine hK.out _ _ ?_ (fun hHeld => ?_)
  · (try dsimp only)
    first | exact G.drew | exact Below.setCell hHeld hg9 _
  clear hK K
  try simp only [Act.put, List.setIfInBounds_toArray, List.set_cons_zero, List.set_cons_succ]
  refine rgTake (i := 17) (d := 52) (v := ?_) rfl rfl (by kernel_rfl) (by kernel_rfl) (by kernel_rfl) (fun _ _ _ h => h) (by rfl) ?_ (by assumption) ?_
  rotate_left
  · ((intro w hSw); (try dsimp only at hSw); go_simp; (try with_reducible rfl))
  try simp only [Act.put, List.setIfInBounds_toArray, List.set_cons_zero, List.set_cons_succ]
  refine rgTake (i := 18) (d := 53) (v := ?_) rfl rfl (by kernel_rfl) (by kernel_rfl) (by kernel_rfl) (fun _ _ _ h => h) (by rfl) ?_ (by assumption) ?_
  rotate_left
  · ((intro w hSw); (try dsimp only at hSw); go_simp; (try with_reducible rfl))
  try simp only [Act.put, List.setIfInBounds_toArray, List.set_cons_zero, List.set_cons_succ]
  refine wpAnyH_ready (rs := [19]) (by kernel_rfl) (by simp) ?_
  refine AllReadyH.cons rfl (fun K hK => ?_) AllReadyH.nil
  go_simp
  refine hK.out _ _ ?_ (fun hHeld => ?_)
  · (try dsimp only)
    first | exact G.drew | exact Below.setCell hHeld hg9 _
  clear hK K
  try simp only [Act.put, List.setIfInBounds_toArray, List.set_cons_zero, List.set_cons_succ]
  refine wpAnyH_done (by kernel_rfl) ?_ _
  go_wp2_with fail
  go_ret2
  rw [HSL.out]
  exact ⟨_, c9, rfl, HO.out, hHeld⟩
set_option maxRecDepth 100000 in
set_option maxHeartbeats 1000000 in
theorem l5Find_any {A : Option Addr} {n c : Nat} {l : List Rn} {x : Int} {w : World} (hA : Rd w w.heap.size 6 A n (rns l)) (hn : n ≤ 1048576) :
    Calls Tryz.prog 79 #[.slice A n c, .int .i64 x] w fun e w' => e = .returned (.int .i64 (idxB (fun c => c.id == x) l 0)) ∧ Below w.heap.size w w' := by
  have HQ := Lib.hid hA.rlen
  go_enter Tryz.func79, Tryz.ntmps79
  go_wp2_with fail
  go_loopw [5] (fun i wr => ∃ j : Nat, j ≤ n ∧ i = .int .i64 j ∧ Hid (∀ (e : Nat) (he : e < l.length), e < j → (l[e].id == x) = false) ∧ Below w.heap.size w wr) (fun i _ => n - (intOf i).toNat)
  case atStart => exact ⟨0, Nat.zero_le _, rfl, (fun j _ h => absurd h (by omega)), Below.refl _ _⟩
  case round =>
    obtain ⟨j, hj, rfl, HN, G⟩ := hrel
    by_cases hlt : j < n
    · obtain ⟨b, off, rfl, hbb, hca⟩ := hA.rn (show 0 < n by omega)
      have kx : j < l.length := by rw [HQ.out]; exact hlt
      have CK := hca j kx
      obtain ⟨c0, c1, c2, c3, c4, c5⟩ := CK.below G hbb
      clear hca
      cases hce : l[j].id == x
      · have HQ9 := Lib.hid hce
        go_wp2_with fail
        go_roundw
        case rel => exact ⟨j + 1, by omega, by go_num, (show ∀ (e : Nat) (he : e < l.length), e < j + 1 → (l[e].id == x) = false from fun e he hej => by
          by_cases ee : e = j
          · subst ee; exact HQ9.out
          · exact HN.out e he (by omega)), G⟩
        case measure => simp [intOf]; omega
      · have HQ9 := Lib.hid hce
        have HX := Lib.hid (idxB_hit (p := fun c => c.id == x) l 0 j kx HQ9.out HN.out)
        go_wp2_with fail
        go_ret
        exact ⟨ret_int (by rw [HX.out]; omega), G⟩
    · have HX := Lib.hid (idxB_miss (p := fun c => c.id == x) l 0 fun j hj => HN.out j hj (by rw [HQ.out] at hj; omega))
      go_wp2_with fail
      go_ret
      exact ⟨ret_int (by rw [HX.out]), G⟩
set_option maxRecDepth 100000 in
set_option maxHeartbeats 4000000 in
theorem SwapCards_spec {R : Option Addr} {q cq : Nat} {l : List Rn} {a b : Int} {w : World} (hR : Rd w w.heap.size 6 R q (rns l)) (hq : q ≤ 1048576) (hqc : q ≤ cq) (hs : ∀ r ∈ l, r.name.size ≤ maxLen ∧ r.club.size ≤ maxLen) :
    Calls Tryz.prog 34 #[.slice R q cq, .int .i64 a, .int .i64 b] w fun e w' => ∃ A cp, e = .returned (.tuple #[.slice A (swR l a b).length cp, .bool (swOk l a b)]) ∧ w'.ownsRow w.heap.size 41 6 (.slice A (swR l a b).length cp) (swR l a b).length (rns (swR l a b)) ∧ Below w.heap.size w w' := by
  have HSZ := Lib.hid hs
  have HQ := Lib.hid hR.rlen
  clear hs
  have G := Below.refl w.heap.size w
  cases hok : okRns l
  · have e1 : swOk l a b = false := by unfold swOk; rw [hok]; rfl
    have e2 : swR l a b = [] := by unfold swR; rw [e1]; rfl
    rw [e1, e2]; clear e1 e2
    have HOK := Lib.hid hok
    clear hok
    go_enter Tryz.func34, Tryz.ntmps34
    go_wp2_with fail
    refine (l5Find_any (x := a) (hR.on G) hq).mono ?_
    rintro e w1 ⟨rfl, hb⟩
    replace G := G.trans (hb.mono G.size)
    clear hb
    rw [show idxB (fun c => c.id == a) l 0 = ixR l a from rfl]
    go_wp2_with fail
    refine (l5Find_any (x := b) (hR.on G) hq).mono ?_
    rintro e w2 ⟨rfl, hb⟩
    replace G := G.trans (hb.mono G.size)
    clear hb
    rw [show idxB (fun c => c.id == b) l 0 = ixR l b from rfl]
    go_wp2_with fail
    refine (l5Good_any (hR.on G) hq hqc HSZ.out).mono ?_
    rintro e w3 ⟨rfl, hb⟩
    replace G := G.trans (hb.mono G.size)
    clear hb
    rw [HOK.out]
    go_wp2_with fail
    go_ret2
    exact ⟨_, 0, rfl, World.ownsRow_lit _ #[] 0 G.size (by simp) rfl, G.alloc G.size _⟩
  have HOK := Lib.hid hok
  by_cases h0 : 0 ≤ ixR l a
  rotate_left
  · have e1 : swOk l a b = false := by unfold swOk; rw [show decide (0 ≤ ixR l a) = false by simpa using h0]; simp
    have e2 : swR l a b = [] := by unfold swR; rw [e1]; rfl
    rw [e1, e2]; clear e1 e2
    have HI := Lib.hid (show ixR l a = -1 from idxB_neg l 0 h0)
    clear hok h0
    go_enter Tryz.func34, Tryz.ntmps34
    go_wp2_with fail
    refine (l5Find_any (x := a) (hR.on G) hq).mono ?_
    rintro e w1 ⟨rfl, hb⟩
    replace G := G.trans (hb.mono G.size)
    clear hb
    rw [show idxB (fun c => c.id == a) l 0 = ixR l a from rfl]
    rw [HI.out]
    go_wp2_with fail
    refine (l5Find_any (x := b) (hR.on G) hq).mono ?_
    rintro e w2 ⟨rfl, hb⟩
    replace G := G.trans (hb.mono G.size)
    clear hb
    rw [show idxB (fun c => c.id == b) l 0 = ixR l b from rfl]
    go_wp2_with fail
    refine (l5Good_any (hR.on G) hq hqc HSZ.out).mono ?_
    rintro e w3 ⟨rfl, hb⟩
    replace G := G.trans (hb.mono G.size)
    clear hb
    rw [HOK.out]
    go_wp2_with fail
    go_ret2
    exact ⟨_, 0, rfl, World.ownsRow_lit _ #[] 0 G.size (by simp) rfl, G.alloc G.size _⟩
  obtain ⟨i9, hi9, hix, hpi, _⟩ := idxB_some l 0 h0
  have hi2 : ixR l a = (i9 : Int) := by unfold ixR; rw [hix]; simp
  have HI := Lib.hid hi2
  by_cases h1 : 0 ≤ ixR l b
  rotate_left
  · have e1 : swOk l a b = false := by unfold swOk; rw [show decide (0 ≤ ixR l b) = false by simpa using h1]; simp
    have e2 : swR l a b = [] := by unfold swR; rw [e1]; rfl
    rw [e1, e2]; clear e1 e2
    have HK := Lib.hid (show ixR l b = -1 from idxB_neg l 0 h1)
    clear hok h0 h1 hix hpi hi2
    go_enter Tryz.func34, Tryz.ntmps34
    go_wp2_with fail
    refine (l5Find_any (x := a) (hR.on G) hq).mono ?_
    rintro e w1 ⟨rfl, hb⟩
    replace G := G.trans (hb.mono G.size)
    clear hb
    rw [show idxB (fun c => c.id == a) l 0 = ixR l a from rfl]
    rw [HI.out]
    go_wp2_with fail
    refine (l5Find_any (x := b) (hR.on G) hq).mono ?_
    rintro e w2 ⟨rfl, hb⟩
    replace G := G.trans (hb.mono G.size)
    clear hb
    rw [show idxB (fun c => c.id == b) l 0 = ixR l b from rfl]
    rw [HK.out]
    go_wp2_with fail
    refine (l5Good_any (hR.on G) hq hqc HSZ.out).mono ?_
    rintro e w3 ⟨rfl, hb⟩
    replace G := G.trans (hb.mono G.size)
    clear hb
    rw [HOK.out]
    go_wp2_with fail
    go_ret2
    exact ⟨_, 0, rfl, World.ownsRow_lit _ #[] 0 G.size (by simp) rfl, G.alloc G.size _⟩
  obtain ⟨k9, hk9, hkx, hpk, _⟩ := idxB_some l 0 h1
  have hk2 : ixR l b = (k9 : Int) := by unfold ixR; rw [hkx]; simp
  have HK := Lib.hid hk2
  by_cases hne : i9 = k9
  · have e1 : swOk l a b = false := by unfold swOk; rw [hi2, hk2, hne]; simp
    have e2 : swR l a b = [] := by unfold swR; rw [e1]; rfl
    rw [e1, e2]; clear e1 e2
    subst hne
    clear hok h0 h1 hix hpi hi2 hkx hpk hk2
    go_enter Tryz.func34, Tryz.ntmps34
    go_wp2_with fail
    refine (l5Find_any (x := a) (hR.on G) hq).mono ?_
    rintro e w1 ⟨rfl, hb⟩
    replace G := G.trans (hb.mono G.size)
    clear hb
    rw [show idxB (fun c => c.id == a) l 0 = ixR l a from rfl]
    rw [HI.out]
    go_wp2_with fail
    refine (l5Find_any (x := b) (hR.on G) hq).mono ?_
    rintro e w2 ⟨rfl, hb⟩
    replace G := G.trans (hb.mono G.size)
    clear hb
    rw [show idxB (fun c => c.id == b) l 0 = ixR l b from rfl]
    rw [HK.out]
    go_wp2_with fail
    refine (l5Good_any (hR.on G) hq hqc HSZ.out).mono ?_
    rintro e w3 ⟨rfl, hb⟩
    replace G := G.trans (hb.mono G.size)
    clear hb
    rw [HOK.out]
    go_wp2_with fail
    go_ret2
    exact ⟨_, 0, rfl, World.ownsRow_lit _ #[] 0 G.size (by simp) rfl, G.alloc G.size _⟩
  have e1 : swOk l a b = true := by unfold swOk; rw [hok, hi2, hk2]; simp; omega
  have e2 : swR l a b = swL l i9 k9 := by unfold swR; rw [e1, if_pos rfl, hi2, hk2]; rfl
  rw [e1, e2]; clear e1 e2
  have hq10 : q ≤ 10 := by have := (okRns_iff hok).1; have := HQ.out; omega
  have hiq : i9 < q := by rw [← HQ.out]; exact hi9
  have hkq : k9 < q := by rw [← HQ.out]; exact hk9
  have ii : (i9 : Int) < (q : Int) := by omega
  have kk : (k9 : Int) < (q : Int) := by omega
  have ik : ¬ ((i9 : Int) = (k9 : Int)) := by omega
  have ikb : ((i9 : Int) == (k9 : Int)) = false := by simp; omega
  have hq0 : 0 < q := by omega
  have HSW := Lib.hid (show rns (swL l i9 k9) = rns ((l.set i9 (withC l[i9] l[k9].card)).set k9 (withC l[k9] l[i9].card)) by unfold swL; rw [rnA_get hi9, rnA_get hk9])
  have HSL := Lib.hid (show (swL l i9 k9).length = q by rw [swL_len]; exact HQ.out)
  obtain ⟨i0, hi0, hz0, hz1, hz2⟩ := info_parts rn_info
  obtain ⟨bl, off, rfl, hbb, hcc⟩ := hR.2 hq0
  obtain ⟨bl', off', hbe, _, hca⟩ := hR.rn hq0
  simp only [Option.some.injEq, Addr.mk.injEq, and_true] at hbe
  obtain ⟨rfl, rfl⟩ := hbe
  have CI := hca i9 hi9
  have CK := hca k9 hk9
  clear hca hok h0 h1 hix hpi hi2 hkx hpk hk2
  go_enter Tryz.func34, Tryz.ntmps34
  go_wp2_with fail
  refine (l5Find_any (x := a) (hR.on G) hq).mono ?_
  rintro e w1 ⟨rfl, hb⟩
  replace G := G.trans (hb.mono G.size)
  clear hb
  rw [show idxB (fun c => c.id == a) l 0 = ixR l a from rfl]
  rw [HI.out]
  go_wp2_with fail
  refine (l5Find_any (x := b) (hR.on G) hq).mono ?_
  rintro e w2 ⟨rfl, hb⟩
  replace G := G.trans (hb.mono G.size)
  clear hb
  rw [show idxB (fun c => c.id == b) l 0 = ixR l b from rfl]
  rw [HK.out]
  go_wp2_with fail
  refine (l5Good_any (hR.on G) hq hqc HSZ.out).mono ?_
  rintro e w3 ⟨rfl, hb⟩
  replace G := G.trans (hb.mono G.size)
  clear hb
  rw [HOK.out]
  have OW : (w3.alloc (.cells #[] 41)).ownsRow w.heap.size 41 6 (.slice (some ⟨w3.heap.size, 0, none⟩) 0 0) 0 [] := World.ownsRow_lit (base := w.heap.size) (size := 6) (e := 41) w3 #[] 0 G.size (by simp) rfl
  replace G := G.alloc G.size (.cells #[] 41)
  go_wp2_with (at_builtin; refine wpList_append_own _ rfl _ _ 47 rfl w.heap.size 41 i0 (.agg #[.int .i64 0, .string ByteArray.empty, .string ByteArray.empty, .int .i64 0, .bool false, .int .i64 0]) 6 64 Tryz.underlying47 hi0 hz0 hz1 hz2 rfl (by decide) _ _ _ rfl OW ⟨bl, off, none⟩ q cq (rns l) rfl (by rw [rns_len, HQ.out]) ?c1 ?c2 ?c3 ?c4 (by have := G.size; first | (simp; done) | (simp; omega) | omega) ?_)
  case c1 => intro j u hu; (try rw [add_none]); exact ((bcell G).1 bl (off + j) hbb).trans (hcc j u hu)
  case c2 => exact rns_one l
  case c3 => simp only [maxLen]; omega
  case c4 => omega
  intro v9 w9 own1 grow1 _
  (try simp only [Nat.zero_add, List.nil_append] at own1)
  obtain ⟨P9, c9, rfl⟩ := own_form own1
  obtain ⟨g9, rfl, hg9, g9lt⟩ := own_at own1 hq0
  replace G := G.grown grow1 G.size (fun k hk => (OW.lt k hk).1)
  clear OW grow1 hcc
  have rl := rns_len l
  have yi : i9 * 6 + 5 < (rns l).length := by rw [rl]; omega
  have yk : k9 * 6 + 5 < (rns l).length := by rw [rl]; omega
  go_upto_region 5 with (fail)
  have HL6 := rns_len l
  have KI := Lib.hid (RnAt.own own1 hi9)
  have KK := Lib.hid (RnAt.own own1 hk9)
  go_cut [11, 12] (fun x y wx => ∃ gx gy, x = .pointer (some ⟨gx, 0, none⟩) ∧ y = .pointer (some ⟨gy, 0, none⟩) ∧ gx ≠ gy ∧ w9.heap.size ≤ gx ∧ w9.heap.size ≤ gy ∧ Blk wx gx 41 l[i9].cells ∧ Blk wx gy 41 l[k9].cells ∧ Below w9.heap.size w9 wx)
  case first =>
    refine wp_region_held_drew (S := fun w' => Below w9.heap.size w9 w') (by kernel_rfl) ?_ (fun hHeld => ?_)
    · (try dsimp only)
      exact (by repeat (first | exact Below.refl _ _ | refine below_drewN ?_ _ | refine Below.drew ?_ | refine Below.alloc ?_ (by first | omega | (simp; done) | (simp; omega)) _ | refine Below.setCell ?_ (by first | omega | (simp; done) | (simp; omega)) _))
    refine rgTake (i := 0) (d := 39) (v := ?_) rfl rfl (by kernel_rfl) (by kernel_rfl) (by kernel_rfl) (fun _ _ _ h => h) (by rfl) ?_ (by assumption) ?_
    rotate_left
    · ((intro w hSw); (try dsimp only at hSw); go_simp; (try with_reducible rfl))
    try simp only [Act.put, List.setIfInBounds_toArray, List.set_cons_zero, List.set_cons_succ]
    refine rgTake (i := 1) (d := 40) (v := ?_) rfl rfl (by kernel_rfl) (by kernel_rfl) (by kernel_rfl) (fun _ _ _ h => h) (by rfl) ?_ (by assumption) ?_
    rotate_left
    · ((intro w hSw); (try dsimp only at hSw); go_simp; (try with_reducible rfl))
    try simp only [Act.put, List.setIfInBounds_toArray, List.set_cons_zero, List.set_cons_succ]
    refine rgTake (i := 2) (d := 41) (v := ?_) rfl rfl (by kernel_rfl) (by kernel_rfl) (by kernel_rfl) (fun _ _ _ h => h) (by rfl) ?_ (by assumption) ?_
    rotate_left
    · ((intro w hSw); (try dsimp only at hSw); go_simp; (try with_reducible rfl))
    try simp only [Act.put, List.setIfInBounds_toArray, List.set_cons_zero, List.set_cons_succ]
    refine rgTake (i := 3) (d := 42) (v := ?_) rfl rfl (by kernel_rfl) (by kernel_rfl) (by kernel_rfl) (fun _ _ _ h => h) (by rfl) ?_ (by assumption) ?_
    rotate_left
    · ((intro w hSw); (try dsimp only at hSw); (obtain ⟨y0, y1, y2, y3, y4, y5⟩ := KI.out.below hSw g9lt; obtain ⟨z0, z1, z2, z3, z4, z5⟩ := KK.out.below hSw g9lt); go_simp; (try with_reducible rfl))
    try simp only [Act.put, List.setIfInBounds_toArray, List.set_cons_zero, List.set_cons_succ]
    refine rgTake (i := 4) (d := 43) (v := ?_) rfl rfl (by kernel_rfl) (by kernel_rfl) (by kernel_rfl) (fun _ _ _ h => h) (by rfl) ?_ (by assumption) ?_
    rotate_left
    · ((intro w hSw); (try dsimp only at hSw); go_simp; (try with_reducible rfl))
    try simp only [Act.put, List.setIfInBounds_toArray, List.set_cons_zero, List.set_cons_succ]
    refine rgTake (i := 5) (d := 44) (v := ?_) rfl rfl (by kernel_rfl) (by kernel_rfl) (by kernel_rfl) (fun _ _ _ h => h) (by rfl) ?_ (by assumption) ?_
    rotate_left
    · ((intro w hSw); (try dsimp only at hSw); go_simp; (try with_reducible rfl))
    try simp only [Act.put, List.setIfInBounds_toArray, List.set_cons_zero, List.set_cons_succ]
    refine rgTake (i := 6) (d := 45) (v := ?_) rfl rfl (by kernel_rfl) (by kernel_rfl) (by kernel_rfl) (fun _ _ _ h => h) (by rfl) ?_ (by assumption) ?_
    rotate_left
    · ((intro w hSw); (try dsimp only at hSw); go_simp; (try with_reducible rfl))
    try simp only [Act.put, List.setIfInBounds_toArray, List.set_cons_zero, List.set_cons_succ]
    refine rgTake (i := 7) (d := 46) (v := ?_) rfl rfl (by kernel_rfl) (by kernel_rfl) (by kernel_rfl) (fun _ _ _ h => h) (by rfl) ?_ (by assumption) ?_
    rotate_left
    · ((intro w hSw); (try dsimp only at hSw); (obtain ⟨y0, y1, y2, y3, y4, y5⟩ := KI.out.below hSw g9lt; obtain ⟨z0, z1, z2, z3, z4, z5⟩ := KK.out.below hSw g9lt); go_simp; (try with_reducible rfl))
    try simp only [Act.put, List.setIfInBounds_toArray, List.set_cons_zero, List.set_cons_succ]
    refine wpAnyH_ready (rs := [8, 9]) (by kernel_rfl) (by simp) ?_
    refine AllReadyH.cons rfl (fun K hK => ?_) ?_
    ·
      go_simp
      refine hK.out _ _ ?_ (fun hHeld => ?_)
      · (try dsimp only)
        exact (by repeat (first | exact Below.refl _ _ | refine below_drewN ?_ _ | refine Below.drew ?_ | refine Below.alloc ?_ (by first | omega | (simp; done) | (simp; omega)) _ | refine Below.setCell ?_ (by first | omega | (simp; done) | (simp; omega)) _))
      clear hK K
      try simp only [Act.put, List.setIfInBounds_toArray, List.set_cons_zero, List.set_cons_succ]
      refine wpAnyH_ready (rs := [9]) (by kernel_rfl) (by simp) ?_
      refine AllReadyH.cons rfl (fun K hK => ?_) AllReadyH.nil
      go_simp
      refine hK.out _ _ ?_ (fun hHeld => ?_)
      · (try dsimp only)
        exact (by repeat (first | exact Below.refl _ _ | refine below_drewN ?_ _ | refine Below.drew ?_ | refine Below.alloc ?_ (by first | omega | (simp; done) | (simp; omega)) _ | refine Below.setCell ?_ (by first | omega | (simp; done) | (simp; omega)) _))
      clear hK K
      try simp only [Act.put, List.setIfInBounds_toArray, List.set_cons_zero, List.set_cons_succ]
      refine wpAnyH_ready (rs := [10]) (by kernel_rfl) (by simp) ?_
      refine AllReadyH.cons rfl (fun K hK => ?_) AllReadyH.nil
      go_simp
      refine hK.out _ _ ?_ (fun hHeld => ?_)
      · (try dsimp only)
        exact (by repeat (first | exact Below.refl _ _ | refine below_drewN ?_ _ | refine Below.drew ?_ | refine Below.alloc ?_ (by first | omega | (simp; done) | (simp; omega)) _ | refine Below.setCell ?_ (by first | omega | (simp; done) | (simp; omega)) _))
      clear hK K
      try simp only [Act.put, List.setIfInBounds_toArray, List.set_cons_zero, List.set_cons_succ]
      refine wpAnyH_ready (rs := [11]) (by kernel_rfl) (by simp) ?_
      refine AllReadyH.cons rfl (fun K hK => ?_) AllReadyH.nil
      go_simp
      refine hK.out _ _ ?_ (fun hHeld => ?_)
      · (try dsimp only)
        exact (by repeat (first | exact Below.refl _ _ | refine below_drewN ?_ _ | refine Below.drew ?_ | refine Below.alloc ?_ (by first | omega | (simp; done) | (simp; omega)) _ | refine Below.setCell ?_ (by first | omega | (simp; done) | (simp; omega)) _))
      clear hK K
      try simp only [Act.put, List.setIfInBounds_toArray, List.set_cons_zero, List.set_cons_succ]
      refine wpAnyH_done (by kernel_rfl) ?_ _
      go_wp2_with fail
      go_meet
      first | (obtain ⟨B1, B2⟩ := two_blk w9 41 l[i9].cells l[k9].cells; exact ⟨_, _, rfl, rfl, by omega, by omega, by omega, B1, B2, hHeld⟩) | (obtain ⟨B1, B2⟩ := two_blk w9 41 l[k9].cells l[i9].cells; exact ⟨_, _, rfl, rfl, by omega, by omega, by omega, B2, B1, hHeld⟩)
    refine AllReadyH.cons rfl (fun K hK => ?_) ?_
    ·
      go_simp
      refine hK.out _ _ ?_ (fun hHeld => ?_)
      · (try dsimp only)
        exact (by repeat (first | exact Below.refl _ _ | refine below_drewN ?_ _ | refine Below.drew ?_ | refine Below.alloc ?_ (by first | omega | (simp; done) | (simp; omega)) _ | refine Below.setCell ?_ (by first | omega | (simp; done) | (simp; omega)) _))
      clear hK K
      try simp only [Act.put, List.setIfInBounds_toArray, List.set_cons_zero, List.set_cons_succ]
      refine wpAnyH_ready (rs := [8]) (by kernel_rfl) (by simp) ?_
      refine AllReadyH.cons rfl (fun K hK => ?_) AllReadyH.nil
      go_simp
      refine hK.out _ _ ?_ (fun hHeld => ?_)
      · (try dsimp only)
        exact (by repeat (first | exact Below.refl _ _ | refine below_drewN ?_ _ | refine Below.drew ?_ | refine Below.alloc ?_ (by first | omega | (simp; done) | (simp; omega)) _ | refine Below.setCell ?_ (by first | omega | (simp; done) | (simp; omega)) _))
      clear hK K
      try simp only [Act.put, List.setIfInBounds_toArray, List.set_cons_zero, List.set_cons_succ]
      refine wpAnyH_ready (rs := [10]) (by kernel_rfl) (by simp) ?_
      refine AllReadyH.cons rfl (fun K hK => ?_) AllReadyH.nil
      go_simp
      refine hK.out _ _ ?_ (fun hHeld => ?_)
      · (try dsimp only)
        exact (by repeat (first | exact Below.refl _ _ | refine below_drewN ?_ _ | refine Below.drew ?_ | refine Below.alloc ?_ (by first | omega | (simp; done) | (simp; omega)) _ | refine Below.setCell ?_ (by first | omega | (simp; done) | (simp; omega)) _))
      clear hK K
      try simp only [Act.put, List.setIfInBounds_toArray, List.set_cons_zero, List.set_cons_succ]
      refine wpAnyH_ready (rs := [11]) (by kernel_rfl) (by simp) ?_
      refine AllReadyH.cons rfl (fun K hK => ?_) AllReadyH.nil
      go_simp
      refine hK.out _ _ ?_ (fun hHeld => ?_)
      · (try dsimp only)
        exact (by repeat (first | exact Below.refl _ _ | refine below_drewN ?_ _ | refine Below.drew ?_ | refine Below.alloc ?_ (by first | omega | (simp; done) | (simp; omega)) _ | refine Below.setCell ?_ (by first | omega | (simp; done) | (simp; omega)) _))
      clear hK K
      try simp only [Act.put, List.setIfInBounds_toArray, List.set_cons_zero, List.set_cons_succ]
      refine wpAnyH_done (by kernel_rfl) ?_ _
      go_wp2_with fail
      go_meet
      first | (obtain ⟨B1, B2⟩ := two_blk w9 41 l[i9].cells l[k9].cells; exact ⟨_, _, rfl, rfl, by omega, by omega, by omega, B1, B2, hHeld⟩) | (obtain ⟨B1, B2⟩ := two_blk w9 41 l[k9].cells l[i9].cells; exact ⟨_, _, rfl, rfl, by omega, by omega, by omega, B2, B1, hHeld⟩)
    exact AllReadyH.nil
  case rest =>
    obtain ⟨gx, gy, rfl, rfl, hxy, hgx, hgy, X, Y, hb⟩ := hcut
    have A1 := own_below own1 hb
    have hGw := G.size
    replace G := G.trans (hb.mono G.size)
    clear own1 KI KK
    have ri : l[i9].cells.set 5 (.int .i64 l[k9].card) = (withC l[i9] l[k9].card).cells := rfl
    have rk : l[k9].cells.set 5 (.int .i64 l[i9].card) = (withC l[k9] l[i9].card).cells := rfl
    obtain ⟨a0, a1, a2, a3, a4, a5⟩ := CK.below G hbb
    have x5 := X.cell 5
    have f5 := X.frozen 5
    have X1 := X.set_ 5 (.int .i64 l[k9].card)
    have Y1 := Y.far (p := ⟨gx, 5, none⟩) (Ne.symm hxy) (.int .i64 l[k9].card)
    have A2 := own_far A1 (p := ⟨gx, 5, none⟩) (fun h => by simp at h; omega) (.int .i64 l[k9].card)
    have G1 := Below.setCell (p := ⟨gx, 5, none⟩) G (by simp; omega) (.int .i64 l[k9].card)
    rw [ri] at X1
    clear X Y A1 hb
    go_upto_region 7 with (fail)
    clear a0 a1 a2 a3 a4 a5 x5 f5 G
    obtain ⟨a0, a1, a2, a3, a4, a5⟩ := CI.below G1 hbb
    have y5 := Y1.cell 5
    have f5 := Y1.frozen 5
    have Y2 := Y1.set_ 5 (.int .i64 l[i9].card)
    have X2 := X1.far (p := ⟨gy, 5, none⟩) hxy (.int .i64 l[i9].card)
    have A3 := own_far A2 (p := ⟨gy, 5, none⟩) (fun h => by simp at h; omega) (.int .i64 l[i9].card)
    have G2 := Below.setCell (p := ⟨gy, 5, none⟩) G1 (by simp; omega) (.int .i64 l[i9].card)
    rw [rk] at Y2
    clear X1 Y1 A2
    go_upto_region 8 with (fail)
    clear a0 a1 a2 a3 a4 a5 y5 f5 G1
    generalize hRI : withC l[i9] l[k9].card = rI at *
    generalize hRK : withC l[k9] l[i9].card = rK at *
    clear hRI hRK
    obtain ⟨a0, a1, a2, a3, a4, a5⟩ := RnAt.blk (r := rI) X2
    simp only [Nat.zero_add] at a1 a2 a3 a4 a5
    obtain ⟨b0, b1, b2, b3, b4, b5⟩ := RnAt.own A3 hi9
    have f0 := A3.frozenAt (i9 * 6)
    have f1 := A3.frozenAt (i9 * 6 + 1)
    have f2 := A3.frozenAt (i9 * 6 + 2)
    have f3 := A3.frozenAt (i9 * 6 + 3)
    have f4 := A3.frozenAt (i9 * 6 + 4)
    have f5 := A3.frozenAt (i9 * 6 + 5)
    have A4 := own_put6 rI A3 hi9
    have Y3 := Y2.far6 (g' := g9) (by omega) (i9 * 6) rI
    have G3 := below_put6 G2 hg9 (i9 * 6) rI
    clear A3 Y2 X2
    go_upto_region 9 with (fail)
    clear a0 a1 a2 a3 a4 a5 b0 b1 b2 b3 b4 b5 f0 f1 f2 f3 f4 f5 G2
    obtain ⟨a0, a1, a2, a3, a4, a5⟩ := RnAt.blk (r := rK) Y3
    simp only [Nat.zero_add] at a1 a2 a3 a4 a5
    obtain ⟨b0, b1, b2, b3, b4, b5⟩ := RnAt.own A4 (show k9 < (l.set i9 rI).length by rw [List.length_set]; exact hk9)
    have f0 := A4.frozenAt (k9 * 6)
    have f1 := A4.frozenAt (k9 * 6 + 1)
    have f2 := A4.frozenAt (k9 * 6 + 2)
    have f3 := A4.frozenAt (k9 * 6 + 3)
    have f4 := A4.frozenAt (k9 * 6 + 4)
    have f5 := A4.frozenAt (k9 * 6 + 5)
    have A5 := own_put6 rK A4 (show k9 < (l.set i9 rI).length by rw [List.length_set]; exact hk9)
    have G4 := below_put6 G3 hg9 (k9 * 6) rK
    rw [← HSW.out] at A5
    have HO := Lib.hid A5
    have HG := Lib.hid G4
    clear A4 A5 Y3 G3 G4
    go_wp2_with fail
    go_ret2
    rw [HSL.out]
    have h1 := HO.out
    have h2 := HG.out
    exact ⟨_, c9, rfl, h1, h2⟩
end Go.Proofs.YtmmpcchjalgokaaGreatDoor
