/- Contract: slices.Insert of one runner into a row of runners of the call's own. -/
import Derived.Test.YtmmpcchjalgokaaGreatDoorRns
import Derived.Test.YtmmpcchjalgokaaGreatDoorRg2
import Derived.Test.YtmmpcchjalgokaaGreatDoorApp
import Derived.Lib.Overlaps
import Derived.Lib.AppendZerosOnto
import Derived.Deep.DeepCutAuto
namespace Go.Proofs.YtmmpcchjalgokaaGreatDoor
set_option linter.unusedVariables false
set_option linter.unusedSimpArgs false
open Go.RowKit
theorem splice_shift {α : Type} (X T C : List α) (p q n : Nat) (hp : p ≤ X.length) (hq : q = p + C.length) (hn : n = X.length + C.length) (hl : n ≤ (X ++ T).length) :
    (splice (splice (X ++ T) q (X.drop p)) p C).take n = X.take p ++ C ++ X.drop p := by
  subst hq; subst hn
  unfold splice
  have hlen : ((X ++ T).take (p + C.length)).length = p + C.length := by rw [List.length_take]; omega
  have e1 : ((X ++ T).take (p + C.length) ++ (X.drop p ++ (X ++ T).drop (p + C.length + (X.drop p).length))).take p = X.take p := by
    rw [List.take_append_of_le_length (by omega), List.take_take, Nat.min_eq_left (by omega), List.take_append_of_le_length hp]
  have e2 : ((X ++ T).take (p + C.length) ++ (X.drop p ++ (X ++ T).drop (p + C.length + (X.drop p).length))).drop (p + C.length) = X.drop p ++ (X ++ T).drop (p + C.length + (X.drop p).length) := by
    rw [List.drop_append_of_le_length (by omega), List.drop_of_length_le (by omega), List.nil_append]
  rw [e1, e2, show X.take p ++ (C ++ (X.drop p ++ (X ++ T).drop (p + C.length + (X.drop p).length))) = (X.take p ++ C ++ X.drop p) ++ (X ++ T).drop (p + C.length + (X.drop p).length) by simp]
  rw [List.take_append_of_le_length (by simp; omega)]
  exact List.take_of_length_le (by simp; omega)
theorem splice_grow {α : Type} (R X C : List α) (p q n : Nat) (hp : p ≤ X.length) (hR : R.take p = X.take p) (hq : q = p + C.length) (hn : n = X.length + C.length) (hl : n ≤ R.length) :
    (splice (splice R p C) q (X.drop p)).take n = X.take p ++ C ++ X.drop p := by
  subst hq; subst hn
  unfold splice
  rw [hR]
  have hlx : (X.take p).length = p := by rw [List.length_take]; omega
  have e1 : (X.take p ++ (C ++ R.drop (p + C.length))).take (p + C.length) = X.take p ++ C := by
    rw [← List.append_assoc, List.take_append_of_le_length (by simp; omega)]
    exact List.take_of_length_le (by simp; omega)
  rw [e1, ← List.append_assoc (X.take p ++ C), List.take_append_of_le_length (by simp; omega)]
  exact List.take_of_length_le (by simp; omega)
theorem Blk.shape {w : World} {g : Nat} {t : TypeId} {cs : List Value} (h : Blk w g t cs) : w.shape? g = some (t, cs.length) := by
  unfold Blk at h
  simp [World.shape?, h]
theorem rns_take (l : List Rn) (i : Nat) (hi : i ≤ l.length) : (rns l).take (i * 6) = rns (l.take i) := by
  have e : rns l = rns (l.take i) ++ rns (l.drop i) := by unfold rns; rw [← List.flatMap_append, List.take_append_drop]
  have hl : (rns (l.take i)).length = i * 6 := by rw [rns_len, List.length_take, Nat.min_eq_left hi]
  rw [e, List.take_append_of_le_length (by omega), List.take_of_length_le (by omega)]
theorem rns_drop (l : List Rn) (i : Nat) (hi : i ≤ l.length) : (rns l).drop (i * 6) = rns (l.drop i) := by
  have e : rns l = rns (l.take i) ++ rns (l.drop i) := by unfold rns; rw [← List.flatMap_append, List.take_append_drop]
  have hl : (rns (l.take i)).length = i * 6 := by rw [rns_len, List.length_take, Nat.min_eq_left hi]
  rw [e, List.drop_append_of_le_length (by omega), List.drop_of_length_le (by omega), List.nil_append]
def insL (l : List Rn) (i : Nat) (r : Rn) : List Rn := l.take i ++ r :: l.drop i
theorem insL_len {l : List Rn} {i : Nat} {r : Rn} (hi : i ≤ l.length) : (insL l i r).length = l.length + 1 := by simp [insL]; omega
theorem rns_ins (l : List Rn) (i : Nat) (r : Rn) (hi : i ≤ l.length) : (rns l).take (i * 6) ++ r.cells ++ (rns l).drop (i * 6) = rns (insL l i r) := by
  rw [rns_take l i hi, rns_drop l i hi]
  unfold rns insL
  rw [List.flatMap_append, List.flatMap_cons, List.append_assoc]
theorem rn_one (r : Rn) : ∀ u ∈ r.cells, u.oneCell' = true := by
  intro u hu
  simp [Rn.cells] at hu
  rcases hu with rfl | rfl | rfl | rfl | rfl | rfl <;> rfl
theorem rns_one' (l : List Rn) : ∀ u ∈ rns l, u.oneCell' = true := by
  intro u hu
  obtain ⟨c, _, hu⟩ := List.mem_flatMap.1 hu
  exact rn_one c u hu
theorem addl (g o j : Nat) : (⟨g, o, none⟩ : Addr).add j = ⟨g, o + j, none⟩ := by unfold Addr.add; split <;> simp_all
theorem grown_new {a b c : World} {row : Option Nat} {H : Nat} (h : a.grownBy b row) (k : b.grownBy c (some H)) (hH : a.heap.size ≤ H) : a.grownBy c row :=
  ⟨k.os.trans h.os, k.tape.trans h.tape, k.output.trans h.output, Nat.le_trans h.size k.size, fun j hj hr => (k.block j (Nat.lt_of_lt_of_le hj h.size) (fun e => by have := Option.some.inj e; omega)).trans (h.block j hj hr)⟩
theorem size_rn (w : World) : (Go.sizeOf 41).run Tryz.prog w = .ok 6 w := by
  obtain ⟨i0, hi0, _, hz1, _⟩ := info_parts rn_info
  simp [sizeOf, typeInfo, hi0, hz1]
set_option maxRecDepth 100000 in
set_option maxHeartbeats 4000000 in
theorem insert_end {A : Option Addr} {n c base vb : Nat} {l : List Rn} {r : Rn} {w : World} (hown : w.ownsRow base 41 6 (.slice A n c) n (rns l)) (hV : Blk w vb 41 r.cells) (hn : n ≤ 1000) (hb : base ≤ w.heap.size) :
    Calls Tryz.prog 74 #[.slice A n c, .int .i64 (n : Int), .slice (some ⟨vb, 0, none⟩) 1 1] w fun e w' => ∃ A' c', e = .returned (.slice A' (n + 1) c') ∧ n + 1 ≤ c' ∧ w'.ownsRow base 41 6 (.slice A' (n + 1) c') (n + 1) (rns (insL l n r)) ∧ w.grownBy w' (Value.slice A n c).ownBlock := by
  obtain ⟨i0, hi0, hz0, hz1, hz2⟩ := info_parts rn_info
  have hll : l.length = n := by have := hown.1; rw [rns_len] at this; omega
  have HE : Hid (rns (insL l n r) = rns l ++ r.cells) := by
    show _ = _
    unfold insL rns
    rw [← hll]
    simp
  have hcap := own_cap hown
  have hVR : Rd w w.heap.size 6 (some ⟨vb, 0, none⟩) 1 r.cells := hV.rd (size := 6) (n := 1) rfl
  clear hll
  have fin : ∀ A' cap w', n + 1 ≤ cap → w'.ownsRow base 41 6 (.slice A' (n + 1) cap) (n + 1) (rns l ++ r.cells) → w.grownBy w' (Value.slice A n c).ownBlock → ∃ A2 c2, Ending.returned (.slice A' (n + 1) cap) = .returned (.slice A2 (n + 1) c2) ∧ n + 1 ≤ c2 ∧ w'.ownsRow base 41 6 (.slice A2 (n + 1) c2) (n + 1) (rns (insL l n r)) ∧ w.grownBy w' (Value.slice A n c).ownBlock :=
    fun A' cap w' h1 h2 h3 => ⟨A', cap, rfl, h1, by rw [HE.out]; exact h2, h3⟩
  have FIN := Lib.hid fin
  clear fin
  rcases hown.2 with ⟨hv, h0⟩ | ⟨g, cap, cur, hv, _⟩
  · simp only [Value.slice.injEq] at hv
    obtain ⟨rfl, rfl, rfl⟩ := hv
    go_enter Tryz.func74, Tryz.ntmps74
    go_wp2_with (at_builtin; refine wpList_append_rd rfl _ _ 47 rfl base 41 i0 (.agg #[.int .i64 0, .string ByteArray.empty, .string ByteArray.empty, .int .i64 0, .bool false, .int .i64 0]) 6 64 Tryz.underlying47 hi0 hz0 hz1 hz2 rfl (by decide) _ _ _ rfl hown _ _ _ w.heap.size _ rfl hVR (rn_one r) ?c1 ?c2 hb ?_)
    case c1 => simp only [maxLen]; omega
    intro A' cap w' h1 h2 h3 _
    have HH := Lib.hid (And.intro h1 (And.intro h2 h3))
    clear h1 h2 h3
    go_wp2_with fail
    go_ret
    exact FIN.out _ _ _ HH.out.1 HH.out.2.1 HH.out.2.2
  · simp only [Value.slice.injEq] at hv
    obtain ⟨rfl, _, rfl⟩ := hv
    by_cases hcn : c = n
    · subst hcn
      go_enter Tryz.func74, Tryz.ntmps74
      go_wp2_with (at_builtin; refine wpList_append_rd rfl _ _ 47 rfl base 41 i0 (.agg #[.int .i64 0, .string ByteArray.empty, .string ByteArray.empty, .int .i64 0, .bool false, .int .i64 0]) 6 64 Tryz.underlying47 hi0 hz0 hz1 hz2 rfl (by decide) _ _ _ rfl hown _ _ _ w.heap.size _ rfl hVR (rn_one r) ?d1 ?d2 hb ?_)
      case d1 => simp only [maxLen]; omega
      case d2 => omega
      intro A' cap w' h1 h2 h3 _
      have HH := Lib.hid (And.intro h1 (And.intro h2 h3))
      clear h1 h2 h3
      go_wp2_with fail
      go_ret
      exact FIN.out _ _ _ HH.out.1 HH.out.2.1 HH.out.2.2
    · have hcn1 : n < c := by omega
      go_enter Tryz.func74, Tryz.ntmps74
      go_wp2_with (at_builtin; refine wpList_append_rd rfl _ _ 47 rfl base 41 i0 (.agg #[.int .i64 0, .string ByteArray.empty, .string ByteArray.empty, .int .i64 0, .bool false, .int .i64 0]) 6 64 Tryz.underlying47 hi0 hz0 hz1 hz2 rfl (by decide) _ _ _ rfl hown _ _ _ w.heap.size _ rfl hVR (rn_one r) ?f1 ?f2 hb ?_)
      case f1 => simp only [maxLen]; omega
      case f2 => omega
      intro A' cap w' h1 h2 h3 _
      have HH := Lib.hid (And.intro h1 (And.intro h2 h3))
      clear h1 h2 h3
      go_wp2_with fail
      go_ret
      exact FIN.out _ _ _ HH.out.1 HH.out.2.1 HH.out.2.2
set_option maxRecDepth 100000 in
set_option maxHeartbeats 4000000 in
theorem insert_shift {n c i base vb g : Nat} {l : List Rn} {r : Rn} {w : World} (hown : w.ownsRow base 41 6 (.slice (some ⟨g, 0, none⟩) n c) n (rns l)) (hV : Blk w vb 41 r.cells) (hne : vb ≠ g) (hi : i < n) (hn : n ≤ 1000) (hb : base ≤ w.heap.size) (hroom : n + 1 ≤ c) :
    Calls Tryz.prog 74 #[.slice (some ⟨g, 0, none⟩) n c, .int .i64 (i : Int), .slice (some ⟨vb, 0, none⟩) 1 1] w fun e w' => ∃ A' c', e = .returned (.slice A' (n + 1) c') ∧ n + 1 ≤ c' ∧ w'.ownsRow base 41 6 (.slice A' (n + 1) c') (n + 1) (rns (insL l i r)) ∧ w.grownBy w' (some g) := by
  obtain ⟨i0, hi0, hz0, hz1, hz2⟩ := info_parts rn_info
  have hsz : (Tryz.prog.info? 41).map (·.size) = some 6 := by rw [hi0]; simp [hz1]
  have hll : l.length = n := by have := hown.1; rw [rns_len] at this; omega
  have HLL := Lib.hid hll
  have hrl := rns_len l
  rw [hll] at hrl
  have HRL := Lib.hid hrl
  have HRN := Lib.hid (rns_ins l i r (by omega))
  obtain ⟨cur, hbg, hB, hnc, hcm, hcs, htk⟩ : ∃ cur : List Value, base ≤ g ∧ Blk w g 41 cur ∧ n ≤ c ∧ c ≤ maxLen ∧ cur.length = c * 6 ∧ cur.take (n * 6) = rns l := by
    rcases hown.2 with ⟨hv, _⟩ | ⟨g', cap, cur, hv, h1, h2, h3, h4, h5, h6⟩
    · cases hv
    · simp only [Value.slice.injEq, Option.some.injEq, Addr.mk.injEq, and_true, true_and] at hv
      obtain ⟨rfl, rfl⟩ := hv
      exact ⟨cur.toList, h1, h2, h3, h4, by simpa using h5, h6⟩
  unfold maxLen at hcm
  have hgl := hB.lt
  have hvl := hV.lt
  obtain ⟨D, hD⟩ : ∃ D, D = (rns l).drop (i * 6) := ⟨_, rfl⟩
  have hDl : D.length = (n - i) * 6 := by rw [hD, List.length_drop, hrl]; omega
  have HD := Lib.hid hD
  have HDL := Lib.hid hDl
  have hDone : ∀ v ∈ D, v.oneCell' = true := fun v hv => rns_one' l v (List.mem_of_mem_drop (by rw [hD] at hv; exact hv))
  have HDO := Lib.hid hDone
  have hDc : ∀ (W : World), Blk W g 41 cur → ∀ j v, D[j]? = some v → W.cell? ⟨g, i * 6 + j, none⟩ = some v := fun W hW j v hj => by
    rw [hW.cell]
    rw [hD, List.getElem?_drop] at hj
    have hjl := (List.getElem?_eq_some_iff.1 hj).1
    rw [← htk, List.getElem?_take, if_pos (by rw [hrl] at hjl; exact hjl)] at hj
    exact hj
  have HDC := Lib.hid hDc
  have HTK := Lib.hid htk
  have HCS := Lib.hid hcs
  have e1 : IntKind.i64.wrap ((i : Int) + 1) = (i : Int) + 1 := IntWalk.i64_in _ (by omega)
  have e2 : ((i : Int) + 1).toNat = i + 1 := by omega
  have e3 : (0 : Int) ≤ (i : Int) + 1 := by omega
  have e4 : ¬ ((i : Int) = (n : Int)) := by omega
  have e5 : (i : Int) ≤ (n : Int) := by omega
  have e6 : ¬ (c = i) := by omega
  have e11 : (i : Int) ≤ (n : Int) + 1 := by omega
  clear hll hrl htk hcs hD hDl hDone hDc
  have hov : ∀ off lb cb, (callFunc 91 #[.slice (some ⟨vb, 0, none⟩) 1 1, .slice (some ⟨g, off, none⟩) lb cb]).run Tryz.prog w = .ok (.value (.bool false)) w := fun off lb cb => by
    rw [run_callFunc_extern Tryz.func91 (by kernel_rfl) (by kernel_rfl) (by kernel_rfl) (e := Extern.SlicesOverlaps.overlaps #[47, 47] #[4]) (by kernel_rfl),
      Lib.run_overlaps_apart w 47 4 41 Tryz.underlying47 6 size_rn ⟨vb, 0, none⟩ ⟨g, off, none⟩ 1 1 lb cb hne 41 41 r.cells.length cur.length hV.shape hB.shape (by rw [HCS.out]; omega) (hV.frozen 0) (hV.frozen _)]
    rfl
  have e7 : ¬ (c = i + 1) := by omega
  clear hown
  go_enter Tryz.func74, Tryz.ntmps74
  go_wp2_with (simp only [hov])
  clear hov
  refine wp_region_held_drew (S := fun _ => True) (by kernel_rfl) ?_ (fun hHeld => ?_)
  · (try dsimp only)
    all_goals exact trivial
  refine rgTake (i := 0) (d := 69) (v := ?_) rfl rfl (by kernel_rfl) (by kernel_rfl) (by kernel_rfl) (fun _ _ _ h => h) (by rfl) ?_ (by assumption) ?_
  rotate_left
  · ((intro w hSw); (try dsimp only at hSw); go_simp; (try with_reducible rfl))
  try simp only [Act.put, List.setIfInBounds_toArray, List.set_cons_zero, List.set_cons_succ]
  refine rgTake (i := 1) (d := 70) (v := ?_) rfl rfl (by kernel_rfl) (by kernel_rfl) (by kernel_rfl) (fun _ _ _ h => h) (by rfl) ?_ (by assumption) ?_
  rotate_left
  · ((intro w hSw); (try dsimp only at hSw); go_simp; (try with_reducible rfl))
  try simp only [Act.put, List.setIfInBounds_toArray, List.set_cons_zero, List.set_cons_succ]
  refine rgTake (i := 2) (d := 71) (v := ?_) rfl rfl (by kernel_rfl) (by kernel_rfl) (by kernel_rfl) (fun _ _ _ h => h) (by rfl) ?_ (by assumption) ?_
  rotate_left
  · ((intro w hSw); (try dsimp only at hSw); go_simp; (try with_reducible rfl))
  try simp only [Act.put, List.setIfInBounds_toArray, List.set_cons_zero, List.set_cons_succ]
  refine rgTake (i := 3) (d := 72) (v := ?_) rfl rfl (by kernel_rfl) (by kernel_rfl) (by kernel_rfl) (fun _ _ _ h => h) (by rfl) ?_ (by assumption) ?_
  rotate_left
  · ((intro w hSw); (try dsimp only at hSw); go_simp; (try with_reducible rfl))
  try simp only [Act.put, List.setIfInBounds_toArray, List.set_cons_zero, List.set_cons_succ]
  refine rgTake (i := 4) (d := 73) (v := ?_) rfl rfl (by kernel_rfl) (by kernel_rfl) (by kernel_rfl) (fun _ _ _ h => h) (by rfl) ?_ (by assumption) ?_
  rotate_left
  · ((intro w hSw); (try dsimp only at hSw); go_simp; (try with_reducible rfl))
  try simp only [Act.put, List.setIfInBounds_toArray, List.set_cons_zero, List.set_cons_succ]
  refine rgTake (i := 5) (d := 74) (v := ?_) rfl rfl (by kernel_rfl) (by kernel_rfl) (by kernel_rfl) (fun _ _ _ h => h) (by rfl) ?_ (by assumption) ?_
  rotate_left
  · ((intro w hSw); (try dsimp only at hSw); go_simp; (try with_reducible rfl))
  try simp only [Act.put, List.setIfInBounds_toArray, List.set_cons_zero, List.set_cons_succ]
  refine rgTake (i := 6) (d := 75) (v := ?_) rfl rfl (by kernel_rfl) (by kernel_rfl) (by kernel_rfl) (fun _ _ _ h => h) (by rfl) ?_ (by assumption) ?_
  rotate_left
  · ((intro w hSw); (try dsimp only at hSw); go_simp; (try with_reducible rfl))
  try simp only [Act.put, List.setIfInBounds_toArray, List.set_cons_zero, List.set_cons_succ]
  refine rgTake (i := 7) (d := 76) (v := ?_) rfl rfl (by kernel_rfl) (by kernel_rfl) (by kernel_rfl) (fun _ _ _ h => h) (by rfl) ?_ (by assumption) ?_
  rotate_left
  · ((intro w hSw); (try dsimp only at hSw); go_simp; (try with_reducible rfl))
  try simp only [Act.put, List.setIfInBounds_toArray, List.set_cons_zero, List.set_cons_succ]
  refine wpAnyH_ready (rs := [8]) (by kernel_rfl) (by simp) ?_
  refine AllReadyH.cons rfl (fun K hK => ?_) AllReadyH.nil
  refine step_copy_k rfl (.tmp 73) (.tmp 76) 47 47 rfl 41 6 Tryz.underlying47 hsz g ((i + 1) * 6) _ _ ⟨g, i * 6, none⟩ _ _ rfl rfl cur 41 hB.drew D (by rw [HDL.out]; simp only [Nat.min_def]; split <;> omega) (fun j v hj => by rw [addl]; exact HDC.out _ hB.drew j v hj) (by rw [HDL.out, HCS.out]; omega) HDO.out ?_; intro w4 h4 c4
  refine hK.out _ _ ?_ (fun hHeld => ?_)
  · (try dsimp only)
    all_goals exact trivial
  clear hK K
  try simp only [Act.put, List.setIfInBounds_toArray, List.set_cons_zero, List.set_cons_succ]
  refine wpAnyH_done (by kernel_rfl) ?_ _
  have G4 : w.grownBy w4 (some g) := ⟨c4.os, c4.tape, c4.output, c4.size, c4.block⟩
  have V4 : Blk w4 vb 41 r.cells := hV.grown G4 (fun e => hne (Option.some.inj e))
  clear c4 hHeld
  have hmin : Nat.min 1 (n + 1 - i) = 1 := Nat.min_eq_left (by omega)
  have HM := Lib.hid hmin
  clear hmin
  have HSL := Lib.hid (length_splice cur ((i + 1) * 6) D (by rw [HDL.out, HCS.out]; omega))
  go_wp2_with (refine wpList_copy_k rfl (.tmp 80) (.tmp 81) 47 47 rfl 41 6 Tryz.underlying47 hsz g (i * 6) _ _ ⟨vb, 0, none⟩ _ _ rfl rfl (splice cur ((i + 1) * 6) D) 41 h4 r.cells ?e1 ?e2 ?e3 (rn_one r) ?_)
  case e1 => rw [HM.out]; rfl
  case e2 => intro j v hj; rw [addl, V4.cell, Nat.zero_add]; exact hj
  case e3 => rw [HSL.out, HCS.out]; show i * 6 + 6 ≤ _; omega
  intro w5 h5 c5
  have G5 := grown_trans G4 c5
  have OWN : w5.ownsRow base 41 6 (.slice (some ⟨g, 0, none⟩) (n + 1) c) (n + 1) (rns (insL l i r)) := by
    refine ⟨by rw [rns_len, insL_len (by rw [HLL.out]; omega), HLL.out], .inr ⟨g, c, _, rfl, hbg, h5, hroom, (by simp only [maxLen]; omega), ?_, ?_⟩⟩
    · rw [List.size_toArray, length_splice _ _ _ (by rw [HSL.out, HCS.out]; show i * 6 + 6 ≤ _; omega), HSL.out, HCS.out]
    · have hc : cur = rns l ++ cur.drop (n * 6) := by rw [← HTK.out, List.take_append_drop]
      rw [HD.out, hc, ← HRN.out]
      exact splice_shift (rns l) _ r.cells (i * 6) ((i + 1) * 6) ((n + 1) * 6) (by rw [HRL.out]; omega) (show _ = i * 6 + 6 by omega) (show _ = (rns l).length + 6 by rw [HRL.out]; omega) (by rw [← hc, HCS.out]; omega)
  have HO := Lib.hid OWN
  clear OWN h5 c5 h4 V4
  go_wp2_with fail
  go_ret
  exact ⟨_, _, rfl, hroom, HO.out, G5⟩
set_option maxRecDepth 100000 in
set_option maxHeartbeats 4000000 in
theorem insert_grow {n c i base vb g : Nat} {l : List Rn} {r : Rn} {w : World} (hown : w.ownsRow base 41 6 (.slice (some ⟨g, 0, none⟩) n c) n (rns l)) (hV : Blk w vb 41 r.cells) (hne : vb ≠ g) (hi : i < n) (hn : n ≤ 1000) (hb : base ≤ w.heap.size) (hroom : c < n + 1) :
    Calls Tryz.prog 74 #[.slice (some ⟨g, 0, none⟩) n c, .int .i64 (i : Int), .slice (some ⟨vb, 0, none⟩) 1 1] w fun e w' => ∃ A' c', e = .returned (.slice A' (n + 1) c') ∧ n + 1 ≤ c' ∧ w'.ownsRow base 41 6 (.slice A' (n + 1) c') (n + 1) (rns (insL l i r)) ∧ w.grownBy w' (some g) := by
  obtain ⟨i0, hi0, hz0, hz1, hz2⟩ := info_parts rn_info
  have hsz : (Tryz.prog.info? 41).map (·.size) = some 6 := by rw [hi0]; simp [hz1]
  have hll : l.length = n := by have := hown.1; rw [rns_len] at this; omega
  have HLL := Lib.hid hll
  have hrl := rns_len l
  rw [hll] at hrl
  have HRL := Lib.hid hrl
  have HRN := Lib.hid (rns_ins l i r (by omega))
  obtain ⟨cur, hbg, hB, hnc, hcm, hcs, htk⟩ : ∃ cur : List Value, base ≤ g ∧ Blk w g 41 cur ∧ n ≤ c ∧ c ≤ maxLen ∧ cur.length = c * 6 ∧ cur.take (n * 6) = rns l := by
    rcases hown.2 with ⟨hv, _⟩ | ⟨g', cap, cur, hv, h1, h2, h3, h4, h5, h6⟩
    · cases hv
    · simp only [Value.slice.injEq, Option.some.injEq, Addr.mk.injEq, and_true, true_and] at hv
      obtain ⟨rfl, rfl⟩ := hv
      exact ⟨cur.toList, h1, h2, h3, h4, by simpa using h5, h6⟩
  unfold maxLen at hcm
  have hgl := hB.lt
  have hvl := hV.lt
  obtain ⟨D, hD⟩ : ∃ D, D = (rns l).drop (i * 6) := ⟨_, rfl⟩
  have hDl : D.length = (n - i) * 6 := by rw [hD, List.length_drop, hrl]; omega
  have HD := Lib.hid hD
  have HDL := Lib.hid hDl
  have hDone : ∀ v ∈ D, v.oneCell' = true := fun v hv => rns_one' l v (List.mem_of_mem_drop (by rw [hD] at hv; exact hv))
  have HDO := Lib.hid hDone
  have hDc : ∀ (W : World), Blk W g 41 cur → ∀ j v, D[j]? = some v → W.cell? ⟨g, i * 6 + j, none⟩ = some v := fun W hW j v hj => by
    rw [hW.cell]
    rw [hD, List.getElem?_drop] at hj
    have hjl := (List.getElem?_eq_some_iff.1 hj).1
    rw [← htk, List.getElem?_take, if_pos (by rw [hrl] at hjl; exact hjl)] at hj
    exact hj
  have HDC := Lib.hid hDc
  have HTK := Lib.hid htk
  have HCS := Lib.hid hcs
  have e1 : IntKind.i64.wrap ((i : Int) + 1) = (i : Int) + 1 := IntWalk.i64_in _ (by omega)
  have e2 : ((i : Int) + 1).toNat = i + 1 := by omega
  have e3 : (0 : Int) ≤ (i : Int) + 1 := by omega
  have e4 : ¬ ((i : Int) = (n : Int)) := by omega
  have e5 : (i : Int) ≤ (n : Int) := by omega
  have e6 : ¬ (c = i) := by omega
  have e11 : (i : Int) ≤ (n : Int) + 1 := by omega
  clear hll hrl htk hcs hD hDl hDone hDc
  have hold : (Builtin.firstCells i0.size i (.slice (some ⟨g, 0, none⟩) i c)).run Tryz.prog w.drew = .ok ((rns l).take (i * 6)).toArray w.drew := by
    rw [hz1]
    exact run_firstCells_some w.drew 6 i ⟨g, 0, none⟩ i c ((rns l).take (i * 6)) (by rw [List.length_take, HRL.out]; omega) (fun j v hj => by
      rw [addl, Nat.zero_add]
      rw [List.getElem?_take] at hj
      split at hj
      · have hB' : Blk w.drew g 41 cur := hB.drew
        rw [hB'.cell, ← hj, ← HTK.out, List.getElem?_take, if_pos (by omega)]
      · cases hj)
  obtain ⟨G, hG⟩ : ∃ G, G = grownCap w (n + 1) c 41 := ⟨_, rfl⟩
  have hGn : n + 1 ≤ G := by rw [hG]; exact grownCap_ge w _ _ _
  have hG63 : G ≤ 2 ^ 63 - 1 := by
    have := grownCap_le_maxLen w (n + 1) c 41 (by unfold maxLen; omega)
    rw [← hG] at this
    unfold maxLen at this
    exact this
  have hik : i + (n + 1 - i) = n + 1 := by omega
  have hkk : (n : Int) + 1 - (i : Int) = ((n + 1 - i : Nat) : Int) := by omega
  obtain ⟨ROW, hROW⟩ : ∃ ROW : List Value, ROW = (rns l).take (i * 6) ++ (Builtin.zeroCells (Value.cells (.agg #[.int .i64 0, .string ByteArray.empty, .string ByteArray.empty, .int .i64 0, .bool false, .int .i64 0])) (n + 1 - i)).toList ++ (Builtin.zeroCells (Value.cells (.agg #[.int .i64 0, .string ByteArray.empty, .string ByteArray.empty, .int .i64 0, .bool false, .int .i64 0])) (G - (n + 1))).toList := ⟨_, rfl⟩
  have hRL : ROW.length = G * 6 := by
    have z1 : ∀ k, (Builtin.zeroCells (Value.cells (.agg #[.int .i64 0, .string ByteArray.empty, .string ByteArray.empty, .int .i64 0, .bool false, .int .i64 0])) k).toList.length = k * 6 := fun k => by rw [Array.length_toList, size_zeroCells]; rfl
    rw [hROW, List.length_append, List.length_append, List.length_take, HRL.out, z1, z1]
    omega
  have hRT : ROW.take (i * 6) = (rns l).take (i * 6) := by
    rw [hROW, List.append_assoc, List.take_append_of_le_length (by rw [List.length_take, HRL.out]; omega), List.take_take, Nat.min_self]
  have hrz : ∀ ty, (Builtin.append_ #[47, 3] ty #[.slice (some ⟨g, 0, none⟩) i c, .int .i64 ((n : Int) + 1 - (i : Int))]).run Tryz.prog w =
      .ok (.slice (some ⟨w.heap.size, 0, none⟩) (n + 1) G) (w.drew.alloc (.cells ROW.toArray 41)) := fun ty => by
    have h := Lib.run_append_grow_zeros w 47 3 ty 41 i0 _ .i64 .i64 Tryz.underlying47 Tryz.underlying3 hi0 hz0 (some ⟨g, 0, none⟩) i c ((rns l).take (i * 6)) hold (n + 1 - i) (by omega) (by omega) (by omega) (by omega) (by rw [hz2]; omega) (by rw [hz2, hik]; exact growslice_fits hroom (by omega))
    rw [hik, ← hG] at h
    have e : ROW.toArray = ((rns l).take (i * 6)).toArray ++ Builtin.zeroCells (Value.cells (.agg #[.int .i64 0, .string ByteArray.empty, .string ByteArray.empty, .int .i64 0, .bool false, .int .i64 0])) (n + 1 - i) ++ Builtin.zeroCells (Value.cells (.agg #[.int .i64 0, .string ByteArray.empty, .string ByteArray.empty, .int .i64 0, .bool false, .int .i64 0])) (G - (n + 1)) := by
      rw [hROW]; simp
    rw [hkk, e]
    exact h
  obtain ⟨W1, hW1⟩ : ∃ W1, W1 = w.drew.alloc (.cells ROW.toArray 41) := ⟨_, rfl⟩
  rw [← hW1] at hrz
  have B1 : Blk W1 w.heap.size 41 ROW := by rw [hW1]; exact Blk.new w.drew 41 ROW
  have G1 : w.grownBy W1 (some g) := by rw [hW1]; exact ⟨rfl, rfl, rfl, by simp, fun k hk _ => Below.heap_alloc w.drew _ k hk⟩
  have C1 : Blk W1 g 41 cur := by rw [hW1]; exact hB.drew.alloc _
  have V1 : Blk W1 vb 41 r.cells := by rw [hW1]; exact hV.drew.alloc _
  have HRLL := Lib.hid hRL
  have HRT := Lib.hid hRT
  have e8 : ¬ (G = i) := by omega
  have e9 : ¬ (G = i + 1) := by omega
  have e10 : (c : Int) < (n : Int) + 1 := by omega
  clear hown hold hG hik hkk hROW hRL hRT hW1
  go_enter Tryz.func74, Tryz.ntmps74
  go_wp2_with (first | (at_builtin; refine Lib.wpList_append_run _ rfl _ _ _ _ rfl _ _ rfl rfl _ _ (hrz _) ?_) | (refine wpList_copy_k rfl (.tmp 43) (.tmp 44) 47 47 rfl 41 6 Tryz.underlying47 hsz w.heap.size (i * 6) _ _ ⟨vb, 0, none⟩ _ _ rfl rfl ROW 41 B1 r.cells ?e1 ?e2 ?e3 (rn_one r) ?_))
  case e1 => rw [show Nat.min 1 (n + 1 - i) = 1 from Nat.min_eq_left (by omega)]; rfl
  case e2 => intro j v hj; rw [addl, V1.cell, Nat.zero_add]; exact hj
  case e3 => rw [HRLL.out]; show i * 6 + 6 ≤ _; omega
  intro w4 h4 c4
  have hz9 : g ≠ w.heap.size := by omega
  have G4 := grown_new G1 c4 (Nat.le_refl _)
  have C4 : Blk w4 g 41 cur := C1.grown c4 (fun e => hz9 (Option.some.inj e))
  have HSL := Lib.hid (length_splice ROW (i * 6) r.cells (by rw [HRLL.out]; show i * 6 + 6 ≤ _; omega))
  clear c4 B1 V1 C1 G1 hrz
  go_upto_region 11 with (fail)
  refine wp_region_held_drew (S := fun _ => True) (by kernel_rfl) ?_ (fun hHeld => ?_)
  · (try dsimp only)
    all_goals exact trivial
  refine rgTake (i := 0) (d := 46) (v := ?_) rfl rfl (by kernel_rfl) (by kernel_rfl) (by kernel_rfl) (fun _ _ _ h => h) (by rfl) ?_ (by assumption) ?_
  rotate_left
  · ((intro w hSw); (try dsimp only at hSw); go_simp; (try with_reducible rfl))
  try simp only [Act.put, List.setIfInBounds_toArray, List.set_cons_zero, List.set_cons_succ]
  refine rgTake (i := 1) (d := 47) (v := ?_) rfl rfl (by kernel_rfl) (by kernel_rfl) (by kernel_rfl) (fun _ _ _ h => h) (by rfl) ?_ (by assumption) ?_
  rotate_left
  · ((intro w hSw); (try dsimp only at hSw); go_simp; (try with_reducible rfl))
  try simp only [Act.put, List.setIfInBounds_toArray, List.set_cons_zero, List.set_cons_succ]
  refine rgTake (i := 2) (d := 48) (v := ?_) rfl rfl (by kernel_rfl) (by kernel_rfl) (by kernel_rfl) (fun _ _ _ h => h) (by rfl) ?_ (by assumption) ?_
  rotate_left
  · ((intro w hSw); (try dsimp only at hSw); go_simp; (try with_reducible rfl))
  try simp only [Act.put, List.setIfInBounds_toArray, List.set_cons_zero, List.set_cons_succ]
  refine rgTake (i := 3) (d := 49) (v := ?_) rfl rfl (by kernel_rfl) (by kernel_rfl) (by kernel_rfl) (fun _ _ _ h => h) (by rfl) ?_ (by assumption) ?_
  rotate_left
  · ((intro w hSw); (try dsimp only at hSw); go_simp; (try with_reducible rfl))
  try simp only [Act.put, List.setIfInBounds_toArray, List.set_cons_zero, List.set_cons_succ]
  refine rgTake (i := 4) (d := 50) (v := ?_) rfl rfl (by kernel_rfl) (by kernel_rfl) (by kernel_rfl) (fun _ _ _ h => h) (by rfl) ?_ (by assumption) ?_
  rotate_left
  · ((intro w hSw); (try dsimp only at hSw); go_simp; (try with_reducible rfl))
  try simp only [Act.put, List.setIfInBounds_toArray, List.set_cons_zero, List.set_cons_succ]
  refine rgTake (i := 5) (d := 51) (v := ?_) rfl rfl (by kernel_rfl) (by kernel_rfl) (by kernel_rfl) (fun _ _ _ h => h) (by rfl) ?_ (by assumption) ?_
  rotate_left
  · ((intro w hSw); (try dsimp only at hSw); go_simp; (try with_reducible rfl))
  try simp only [Act.put, List.setIfInBounds_toArray, List.set_cons_zero, List.set_cons_succ]
  refine rgTake (i := 6) (d := 52) (v := ?_) rfl rfl (by kernel_rfl) (by kernel_rfl) (by kernel_rfl) (fun _ _ _ h => h) (by rfl) ?_ (by assumption) ?_
  rotate_left
  · ((intro w hSw); (try dsimp only at hSw); go_simp; (try with_reducible rfl))
  try simp only [Act.put, List.setIfInBounds_toArray, List.set_cons_zero, List.set_cons_succ]
  refine rgTake (i := 7) (d := 53) (v := ?_) rfl rfl (by kernel_rfl) (by kernel_rfl) (by kernel_rfl) (fun _ _ _ h => h) (by rfl) ?_ (by assumption) ?_
  rotate_left
  · ((intro w hSw); (try dsimp only at hSw); go_simp; (try with_reducible rfl))
  try simp only [Act.put, List.setIfInBounds_toArray, List.set_cons_zero, List.set_cons_succ]
  refine wpAnyH_ready (rs := [8]) (by kernel_rfl) (by simp) ?_
  refine AllReadyH.cons rfl (fun K hK => ?_) AllReadyH.nil
  refine step_copy_k rfl (.tmp 50) (.tmp 53) 47 47 rfl 41 6 Tryz.underlying47 hsz w.heap.size ((i + 1) * 6) _ _ ⟨g, i * 6, none⟩ _ _ rfl rfl (splice ROW (i * 6) r.cells) 41 h4.drew D (by rw [HDL.out]; simp only [Nat.min_def]; split <;> omega) (fun j v hj => by rw [addl]; exact HDC.out _ C4.drew j v hj) (by rw [HDL.out, HSL.out, HRLL.out]; omega) HDO.out ?_; intro w5 h5 c5
  refine hK.out _ _ ?_ (fun hHeld => ?_)
  · (try dsimp only)
    all_goals exact trivial
  clear hK K
  try simp only [Act.put, List.setIfInBounds_toArray, List.set_cons_zero, List.set_cons_succ]
  refine wpAnyH_done (by kernel_rfl) ?_ _
  have G5 : w.grownBy w5 (some g) := grown_new G4 ⟨c5.os, c5.tape, c5.output, c5.size, c5.block⟩ (Nat.le_refl w.heap.size)
  clear c5 hHeld C4 h4 G4
  have OWN : w5.ownsRow base 41 6 (.slice (some ⟨w.heap.size, 0, none⟩) (n + 1) G) (n + 1) (rns (insL l i r)) := by
    refine ⟨by rw [rns_len, insL_len (by rw [HLL.out]; omega), HLL.out], .inr ⟨w.heap.size, G, _, rfl, hb, h5, hGn, (by simp only [maxLen]; omega), ?_, ?_⟩⟩
    · rw [List.size_toArray, length_splice _ _ _ (by rw [HDL.out, HSL.out, HRLL.out]; omega), HSL.out, HRLL.out]
    · rw [HD.out, ← HRN.out]
      exact splice_grow ROW (rns l) r.cells (i * 6) ((i + 1) * 6) ((n + 1) * 6) (by rw [HRL.out]; omega) HRT.out (show _ = i * 6 + 6 by omega) (show _ = (rns l).length + 6 by rw [HRL.out]; omega) (by rw [HRLL.out]; omega)
  have HO := Lib.hid OWN
  clear OWN h5
  go_wp2_with fail
  go_ret
  exact ⟨_, _, rfl, hGn, HO.out, G5⟩
theorem insert_any {A : Option Addr} {n c i base vb : Nat} {l : List Rn} {r : Rn} {w : World} (hown : w.ownsRow base 41 6 (.slice A n c) n (rns l)) (hV : Blk w vb 41 r.cells) (hne : (Value.slice A n c).ownBlock ≠ some vb) (hi : i ≤ n) (hn : n ≤ 1000) (hb : base ≤ w.heap.size) :
    Calls Tryz.prog 74 #[.slice A n c, .int .i64 (i : Int), .slice (some ⟨vb, 0, none⟩) 1 1] w fun e w' => ∃ A' c', e = .returned (.slice A' (n + 1) c') ∧ n + 1 ≤ c' ∧ w'.ownsRow base 41 6 (.slice A' (n + 1) c') (n + 1) (rns (insL l i r)) ∧ w.grownBy w' (Value.slice A n c).ownBlock := by
  by_cases hin : i = n
  · subst hin
    exact insert_end hown hV hn hb
  · obtain ⟨g, cap, hv, _⟩ := hown.form (by omega)
    simp only [Value.slice.injEq] at hv
    obtain ⟨rfl, _, rfl⟩ := hv
    have hvg : vb ≠ g := fun e => hne (by rw [e]; rfl)
    by_cases hr : n + 1 ≤ c
    · exact insert_shift hown hV hvg (by omega) hn hb hr
    · exact insert_grow hown hV hvg (by omega) hn hb (by omega)
end Go.Proofs.YtmmpcchjalgokaaGreatDoor
