/- Contract: the reference's l1Put: a number is put to its place in a rising list. -/
import Derived.Test.YtdjdjceemfaigaaPrt
import Derived.Test.YtdjdjceemfaigaaApp
import Derived.Test.YtdjdjceemfaigaaCh
import Derived.Test.YtdjdjceemfaigaaStepTime
import Derived.Test.YtdjdjceemfaigaaRg
import Derived.Test.YtdjdjceemfaigaaRg2
namespace Go.Proofs.Ytdjdjceemfaigaa
set_option linter.unusedVariables false
set_option linter.unusedSimpArgs false
open Go.RowKit
theorem two_newI (w : World) (t : TypeId) (c1 c2 : List Value) : Blk ((w.alloc (.cells c1.toArray t)).alloc (.cells c2.toArray t)) w.heap.size t c1 ∧ Blk ((w.alloc (.cells c1.toArray t)).alloc (.cells c2.toArray t)) (w.heap.size + 1) t c2 := by
  have s1 : (w.alloc (.cells c1.toArray t)).heap.size = w.heap.size + 1 := by simp
  have B2 := Blk.new (w.alloc (.cells c1.toArray t)) t c2
  rw [s1] at B2
  exact ⟨(Blk.new w t c1).alloc _, B2⟩
theorem ints_one (l : List Int) : ∀ u ∈ ints l, u.oneCell' = true := by
  intro u hu
  unfold ints at hu
  obtain ⟨x, _, rfl⟩ := List.mem_map.1 hu
  rfl
theorem Rd.takeI {w : World} {B n k : Nat} {A : Option Addr} {l : List Int} (h : Rd w B 1 A n (ints l)) (hk : k ≤ n) : Rd w B 1 A k (ints (l.take k)) := by
  have hl := h.len
  refine ⟨by simp [ints]; omega, fun h0 => ?_⟩
  obtain ⟨b, off, e, hb, hc⟩ := h.2 (by omega)
  refine ⟨b, off, e, hb, fun j u hu => hc j u ?_⟩
  unfold ints at hu ⊢
  rw [List.map_take] at hu
  rcases Nat.lt_or_ge j k with hj | hj
  · rw [List.getElem?_take_of_lt hj] at hu; exact hu
  · rw [List.getElem?_eq_none (by rw [List.length_take]; omega)] at hu; cases hu
theorem Rd.dropI {w : World} {B n k bl off : Nat} {l : List Int} (h : Rd w B 1 (some ⟨bl, off, none⟩) n (ints l)) (hk : k ≤ n) : Rd w B 1 (some ⟨bl, off + k, none⟩) (n - k) (ints (l.drop k)) := by
  have hl := h.len
  refine ⟨by simp [ints]; omega, fun h0 => ?_⟩
  obtain ⟨b, off', e, hb, hc⟩ := h.2 (by omega)
  obtain ⟨rfl, rfl⟩ : bl = b ∧ off = off' := by simpa using e
  refine ⟨_, _, rfl, hb, fun j u hu => ?_⟩
  rw [Nat.add_assoc]
  refine hc (k + j) u ?_
  unfold ints at hu ⊢
  rw [List.map_drop, List.getElem?_drop] at hu
  exact hu
theorem put_app (l : List Nat) (k x : Nat) : ints ((cast l).take k) ++ ints [(x : Int)] ++ ints ((cast l).drop k) = ints (cast (l.take k ++ x :: l.drop k)) := by
  unfold ints cast
  simp [List.map_append, List.map_take, List.map_drop]
set_option maxRecDepth 100000 in
set_option maxHeartbeats 8000000 in
theorem l1Put_any {bl off q cq : Nat} {l : List Nat} {x : Nat} {w : World} (hR : Rd w w.heap.size 1 (some ⟨bl, off, none⟩) q (ints (cast l))) (hq : q ≤ 1000) (hqc : q ≤ cq) (hasc : l.Pairwise (· < ·)) (hx : x ∉ l) (xb : x ≤ 1000) :
    Calls Try.prog 26 #[.slice (some ⟨bl, off, none⟩) q cq, .int .i64 x] w fun e w' => ∃ A cp l', e = .returned (.slice A (List.length l') cp) ∧ l'.Pairwise (· < ·) ∧ (∀ y, y ∈ l' ↔ y = x ∨ y ∈ l) ∧ l'.length = q + 1 ∧ w'.ownsRow w.heap.size 3 1 (.slice A l'.length cp) l'.length (ints (cast l')) ∧ Below w.heap.size w w' := by
  have hlq : l.length = q := by have := hR.len; rwa [cast_len] at this
  have HQ := Lib.hid hlq
  have HA := Lib.hid hasc
  have HX := Lib.hid hx
  clear hlq hasc hx
  obtain ⟨i0, hi0, hz0, hz1, hz2⟩ := info_parts int_info
  go_enter Try.func26, Try.ntmps26
  go_wp2_with fail
  go_loopw [5] (fun i wr => ∃ k : Nat, k ≤ q ∧ i = .int .i64 k ∧ Hid (∀ (i : Nat) (hi : i < l.length), i < k → l[i] < x) ∧ w = wr) (fun i _ => q - (intOf i).toNat)
  case atStart => exact ⟨0, Nat.zero_le _, rfl, (fun e _ h => absurd h (by omega)), rfl⟩
  case round =>
    obtain ⟨k, hk, rfl, HN, rfl⟩ := hrel
    by_cases hlt : k < q
    · have kx : k < l.length := by rw [HQ.out]; exact hlt
      obtain ⟨bl', off', hbe, hbb, hca⟩ := hR.2 (show 0 < q by omega)
      simp only [Option.some.injEq, Addr.mk.injEq, and_true] at hbe
      obtain ⟨rfl, rfl⟩ := hbe
      have cz : w.cell? ⟨bl, off + k, none⟩ = some (.int .i64 (l[k] : Nat)) := hca k _ (by unfold ints cast; simp [kx])
      clear hca
      have hltI : (k : Int) < (q : Int) := by omega
      have hkc : (k : Int) < (cq : Int) := by omega
      have hne9 : l[k] ≠ x := fun e => HX.out (e ▸ List.getElem_mem kx)
      by_cases hc : l[k] < x
      · have hcI : ((l[k] : Nat) : Int) < (x : Int) := by omega
        have hp1 : IntKind.i64.wrap ((k : Int) + 1) = (k : Int) + 1 := IntWalk.i64_in _ (by omega)
        have HN2 : Hid (∀ (i : Nat) (hi : i < l.length), i < k + 1 → l[i] < x) := (fun i hi hik => by
          rcases Nat.lt_or_ge i k with h | h
          · exact HN.out i hi h
          · have e : i = k := by omega
            subst e
            exact hc : ∀ (i : Nat) (hi : i < l.length), i < k + 1 → l[i] < x)
        clear hc hne9
        generalize l[k] = y at *
        go_wp2_with fail
        go_roundw
        case rel => exact ⟨k + 1, by omega, by go_num, HN2, by first | rfl | trivial⟩
        case measure => simp [intOf]; omega
      · have hcI : ¬ ((l[k] : Nat) : Int) < (x : Int) := by omega
        have hd : decide (((l[k] : Nat) : Int) < (x : Int)) = false := by simpa using hcI
        have hnI : (((l[k] : Nat) : Int) == (x : Int)) = false := by simp; omega
        have HP := Lib.hid (put_asc HA.out HX.out (show k ≤ l.length by omega) HN.out (fun hi => show x ≤ l[k] by omega))
        clear hc hne9
        generalize l[k] = y at *
        have EK := Lib.hid (show k + 1 + (q - k) = q + 1 by omega)
        have hkq2 : (k : Int) ≤ (q : Int) := by omega
        have hkc2 : (k : Int) ≤ (cq : Int) := by omega
        have hcqk : ¬ cq = k := by omega
        have G := Below.refl w.heap.size w
        have HPL := Lib.hid (show (l.take k ++ x :: l.drop k).length = q + 1 by rw [List.length_append, List.length_take, List.length_cons, List.length_drop, HQ.out]; omega)
        have hk' : k ≤ q := hk
        go_upto_region 6 with (fail)
        refine wp_region_held_drew (S := fun w' => Below w.heap.size w w') (by kernel_rfl) ?_ (fun hHeld => ?_)
        · (try dsimp only)
          first | exact G.drew | exact hHeld.alloc hHeld.size _
        replace G := G.drew; generalize w.drew = wx at *
        refine rgTake (i := 1) (d := 34) (v := ?_) rfl rfl (by kernel_rfl) (by kernel_rfl) (by kernel_rfl) (fun _ _ _ h => h) (by rfl) ?_ (by assumption) ?_
        rotate_left
        · ((intro w hSw); (try dsimp only at hSw); go_simp; (try with_reducible rfl))
        try simp only [Act.put, List.setIfInBounds_toArray, List.set_cons_zero, List.set_cons_succ]
        refine rgTake (i := 2) (d := 35) (v := ?_) rfl rfl (by kernel_rfl) (by kernel_rfl) (by kernel_rfl) (fun _ _ _ h => h) (by rfl) ?_ (by assumption) ?_
        rotate_left
        · ((intro w hSw); (try dsimp only at hSw); go_simp; (try with_reducible rfl))
        try simp only [Act.put, List.setIfInBounds_toArray, List.set_cons_zero, List.set_cons_succ]
        refine rgTake (i := 3) (d := 36) (v := ?_) rfl rfl (by kernel_rfl) (by kernel_rfl) (by kernel_rfl) (fun _ _ _ h => h) (by rfl) ?_ (by assumption) ?_
        rotate_left
        · ((intro w hSw); (try dsimp only at hSw); go_simp; (try with_reducible rfl))
        try simp only [Act.put, List.setIfInBounds_toArray, List.set_cons_zero, List.set_cons_succ]
        refine rgTake (i := 5) (d := 38) (v := ?_) rfl rfl (by kernel_rfl) (by kernel_rfl) (by kernel_rfl) (fun _ _ _ h => h) (by rfl) ?_ (by assumption) ?_
        rotate_left
        · ((intro w hSw); (try dsimp only at hSw); go_simp; (try with_reducible rfl))
        try simp only [Act.put, List.setIfInBounds_toArray, List.set_cons_zero, List.set_cons_succ]
        refine rgTake (i := 8) (d := 41) (v := ?_) rfl rfl (by kernel_rfl) (by kernel_rfl) (by kernel_rfl) (fun _ _ _ h => h) (by rfl) ?_ (by assumption) ?_
        rotate_left
        · ((intro w hSw); (try dsimp only at hSw); go_simp; (try with_reducible rfl))
        try simp only [Act.put, List.setIfInBounds_toArray, List.set_cons_zero, List.set_cons_succ]
        refine rgTake (i := 9) (d := 42) (v := ?_) rfl rfl (by kernel_rfl) (by kernel_rfl) (by kernel_rfl) (fun _ _ _ h => h) (by rfl) ?_ (by assumption) ?_
        rotate_left
        · ((intro w hSw); (try dsimp only at hSw); go_simp; (try with_reducible rfl))
        try simp only [Act.put, List.setIfInBounds_toArray, List.set_cons_zero, List.set_cons_succ]
        refine rgTake (i := 10) (d := 43) (v := ?_) rfl rfl (by kernel_rfl) (by kernel_rfl) (by kernel_rfl) (fun _ _ _ h => h) (by rfl) ?_ (by assumption) ?_
        rotate_left
        · ((intro w hSw); (try dsimp only at hSw); go_simp; (try with_reducible rfl))
        try simp only [Act.put, List.setIfInBounds_toArray, List.set_cons_zero, List.set_cons_succ]
        refine wpAnyH_ready (rs := [0, 6]) (by kernel_rfl) (by simp) ?_
        refine AllReadyH.cons rfl (fun K hK => ?_) ?_
        ·
          go_simp
          refine hK.out _ _ ?_ (fun hHeld => ?_)
          · (try dsimp only)
            first | exact G.drew | exact hHeld.alloc hHeld.size _
          clear hK K
          try simp only [Act.put, List.setIfInBounds_toArray, List.set_cons_zero, List.set_cons_succ]
          refine wpAnyH_ready (rs := [4, 6]) (by kernel_rfl) (by simp) ?_
          refine AllReadyH.cons rfl (fun K hK => ?_) ?_
          ·
            first | (refine step_append_rd rfl _ _ 22 rfl w.heap.size 3 i0 (.int .i64 0) 1 8 Try.underlying22 hi0 hz0 hz1 hz2 rfl (by decide) (.slice (some ⟨wx.heap.size, 0, none⟩) 0 0) 0 [] rfl ((Blk.new wx 3 []).own (size := 1) (n := 0) G.size rfl (Nat.zero_le _)) _ _ _ _ _ rfl ((hR.below hHeld).takeI hk') (ints_one _) (by simp only [maxLen]; omega) (by omega) hHeld.size ?_; intro A8 c8 w8 h8 own8 grow8 at8; simp only [Nat.zero_add, List.nil_append] at h8 own8 at8 ⊢; have hne8 := own8) | (refine step_append_rd rfl _ _ 22 rfl w.heap.size 3 i0 (.int .i64 0) 1 8 Try.underlying22 hi0 hz0 hz1 hz2 rfl (by decide) (.slice (some ⟨wx.heap.size, 0, none⟩) 0 0) 0 [] rfl ((two_newI wx 3 [] [.int .i64 (x : Int)]).1.own (size := 1) (n := 0) G.size rfl (Nat.zero_le _)) _ _ _ _ _ rfl ((hR.below hHeld).takeI hk') (ints_one _) (by simp only [maxLen]; omega) (by omega) hHeld.size ?_; intro A8 c8 w8 h8 own8 grow8 at8; simp only [Nat.zero_add, List.nil_append] at h8 own8 at8 ⊢; have V8 : Blk w8 (wx.heap.size + 1) 3 [.int .i64 (x : Int)] := ((two_newI wx 3 [] [.int .i64 (x : Int)]).2).grown grow8 (by simp [Value.ownBlock]); have hne8 : (Value.slice A8 k c8).ownBlock ≠ some (wx.heap.size + 1) := fun e => by rcases at8 _ e with h | h <;> simp [Value.ownBlock] at h <;> omega) | (refine step_append_rd rfl _ _ 22 rfl w.heap.size 3 i0 (.int .i64 0) 1 8 Try.underlying22 hi0 hz0 hz1 hz2 rfl (by decide) (.slice (some ⟨wx.heap.size + 1, 0, none⟩) 0 0) 0 [] rfl ((two_newI wx 3 [.int .i64 (x : Int)] []).2.own (size := 1) (n := 0) (Nat.le_trans G.size (Nat.le_succ _)) rfl (Nat.zero_le _)) _ _ _ _ _ rfl ((hR.below hHeld).takeI hk') (ints_one _) (by simp only [maxLen]; omega) (by omega) hHeld.size ?_; intro A8 c8 w8 h8 own8 grow8 at8; simp only [Nat.zero_add, List.nil_append] at h8 own8 at8 ⊢; have V8 : Blk w8 (wx.heap.size) 3 [.int .i64 (x : Int)] := ((two_newI wx 3 [.int .i64 (x : Int)] []).1).grown grow8 (by simp [Value.ownBlock]); have hne8 : (Value.slice A8 k c8).ownBlock ≠ some (wx.heap.size) := fun e => by rcases at8 _ e with h | h <;> simp [Value.ownBlock] at h <;> omega)
            refine hK.out _ _ ?_ (fun hHeld => ?_)
            · (try dsimp only)
              exact hHeld.grown grow8 hHeld.size (fun k hk => by have hG := G.size; simp [Value.ownBlock] at hk; omega)
            clear hK K
            try simp only [Act.put, List.setIfInBounds_toArray, List.set_cons_zero, List.set_cons_succ]
            refine wpAnyH_ready (rs := [6]) (by kernel_rfl) (by simp) ?_
            refine AllReadyH.cons rfl (fun K hK => ?_) AllReadyH.nil
            go_simp
            refine hK.out _ _ ?_ (fun hHeld => ?_)
            · (try dsimp only)
              first | exact G.drew | exact hHeld.alloc hHeld.size _
            clear hK K
            try simp only [Act.put, List.setIfInBounds_toArray, List.set_cons_zero, List.set_cons_succ]
            refine wpAnyH_ready (rs := [7]) (by kernel_rfl) (by simp) ?_
            refine AllReadyH.cons rfl (fun K hK => ?_) AllReadyH.nil
            first | (refine step_append_rd rfl _ _ 22 rfl w.heap.size 3 i0 (.int .i64 0) 1 8 Try.underlying22 hi0 hz0 hz1 hz2 rfl (by decide) (.slice A8 k c8) k (ints ((cast l).take k)) rfl (own8) _ _ _ _ _ rfl (V8.rd (size := 1) (n := 1) rfl) (ints_one [(x : Int)]) (by simp only [maxLen]; omega) (by omega) hHeld.size ?_; intro A7 c7 w7 h7 own7 grow7 at7) | (refine step_append_rd rfl _ _ 22 rfl w.heap.size 3 i0 (.int .i64 0) 1 8 Try.underlying22 hi0 hz0 hz1 hz2 rfl (by decide) (.slice A8 k c8) k (ints ((cast l).take k)) rfl (own8.alloc _) _ _ _ _ _ rfl ((Blk.new w8 3 [.int .i64 (x : Int)]).rd (size := 1) (n := 1) rfl) (ints_one [(x : Int)]) (by simp only [maxLen]; omega) (by omega) hHeld.size ?_; intro A7 c7 w7 h7 own7 grow7 at7)
            refine hK.out _ _ ?_ (fun hHeld => ?_)
            · (try dsimp only)
              exact hHeld.grown grow7 hHeld.size (fun k hk => (own8.lt k hk).1)
            clear hK K
            try simp only [Act.put, List.setIfInBounds_toArray, List.set_cons_zero, List.set_cons_succ]
            refine wpAnyH_ready (rs := [11]) (by kernel_rfl) (by simp) ?_
            refine AllReadyH.cons rfl (fun K hK => ?_) AllReadyH.nil
            refine step_append_rd rfl _ _ 22 rfl w.heap.size 3 i0 (.int .i64 0) 1 8 Try.underlying22 hi0 hz0 hz1 hz2 rfl (by decide) (.slice A7 (k + 1) c7) (k + 1) (ints ((cast l).take k) ++ ints [(x : Int)]) rfl (own7) _ _ _ _ _ rfl ((hR.below hHeld).dropI hk') (ints_one _) (by simp only [maxLen]; omega) (by omega) hHeld.size ?_; intro A9 c9 w9 h9 own9 grow9 at9; simp only [EK.out] at h9 own9 ⊢
            refine hK.out _ _ ?_ (fun hHeld => ?_)
            · (try dsimp only)
              exact hHeld.grown grow9 hHeld.size (fun k hk => (own7.lt k hk).1)
            clear hK K
            try simp only [Act.put, List.setIfInBounds_toArray, List.set_cons_zero, List.set_cons_succ]
            refine rgTake (i := 12) (d := 4) (v := ?_) rfl rfl (by kernel_rfl) (by kernel_rfl) (by kernel_rfl) (fun _ _ _ h => h) (by rfl) ?_ (by assumption) ?_
            rotate_left
            · ((intro w hSw); (try dsimp only at hSw); go_simp; (try with_reducible rfl))
            try simp only [Act.put, List.setIfInBounds_toArray, List.set_cons_zero, List.set_cons_succ]
            refine wpAnyH_done (by kernel_rfl) ?_ _
            have e9 := put_app l k x
            rw [e9] at own9
            go_wp2_with fail
            go_ret
            exact ⟨A9, c9, _, by rw [HPL.out]; rfl, HP.out.1, HP.out.2, HPL.out, by rw [HPL.out]; exact own9, hHeld⟩
          refine AllReadyH.cons rfl (fun K hK => ?_) ?_
          ·
            go_simp
            refine hK.out _ _ ?_ (fun hHeld => ?_)
            · (try dsimp only)
              first | exact G.drew | exact hHeld.alloc hHeld.size _
            clear hK K
            try simp only [Act.put, List.setIfInBounds_toArray, List.set_cons_zero, List.set_cons_succ]
            refine wpAnyH_ready (rs := [4]) (by kernel_rfl) (by simp) ?_
            refine AllReadyH.cons rfl (fun K hK => ?_) AllReadyH.nil
            first | (refine step_append_rd rfl _ _ 22 rfl w.heap.size 3 i0 (.int .i64 0) 1 8 Try.underlying22 hi0 hz0 hz1 hz2 rfl (by decide) (.slice (some ⟨wx.heap.size, 0, none⟩) 0 0) 0 [] rfl ((Blk.new wx 3 []).own (size := 1) (n := 0) G.size rfl (Nat.zero_le _)) _ _ _ _ _ rfl ((hR.below hHeld).takeI hk') (ints_one _) (by simp only [maxLen]; omega) (by omega) hHeld.size ?_; intro A8 c8 w8 h8 own8 grow8 at8; simp only [Nat.zero_add, List.nil_append] at h8 own8 at8 ⊢; have hne8 := own8) | (refine step_append_rd rfl _ _ 22 rfl w.heap.size 3 i0 (.int .i64 0) 1 8 Try.underlying22 hi0 hz0 hz1 hz2 rfl (by decide) (.slice (some ⟨wx.heap.size, 0, none⟩) 0 0) 0 [] rfl ((two_newI wx 3 [] [.int .i64 (x : Int)]).1.own (size := 1) (n := 0) G.size rfl (Nat.zero_le _)) _ _ _ _ _ rfl ((hR.below hHeld).takeI hk') (ints_one _) (by simp only [maxLen]; omega) (by omega) hHeld.size ?_; intro A8 c8 w8 h8 own8 grow8 at8; simp only [Nat.zero_add, List.nil_append] at h8 own8 at8 ⊢; have V8 : Blk w8 (wx.heap.size + 1) 3 [.int .i64 (x : Int)] := ((two_newI wx 3 [] [.int .i64 (x : Int)]).2).grown grow8 (by simp [Value.ownBlock]); have hne8 : (Value.slice A8 k c8).ownBlock ≠ some (wx.heap.size + 1) := fun e => by rcases at8 _ e with h | h <;> simp [Value.ownBlock] at h <;> omega) | (refine step_append_rd rfl _ _ 22 rfl w.heap.size 3 i0 (.int .i64 0) 1 8 Try.underlying22 hi0 hz0 hz1 hz2 rfl (by decide) (.slice (some ⟨wx.heap.size + 1, 0, none⟩) 0 0) 0 [] rfl ((two_newI wx 3 [.int .i64 (x : Int)] []).2.own (size := 1) (n := 0) (Nat.le_trans G.size (Nat.le_succ _)) rfl (Nat.zero_le _)) _ _ _ _ _ rfl ((hR.below hHeld).takeI hk') (ints_one _) (by simp only [maxLen]; omega) (by omega) hHeld.size ?_; intro A8 c8 w8 h8 own8 grow8 at8; simp only [Nat.zero_add, List.nil_append] at h8 own8 at8 ⊢; have V8 : Blk w8 (wx.heap.size) 3 [.int .i64 (x : Int)] := ((two_newI wx 3 [.int .i64 (x : Int)] []).1).grown grow8 (by simp [Value.ownBlock]); have hne8 : (Value.slice A8 k c8).ownBlock ≠ some (wx.heap.size) := fun e => by rcases at8 _ e with h | h <;> simp [Value.ownBlock] at h <;> omega)
            refine hK.out _ _ ?_ (fun hHeld => ?_)
            · (try dsimp only)
              exact hHeld.grown grow8 hHeld.size (fun k hk => by have hG := G.size; simp [Value.ownBlock] at hk; omega)
            clear hK K
            try simp only [Act.put, List.setIfInBounds_toArray, List.set_cons_zero, List.set_cons_succ]
            refine wpAnyH_ready (rs := [7]) (by kernel_rfl) (by simp) ?_
            refine AllReadyH.cons rfl (fun K hK => ?_) AllReadyH.nil
            first | (refine step_append_rd rfl _ _ 22 rfl w.heap.size 3 i0 (.int .i64 0) 1 8 Try.underlying22 hi0 hz0 hz1 hz2 rfl (by decide) (.slice A8 k c8) k (ints ((cast l).take k)) rfl (own8) _ _ _ _ _ rfl (V8.rd (size := 1) (n := 1) rfl) (ints_one [(x : Int)]) (by simp only [maxLen]; omega) (by omega) hHeld.size ?_; intro A7 c7 w7 h7 own7 grow7 at7) | (refine step_append_rd rfl _ _ 22 rfl w.heap.size 3 i0 (.int .i64 0) 1 8 Try.underlying22 hi0 hz0 hz1 hz2 rfl (by decide) (.slice A8 k c8) k (ints ((cast l).take k)) rfl (own8.alloc _) _ _ _ _ _ rfl ((Blk.new w8 3 [.int .i64 (x : Int)]).rd (size := 1) (n := 1) rfl) (ints_one [(x : Int)]) (by simp only [maxLen]; omega) (by omega) hHeld.size ?_; intro A7 c7 w7 h7 own7 grow7 at7)
            refine hK.out _ _ ?_ (fun hHeld => ?_)
            · (try dsimp only)
              exact hHeld.grown grow7 hHeld.size (fun k hk => (own8.lt k hk).1)
            clear hK K
            try simp only [Act.put, List.setIfInBounds_toArray, List.set_cons_zero, List.set_cons_succ]
            refine wpAnyH_ready (rs := [11]) (by kernel_rfl) (by simp) ?_
            refine AllReadyH.cons rfl (fun K hK => ?_) AllReadyH.nil
            refine step_append_rd rfl _ _ 22 rfl w.heap.size 3 i0 (.int .i64 0) 1 8 Try.underlying22 hi0 hz0 hz1 hz2 rfl (by decide) (.slice A7 (k + 1) c7) (k + 1) (ints ((cast l).take k) ++ ints [(x : Int)]) rfl (own7) _ _ _ _ _ rfl ((hR.below hHeld).dropI hk') (ints_one _) (by simp only [maxLen]; omega) (by omega) hHeld.size ?_; intro A9 c9 w9 h9 own9 grow9 at9; simp only [EK.out] at h9 own9 ⊢
            refine hK.out _ _ ?_ (fun hHeld => ?_)
            · (try dsimp only)
              exact hHeld.grown grow9 hHeld.size (fun k hk => (own7.lt k hk).1)
            clear hK K
            try simp only [Act.put, List.setIfInBounds_toArray, List.set_cons_zero, List.set_cons_succ]
            refine rgTake (i := 12) (d := 4) (v := ?_) rfl rfl (by kernel_rfl) (by kernel_rfl) (by kernel_rfl) (fun _ _ _ h => h) (by rfl) ?_ (by assumption) ?_
            rotate_left
            · ((intro w hSw); (try dsimp only at hSw); go_simp; (try with_reducible rfl))
            try simp only [Act.put, List.setIfInBounds_toArray, List.set_cons_zero, List.set_cons_succ]
            refine wpAnyH_done (by kernel_rfl) ?_ _
            have e9 := put_app l k x
            rw [e9] at own9
            go_wp2_with fail
            go_ret
            exact ⟨A9, c9, _, by rw [HPL.out]; rfl, HP.out.1, HP.out.2, HPL.out, by rw [HPL.out]; exact own9, hHeld⟩
          exact AllReadyH.nil
        refine AllReadyH.cons rfl (fun K hK => ?_) ?_
        ·
          go_simp
          refine hK.out _ _ ?_ (fun hHeld => ?_)
          · (try dsimp only)
            first | exact G.drew | exact hHeld.alloc hHeld.size _
          clear hK K
          try simp only [Act.put, List.setIfInBounds_toArray, List.set_cons_zero, List.set_cons_succ]
          refine wpAnyH_ready (rs := [0]) (by kernel_rfl) (by simp) ?_
          refine AllReadyH.cons rfl (fun K hK => ?_) AllReadyH.nil
          go_simp
          refine hK.out _ _ ?_ (fun hHeld => ?_)
          · (try dsimp only)
            first | exact G.drew | exact hHeld.alloc hHeld.size _
          clear hK K
          try simp only [Act.put, List.setIfInBounds_toArray, List.set_cons_zero, List.set_cons_succ]
          refine wpAnyH_ready (rs := [4]) (by kernel_rfl) (by simp) ?_
          refine AllReadyH.cons rfl (fun K hK => ?_) AllReadyH.nil
          first | (refine step_append_rd rfl _ _ 22 rfl w.heap.size 3 i0 (.int .i64 0) 1 8 Try.underlying22 hi0 hz0 hz1 hz2 rfl (by decide) (.slice (some ⟨wx.heap.size, 0, none⟩) 0 0) 0 [] rfl ((Blk.new wx 3 []).own (size := 1) (n := 0) G.size rfl (Nat.zero_le _)) _ _ _ _ _ rfl ((hR.below hHeld).takeI hk') (ints_one _) (by simp only [maxLen]; omega) (by omega) hHeld.size ?_; intro A8 c8 w8 h8 own8 grow8 at8; simp only [Nat.zero_add, List.nil_append] at h8 own8 at8 ⊢; have hne8 := own8) | (refine step_append_rd rfl _ _ 22 rfl w.heap.size 3 i0 (.int .i64 0) 1 8 Try.underlying22 hi0 hz0 hz1 hz2 rfl (by decide) (.slice (some ⟨wx.heap.size, 0, none⟩) 0 0) 0 [] rfl ((two_newI wx 3 [] [.int .i64 (x : Int)]).1.own (size := 1) (n := 0) G.size rfl (Nat.zero_le _)) _ _ _ _ _ rfl ((hR.below hHeld).takeI hk') (ints_one _) (by simp only [maxLen]; omega) (by omega) hHeld.size ?_; intro A8 c8 w8 h8 own8 grow8 at8; simp only [Nat.zero_add, List.nil_append] at h8 own8 at8 ⊢; have V8 : Blk w8 (wx.heap.size + 1) 3 [.int .i64 (x : Int)] := ((two_newI wx 3 [] [.int .i64 (x : Int)]).2).grown grow8 (by simp [Value.ownBlock]); have hne8 : (Value.slice A8 k c8).ownBlock ≠ some (wx.heap.size + 1) := fun e => by rcases at8 _ e with h | h <;> simp [Value.ownBlock] at h <;> omega) | (refine step_append_rd rfl _ _ 22 rfl w.heap.size 3 i0 (.int .i64 0) 1 8 Try.underlying22 hi0 hz0 hz1 hz2 rfl (by decide) (.slice (some ⟨wx.heap.size + 1, 0, none⟩) 0 0) 0 [] rfl ((two_newI wx 3 [.int .i64 (x : Int)] []).2.own (size := 1) (n := 0) (Nat.le_trans G.size (Nat.le_succ _)) rfl (Nat.zero_le _)) _ _ _ _ _ rfl ((hR.below hHeld).takeI hk') (ints_one _) (by simp only [maxLen]; omega) (by omega) hHeld.size ?_; intro A8 c8 w8 h8 own8 grow8 at8; simp only [Nat.zero_add, List.nil_append] at h8 own8 at8 ⊢; have V8 : Blk w8 (wx.heap.size) 3 [.int .i64 (x : Int)] := ((two_newI wx 3 [.int .i64 (x : Int)] []).1).grown grow8 (by simp [Value.ownBlock]); have hne8 : (Value.slice A8 k c8).ownBlock ≠ some (wx.heap.size) := fun e => by rcases at8 _ e with h | h <;> simp [Value.ownBlock] at h <;> omega)
          refine hK.out _ _ ?_ (fun hHeld => ?_)
          · (try dsimp only)
            exact hHeld.grown grow8 hHeld.size (fun k hk => by have hG := G.size; simp [Value.ownBlock] at hk; omega)
          clear hK K
          try simp only [Act.put, List.setIfInBounds_toArray, List.set_cons_zero, List.set_cons_succ]
          refine wpAnyH_ready (rs := [7]) (by kernel_rfl) (by simp) ?_
          refine AllReadyH.cons rfl (fun K hK => ?_) AllReadyH.nil
          first | (refine step_append_rd rfl _ _ 22 rfl w.heap.size 3 i0 (.int .i64 0) 1 8 Try.underlying22 hi0 hz0 hz1 hz2 rfl (by decide) (.slice A8 k c8) k (ints ((cast l).take k)) rfl (own8) _ _ _ _ _ rfl (V8.rd (size := 1) (n := 1) rfl) (ints_one [(x : Int)]) (by simp only [maxLen]; omega) (by omega) hHeld.size ?_; intro A7 c7 w7 h7 own7 grow7 at7) | (refine step_append_rd rfl _ _ 22 rfl w.heap.size 3 i0 (.int .i64 0) 1 8 Try.underlying22 hi0 hz0 hz1 hz2 rfl (by decide) (.slice A8 k c8) k (ints ((cast l).take k)) rfl (own8.alloc _) _ _ _ _ _ rfl ((Blk.new w8 3 [.int .i64 (x : Int)]).rd (size := 1) (n := 1) rfl) (ints_one [(x : Int)]) (by simp only [maxLen]; omega) (by omega) hHeld.size ?_; intro A7 c7 w7 h7 own7 grow7 at7)
          refine hK.out _ _ ?_ (fun hHeld => ?_)
          · (try dsimp only)
            exact hHeld.grown grow7 hHeld.size (fun k hk => (own8.lt k hk).1)
          clear hK K
          try simp only [Act.put, List.setIfInBounds_toArray, List.set_cons_zero, List.set_cons_succ]
          refine wpAnyH_ready (rs := [11]) (by kernel_rfl) (by simp) ?_
          refine AllReadyH.cons rfl (fun K hK => ?_) AllReadyH.nil
          refine step_append_rd rfl _ _ 22 rfl w.heap.size 3 i0 (.int .i64 0) 1 8 Try.underlying22 hi0 hz0 hz1 hz2 rfl (by decide) (.slice A7 (k + 1) c7) (k + 1) (ints ((cast l).take k) ++ ints [(x : Int)]) rfl (own7) _ _ _ _ _ rfl ((hR.below hHeld).dropI hk') (ints_one _) (by simp only [maxLen]; omega) (by omega) hHeld.size ?_; intro A9 c9 w9 h9 own9 grow9 at9; simp only [EK.out] at h9 own9 ⊢
          refine hK.out _ _ ?_ (fun hHeld => ?_)
          · (try dsimp only)
            exact hHeld.grown grow9 hHeld.size (fun k hk => (own7.lt k hk).1)
          clear hK K
          try simp only [Act.put, List.setIfInBounds_toArray, List.set_cons_zero, List.set_cons_succ]
          refine rgTake (i := 12) (d := 4) (v := ?_) rfl rfl (by kernel_rfl) (by kernel_rfl) (by kernel_rfl) (fun _ _ _ h => h) (by rfl) ?_ (by assumption) ?_
          rotate_left
          · ((intro w hSw); (try dsimp only at hSw); go_simp; (try with_reducible rfl))
          try simp only [Act.put, List.setIfInBounds_toArray, List.set_cons_zero, List.set_cons_succ]
          refine wpAnyH_done (by kernel_rfl) ?_ _
          have e9 := put_app l k x
          rw [e9] at own9
          go_wp2_with fail
          go_ret
          exact ⟨A9, c9, _, by rw [HPL.out]; rfl, HP.out.1, HP.out.2, HPL.out, by rw [HPL.out]; exact own9, hHeld⟩
        exact AllReadyH.nil
    · obtain rfl : k = q := by omega
      have hltI : ¬ (k : Int) < (k : Int) := by omega
      have HP := Lib.hid (put_asc HA.out HX.out (show k ≤ l.length by have := HQ.out; omega) HN.out (fun hi => absurd hi (by have := HQ.out; omega)))
      have EK := Lib.hid (show k + 1 + 0 = k + 1 by omega)
      have G := Below.refl w.heap.size w
      have HPL := Lib.hid (show (l.take k ++ x :: l.drop k).length = k + 1 by rw [List.length_append, List.length_take, List.length_cons, List.length_drop, HQ.out]; omega)
      have hk' : k ≤ k := Nat.le_refl _
      by_cases hcq2 : cq = k
      · subst hcq2
        go_upto_region 6 with (fail)
        refine wp_region_held_drew (S := fun w' => Below w.heap.size w w') (by kernel_rfl) ?_ (fun hHeld => ?_)
        · (try dsimp only)
          first | exact G.drew | exact hHeld.alloc hHeld.size _
        replace G := G.drew; generalize w.drew = wx at *
        refine rgTake (i := 1) (d := 34) (v := ?_) rfl rfl (by kernel_rfl) (by kernel_rfl) (by kernel_rfl) (fun _ _ _ h => h) (by rfl) ?_ (by assumption) ?_
        rotate_left
        · ((intro w hSw); (try dsimp only at hSw); go_simp; (try with_reducible rfl))
        try simp only [Act.put, List.setIfInBounds_toArray, List.set_cons_zero, List.set_cons_succ]
        refine rgTake (i := 2) (d := 35) (v := ?_) rfl rfl (by kernel_rfl) (by kernel_rfl) (by kernel_rfl) (fun _ _ _ h => h) (by rfl) ?_ (by assumption) ?_
        rotate_left
        · ((intro w hSw); (try dsimp only at hSw); go_simp; (try with_reducible rfl))
        try simp only [Act.put, List.setIfInBounds_toArray, List.set_cons_zero, List.set_cons_succ]
        refine rgTake (i := 3) (d := 36) (v := ?_) rfl rfl (by kernel_rfl) (by kernel_rfl) (by kernel_rfl) (fun _ _ _ h => h) (by rfl) ?_ (by assumption) ?_
        rotate_left
        · ((intro w hSw); (try dsimp only at hSw); go_simp; (try with_reducible rfl))
        try simp only [Act.put, List.setIfInBounds_toArray, List.set_cons_zero, List.set_cons_succ]
        refine rgTake (i := 5) (d := 38) (v := ?_) rfl rfl (by kernel_rfl) (by kernel_rfl) (by kernel_rfl) (fun _ _ _ h => h) (by rfl) ?_ (by assumption) ?_
        rotate_left
        · ((intro w hSw); (try dsimp only at hSw); go_simp; (try with_reducible rfl))
        try simp only [Act.put, List.setIfInBounds_toArray, List.set_cons_zero, List.set_cons_succ]
        refine rgTake (i := 8) (d := 41) (v := ?_) rfl rfl (by kernel_rfl) (by kernel_rfl) (by kernel_rfl) (fun _ _ _ h => h) (by rfl) ?_ (by assumption) ?_
        rotate_left
        · ((intro w hSw); (try dsimp only at hSw); go_simp; (try with_reducible rfl))
        try simp only [Act.put, List.setIfInBounds_toArray, List.set_cons_zero, List.set_cons_succ]
        refine rgTake (i := 9) (d := 42) (v := ?_) rfl rfl (by kernel_rfl) (by kernel_rfl) (by kernel_rfl) (fun _ _ _ h => h) (by rfl) ?_ (by assumption) ?_
        rotate_left
        · ((intro w hSw); (try dsimp only at hSw); go_simp; (try with_reducible rfl))
        try simp only [Act.put, List.setIfInBounds_toArray, List.set_cons_zero, List.set_cons_succ]
        refine rgTake (i := 10) (d := 43) (v := ?_) rfl rfl (by kernel_rfl) (by kernel_rfl) (by kernel_rfl) (fun _ _ _ h => h) (by rfl) ?_ (by assumption) ?_
        rotate_left
        · ((intro w hSw); (try dsimp only at hSw); go_simp; (try with_reducible rfl))
        try simp only [Act.put, List.setIfInBounds_toArray, List.set_cons_zero, List.set_cons_succ]
        refine wpAnyH_ready (rs := [0, 6]) (by kernel_rfl) (by simp) ?_
        refine AllReadyH.cons rfl (fun K hK => ?_) ?_
        ·
          go_simp
          refine hK.out _ _ ?_ (fun hHeld => ?_)
          · (try dsimp only)
            first | exact G.drew | exact hHeld.alloc hHeld.size _
          clear hK K
          try simp only [Act.put, List.setIfInBounds_toArray, List.set_cons_zero, List.set_cons_succ]
          refine wpAnyH_ready (rs := [4, 6]) (by kernel_rfl) (by simp) ?_
          refine AllReadyH.cons rfl (fun K hK => ?_) ?_
          ·
            first | (refine step_append_rd rfl _ _ 22 rfl w.heap.size 3 i0 (.int .i64 0) 1 8 Try.underlying22 hi0 hz0 hz1 hz2 rfl (by decide) (.slice (some ⟨wx.heap.size, 0, none⟩) 0 0) 0 [] rfl ((Blk.new wx 3 []).own (size := 1) (n := 0) G.size rfl (Nat.zero_le _)) _ _ _ _ _ rfl ((hR.below hHeld).takeI hk') (ints_one _) (by simp only [maxLen]; omega) (by omega) hHeld.size ?_; intro A8 c8 w8 h8 own8 grow8 at8; simp only [Nat.zero_add, List.nil_append] at h8 own8 at8 ⊢; have hne8 := own8) | (refine step_append_rd rfl _ _ 22 rfl w.heap.size 3 i0 (.int .i64 0) 1 8 Try.underlying22 hi0 hz0 hz1 hz2 rfl (by decide) (.slice (some ⟨wx.heap.size, 0, none⟩) 0 0) 0 [] rfl ((two_newI wx 3 [] [.int .i64 (x : Int)]).1.own (size := 1) (n := 0) G.size rfl (Nat.zero_le _)) _ _ _ _ _ rfl ((hR.below hHeld).takeI hk') (ints_one _) (by simp only [maxLen]; omega) (by omega) hHeld.size ?_; intro A8 c8 w8 h8 own8 grow8 at8; simp only [Nat.zero_add, List.nil_append] at h8 own8 at8 ⊢; have V8 : Blk w8 (wx.heap.size + 1) 3 [.int .i64 (x : Int)] := ((two_newI wx 3 [] [.int .i64 (x : Int)]).2).grown grow8 (by simp [Value.ownBlock]); have hne8 : (Value.slice A8 cq c8).ownBlock ≠ some (wx.heap.size + 1) := fun e => by rcases at8 _ e with h | h <;> simp [Value.ownBlock] at h <;> omega) | (refine step_append_rd rfl _ _ 22 rfl w.heap.size 3 i0 (.int .i64 0) 1 8 Try.underlying22 hi0 hz0 hz1 hz2 rfl (by decide) (.slice (some ⟨wx.heap.size + 1, 0, none⟩) 0 0) 0 [] rfl ((two_newI wx 3 [.int .i64 (x : Int)] []).2.own (size := 1) (n := 0) (Nat.le_trans G.size (Nat.le_succ _)) rfl (Nat.zero_le _)) _ _ _ _ _ rfl ((hR.below hHeld).takeI hk') (ints_one _) (by simp only [maxLen]; omega) (by omega) hHeld.size ?_; intro A8 c8 w8 h8 own8 grow8 at8; simp only [Nat.zero_add, List.nil_append] at h8 own8 at8 ⊢; have V8 : Blk w8 (wx.heap.size) 3 [.int .i64 (x : Int)] := ((two_newI wx 3 [.int .i64 (x : Int)] []).1).grown grow8 (by simp [Value.ownBlock]); have hne8 : (Value.slice A8 cq c8).ownBlock ≠ some (wx.heap.size) := fun e => by rcases at8 _ e with h | h <;> simp [Value.ownBlock] at h <;> omega)
            refine hK.out _ _ ?_ (fun hHeld => ?_)
            · (try dsimp only)
              exact hHeld.grown grow8 hHeld.size (fun k hk => by have hG := G.size; simp [Value.ownBlock] at hk; omega)
            clear hK K
            try simp only [Act.put, List.setIfInBounds_toArray, List.set_cons_zero, List.set_cons_succ]
            refine wpAnyH_ready (rs := [6]) (by kernel_rfl) (by simp) ?_
            refine AllReadyH.cons rfl (fun K hK => ?_) AllReadyH.nil
            go_simp
            refine hK.out _ _ ?_ (fun hHeld => ?_)
            · (try dsimp only)
              first | exact G.drew | exact hHeld.alloc hHeld.size _
            clear hK K
            try simp only [Act.put, List.setIfInBounds_toArray, List.set_cons_zero, List.set_cons_succ]
            refine wpAnyH_ready (rs := [7]) (by kernel_rfl) (by simp) ?_
            refine AllReadyH.cons rfl (fun K hK => ?_) AllReadyH.nil
            first | (refine step_append_rd rfl _ _ 22 rfl w.heap.size 3 i0 (.int .i64 0) 1 8 Try.underlying22 hi0 hz0 hz1 hz2 rfl (by decide) (.slice A8 cq c8) cq (ints ((cast l).take cq)) rfl (own8) _ _ _ _ _ rfl (V8.rd (size := 1) (n := 1) rfl) (ints_one [(x : Int)]) (by simp only [maxLen]; omega) (by omega) hHeld.size ?_; intro A7 c7 w7 h7 own7 grow7 at7) | (refine step_append_rd rfl _ _ 22 rfl w.heap.size 3 i0 (.int .i64 0) 1 8 Try.underlying22 hi0 hz0 hz1 hz2 rfl (by decide) (.slice A8 cq c8) cq (ints ((cast l).take cq)) rfl (own8.alloc _) _ _ _ _ _ rfl ((Blk.new w8 3 [.int .i64 (x : Int)]).rd (size := 1) (n := 1) rfl) (ints_one [(x : Int)]) (by simp only [maxLen]; omega) (by omega) hHeld.size ?_; intro A7 c7 w7 h7 own7 grow7 at7)
            refine hK.out _ _ ?_ (fun hHeld => ?_)
            · (try dsimp only)
              exact hHeld.grown grow7 hHeld.size (fun k hk => (own8.lt k hk).1)
            clear hK K
            try simp only [Act.put, List.setIfInBounds_toArray, List.set_cons_zero, List.set_cons_succ]
            refine wpAnyH_ready (rs := [11]) (by kernel_rfl) (by simp) ?_
            refine AllReadyH.cons rfl (fun K hK => ?_) AllReadyH.nil
            refine step_append_rd rfl _ _ 22 rfl w.heap.size 3 i0 (.int .i64 0) 1 8 Try.underlying22 hi0 hz0 hz1 hz2 rfl (by decide) (.slice A7 (cq + 1) c7) (cq + 1) (ints ((cast l).take cq) ++ ints [(x : Int)]) rfl (own7) _ _ _ _ _ rfl ((Rd.none_ : Rd _ w.heap.size 1 _ 0 [])) (fun u hu => by cases hu) (by simp only [maxLen]; omega) (by omega) hHeld.size ?_; intro A9 c9 w9 h9 own9 grow9 at9; simp only [EK.out, Nat.add_zero, List.append_nil] at h9 own9 ⊢
            refine hK.out _ _ ?_ (fun hHeld => ?_)
            · (try dsimp only)
              exact hHeld.grown grow9 hHeld.size (fun k hk => (own7.lt k hk).1)
            clear hK K
            try simp only [Act.put, List.setIfInBounds_toArray, List.set_cons_zero, List.set_cons_succ]
            refine rgTake (i := 12) (d := 4) (v := ?_) rfl rfl (by kernel_rfl) (by kernel_rfl) (by kernel_rfl) (fun _ _ _ h => h) (by rfl) ?_ (by assumption) ?_
            rotate_left
            · ((intro w hSw); (try dsimp only at hSw); go_simp; (try with_reducible rfl))
            try simp only [Act.put, List.setIfInBounds_toArray, List.set_cons_zero, List.set_cons_succ]
            refine wpAnyH_done (by kernel_rfl) ?_ _
            have e9 : ints ((cast l).take cq) ++ ints [(x : Int)] = ints (cast (l.take cq ++ x :: l.drop cq)) := by (rw [← put_app, List.drop_of_length_le (by rw [cast_len, HQ.out]; exact Nat.le_refl _)]; simp [ints])
            rw [e9] at own9
            go_wp2_with fail
            go_ret
            exact ⟨A9, c9, _, by rw [HPL.out]; rfl, HP.out.1, HP.out.2, HPL.out, by rw [HPL.out]; exact own9, hHeld⟩
          refine AllReadyH.cons rfl (fun K hK => ?_) ?_
          ·
            go_simp
            refine hK.out _ _ ?_ (fun hHeld => ?_)
            · (try dsimp only)
              first | exact G.drew | exact hHeld.alloc hHeld.size _
            clear hK K
            try simp only [Act.put, List.setIfInBounds_toArray, List.set_cons_zero, List.set_cons_succ]
            refine wpAnyH_ready (rs := [4]) (by kernel_rfl) (by simp) ?_
            refine AllReadyH.cons rfl (fun K hK => ?_) AllReadyH.nil
            first | (refine step_append_rd rfl _ _ 22 rfl w.heap.size 3 i0 (.int .i64 0) 1 8 Try.underlying22 hi0 hz0 hz1 hz2 rfl (by decide) (.slice (some ⟨wx.heap.size, 0, none⟩) 0 0) 0 [] rfl ((Blk.new wx 3 []).own (size := 1) (n := 0) G.size rfl (Nat.zero_le _)) _ _ _ _ _ rfl ((hR.below hHeld).takeI hk') (ints_one _) (by simp only [maxLen]; omega) (by omega) hHeld.size ?_; intro A8 c8 w8 h8 own8 grow8 at8; simp only [Nat.zero_add, List.nil_append] at h8 own8 at8 ⊢; have hne8 := own8) | (refine step_append_rd rfl _ _ 22 rfl w.heap.size 3 i0 (.int .i64 0) 1 8 Try.underlying22 hi0 hz0 hz1 hz2 rfl (by decide) (.slice (some ⟨wx.heap.size, 0, none⟩) 0 0) 0 [] rfl ((two_newI wx 3 [] [.int .i64 (x : Int)]).1.own (size := 1) (n := 0) G.size rfl (Nat.zero_le _)) _ _ _ _ _ rfl ((hR.below hHeld).takeI hk') (ints_one _) (by simp only [maxLen]; omega) (by omega) hHeld.size ?_; intro A8 c8 w8 h8 own8 grow8 at8; simp only [Nat.zero_add, List.nil_append] at h8 own8 at8 ⊢; have V8 : Blk w8 (wx.heap.size + 1) 3 [.int .i64 (x : Int)] := ((two_newI wx 3 [] [.int .i64 (x : Int)]).2).grown grow8 (by simp [Value.ownBlock]); have hne8 : (Value.slice A8 cq c8).ownBlock ≠ some (wx.heap.size + 1) := fun e => by rcases at8 _ e with h | h <;> simp [Value.ownBlock] at h <;> omega) | (refine step_append_rd rfl _ _ 22 rfl w.heap.size 3 i0 (.int .i64 0) 1 8 Try.underlying22 hi0 hz0 hz1 hz2 rfl (by decide) (.slice (some ⟨wx.heap.size + 1, 0, none⟩) 0 0) 0 [] rfl ((two_newI wx 3 [.int .i64 (x : Int)] []).2.own (size := 1) (n := 0) (Nat.le_trans G.size (Nat.le_succ _)) rfl (Nat.zero_le _)) _ _ _ _ _ rfl ((hR.below hHeld).takeI hk') (ints_one _) (by simp only [maxLen]; omega) (by omega) hHeld.size ?_; intro A8 c8 w8 h8 own8 grow8 at8; simp only [Nat.zero_add, List.nil_append] at h8 own8 at8 ⊢; have V8 : Blk w8 (wx.heap.size) 3 [.int .i64 (x : Int)] := ((two_newI wx 3 [.int .i64 (x : Int)] []).1).grown grow8 (by simp [Value.ownBlock]); have hne8 : (Value.slice A8 cq c8).ownBlock ≠ some (wx.heap.size) := fun e => by rcases at8 _ e with h | h <;> simp [Value.ownBlock] at h <;> omega)
            refine hK.out _ _ ?_ (fun hHeld => ?_)
            · (try dsimp only)
              exact hHeld.grown grow8 hHeld.size (fun k hk => by have hG := G.size; simp [Value.ownBlock] at hk; omega)
            clear hK K
            try simp only [Act.put, List.setIfInBounds_toArray, List.set_cons_zero, List.set_cons_succ]
            refine wpAnyH_ready (rs := [7]) (by kernel_rfl) (by simp) ?_
            refine AllReadyH.cons rfl (fun K hK => ?_) AllReadyH.nil
            first | (refine step_append_rd rfl _ _ 22 rfl w.heap.size 3 i0 (.int .i64 0) 1 8 Try.underlying22 hi0 hz0 hz1 hz2 rfl (by decide) (.slice A8 cq c8) cq (ints ((cast l).take cq)) rfl (own8) _ _ _ _ _ rfl (V8.rd (size := 1) (n := 1) rfl) (ints_one [(x : Int)]) (by simp only [maxLen]; omega) (by omega) hHeld.size ?_; intro A7 c7 w7 h7 own7 grow7 at7) | (refine step_append_rd rfl _ _ 22 rfl w.heap.size 3 i0 (.int .i64 0) 1 8 Try.underlying22 hi0 hz0 hz1 hz2 rfl (by decide) (.slice A8 cq c8) cq (ints ((cast l).take cq)) rfl (own8.alloc _) _ _ _ _ _ rfl ((Blk.new w8 3 [.int .i64 (x : Int)]).rd (size := 1) (n := 1) rfl) (ints_one [(x : Int)]) (by simp only [maxLen]; omega) (by omega) hHeld.size ?_; intro A7 c7 w7 h7 own7 grow7 at7)
            refine hK.out _ _ ?_ (fun hHeld => ?_)
            · (try dsimp only)
              exact hHeld.grown grow7 hHeld.size (fun k hk => (own8.lt k hk).1)
            clear hK K
            try simp only [Act.put, List.setIfInBounds_toArray, List.set_cons_zero, List.set_cons_succ]
            refine wpAnyH_ready (rs := [11]) (by kernel_rfl) (by simp) ?_
            refine AllReadyH.cons rfl (fun K hK => ?_) AllReadyH.nil
            refine step_append_rd rfl _ _ 22 rfl w.heap.size 3 i0 (.int .i64 0) 1 8 Try.underlying22 hi0 hz0 hz1 hz2 rfl (by decide) (.slice A7 (cq + 1) c7) (cq + 1) (ints ((cast l).take cq) ++ ints [(x : Int)]) rfl (own7) _ _ _ _ _ rfl ((Rd.none_ : Rd _ w.heap.size 1 _ 0 [])) (fun u hu => by cases hu) (by simp only [maxLen]; omega) (by omega) hHeld.size ?_; intro A9 c9 w9 h9 own9 grow9 at9; simp only [EK.out, Nat.add_zero, List.append_nil] at h9 own9 ⊢
            refine hK.out _ _ ?_ (fun hHeld => ?_)
            · (try dsimp only)
              exact hHeld.grown grow9 hHeld.size (fun k hk => (own7.lt k hk).1)
            clear hK K
            try simp only [Act.put, List.setIfInBounds_toArray, List.set_cons_zero, List.set_cons_succ]
            refine rgTake (i := 12) (d := 4) (v := ?_) rfl rfl (by kernel_rfl) (by kernel_rfl) (by kernel_rfl) (fun _ _ _ h => h) (by rfl) ?_ (by assumption) ?_
            rotate_left
            · ((intro w hSw); (try dsimp only at hSw); go_simp; (try with_reducible rfl))
            try simp only [Act.put, List.setIfInBounds_toArray, List.set_cons_zero, List.set_cons_succ]
            refine wpAnyH_done (by kernel_rfl) ?_ _
            have e9 : ints ((cast l).take cq) ++ ints [(x : Int)] = ints (cast (l.take cq ++ x :: l.drop cq)) := by (rw [← put_app, List.drop_of_length_le (by rw [cast_len, HQ.out]; exact Nat.le_refl _)]; simp [ints])
            rw [e9] at own9
            go_wp2_with fail
            go_ret
            exact ⟨A9, c9, _, by rw [HPL.out]; rfl, HP.out.1, HP.out.2, HPL.out, by rw [HPL.out]; exact own9, hHeld⟩
          exact AllReadyH.nil
        refine AllReadyH.cons rfl (fun K hK => ?_) ?_
        ·
          go_simp
          refine hK.out _ _ ?_ (fun hHeld => ?_)
          · (try dsimp only)
            first | exact G.drew | exact hHeld.alloc hHeld.size _
          clear hK K
          try simp only [Act.put, List.setIfInBounds_toArray, List.set_cons_zero, List.set_cons_succ]
          refine wpAnyH_ready (rs := [0]) (by kernel_rfl) (by simp) ?_
          refine AllReadyH.cons rfl (fun K hK => ?_) AllReadyH.nil
          go_simp
          refine hK.out _ _ ?_ (fun hHeld => ?_)
          · (try dsimp only)
            first | exact G.drew | exact hHeld.alloc hHeld.size _
          clear hK K
          try simp only [Act.put, List.setIfInBounds_toArray, List.set_cons_zero, List.set_cons_succ]
          refine wpAnyH_ready (rs := [4]) (by kernel_rfl) (by simp) ?_
          refine AllReadyH.cons rfl (fun K hK => ?_) AllReadyH.nil
          first | (refine step_append_rd rfl _ _ 22 rfl w.heap.size 3 i0 (.int .i64 0) 1 8 Try.underlying22 hi0 hz0 hz1 hz2 rfl (by decide) (.slice (some ⟨wx.heap.size, 0, none⟩) 0 0) 0 [] rfl ((Blk.new wx 3 []).own (size := 1) (n := 0) G.size rfl (Nat.zero_le _)) _ _ _ _ _ rfl ((hR.below hHeld).takeI hk') (ints_one _) (by simp only [maxLen]; omega) (by omega) hHeld.size ?_; intro A8 c8 w8 h8 own8 grow8 at8; simp only [Nat.zero_add, List.nil_append] at h8 own8 at8 ⊢; have hne8 := own8) | (refine step_append_rd rfl _ _ 22 rfl w.heap.size 3 i0 (.int .i64 0) 1 8 Try.underlying22 hi0 hz0 hz1 hz2 rfl (by decide) (.slice (some ⟨wx.heap.size, 0, none⟩) 0 0) 0 [] rfl ((two_newI wx 3 [] [.int .i64 (x : Int)]).1.own (size := 1) (n := 0) G.size rfl (Nat.zero_le _)) _ _ _ _ _ rfl ((hR.below hHeld).takeI hk') (ints_one _) (by simp only [maxLen]; omega) (by omega) hHeld.size ?_; intro A8 c8 w8 h8 own8 grow8 at8; simp only [Nat.zero_add, List.nil_append] at h8 own8 at8 ⊢; have V8 : Blk w8 (wx.heap.size + 1) 3 [.int .i64 (x : Int)] := ((two_newI wx 3 [] [.int .i64 (x : Int)]).2).grown grow8 (by simp [Value.ownBlock]); have hne8 : (Value.slice A8 cq c8).ownBlock ≠ some (wx.heap.size + 1) := fun e => by rcases at8 _ e with h | h <;> simp [Value.ownBlock] at h <;> omega) | (refine step_append_rd rfl _ _ 22 rfl w.heap.size 3 i0 (.int .i64 0) 1 8 Try.underlying22 hi0 hz0 hz1 hz2 rfl (by decide) (.slice (some ⟨wx.heap.size + 1, 0, none⟩) 0 0) 0 [] rfl ((two_newI wx 3 [.int .i64 (x : Int)] []).2.own (size := 1) (n := 0) (Nat.le_trans G.size (Nat.le_succ _)) rfl (Nat.zero_le _)) _ _ _ _ _ rfl ((hR.below hHeld).takeI hk') (ints_one _) (by simp only [maxLen]; omega) (by omega) hHeld.size ?_; intro A8 c8 w8 h8 own8 grow8 at8; simp only [Nat.zero_add, List.nil_append] at h8 own8 at8 ⊢; have V8 : Blk w8 (wx.heap.size) 3 [.int .i64 (x : Int)] := ((two_newI wx 3 [.int .i64 (x : Int)] []).1).grown grow8 (by simp [Value.ownBlock]); have hne8 : (Value.slice A8 cq c8).ownBlock ≠ some (wx.heap.size) := fun e => by rcases at8 _ e with h | h <;> simp [Value.ownBlock] at h <;> omega)
          refine hK.out _ _ ?_ (fun hHeld => ?_)
          · (try dsimp only)
            exact hHeld.grown grow8 hHeld.size (fun k hk => by have hG := G.size; simp [Value.ownBlock] at hk; omega)
          clear hK K
          try simp only [Act.put, List.setIfInBounds_toArray, List.set_cons_zero, List.set_cons_succ]
          refine wpAnyH_ready (rs := [7]) (by kernel_rfl) (by simp) ?_
          refine AllReadyH.cons rfl (fun K hK => ?_) AllReadyH.nil
          first | (refine step_append_rd rfl _ _ 22 rfl w.heap.size 3 i0 (.int .i64 0) 1 8 Try.underlying22 hi0 hz0 hz1 hz2 rfl (by decide) (.slice A8 cq c8) cq (ints ((cast l).take cq)) rfl (own8) _ _ _ _ _ rfl (V8.rd (size := 1) (n := 1) rfl) (ints_one [(x : Int)]) (by simp only [maxLen]; omega) (by omega) hHeld.size ?_; intro A7 c7 w7 h7 own7 grow7 at7) | (refine step_append_rd rfl _ _ 22 rfl w.heap.size 3 i0 (.int .i64 0) 1 8 Try.underlying22 hi0 hz0 hz1 hz2 rfl (by decide) (.slice A8 cq c8) cq (ints ((cast l).take cq)) rfl (own8.alloc _) _ _ _ _ _ rfl ((Blk.new w8 3 [.int .i64 (x : Int)]).rd (size := 1) (n := 1) rfl) (ints_one [(x : Int)]) (by simp only [maxLen]; omega) (by omega) hHeld.size ?_; intro A7 c7 w7 h7 own7 grow7 at7)
          refine hK.out _ _ ?_ (fun hHeld => ?_)
          · (try dsimp only)
            exact hHeld.grown grow7 hHeld.size (fun k hk => (own8.lt k hk).1)
          clear hK K
          try simp only [Act.put, List.setIfInBounds_toArray, List.set_cons_zero, List.set_cons_succ]
          refine wpAnyH_ready (rs := [11]) (by kernel_rfl) (by simp) ?_
          refine AllReadyH.cons rfl (fun K hK => ?_) AllReadyH.nil
          refine step_append_rd rfl _ _ 22 rfl w.heap.size 3 i0 (.int .i64 0) 1 8 Try.underlying22 hi0 hz0 hz1 hz2 rfl (by decide) (.slice A7 (cq + 1) c7) (cq + 1) (ints ((cast l).take cq) ++ ints [(x : Int)]) rfl (own7) _ _ _ _ _ rfl ((Rd.none_ : Rd _ w.heap.size 1 _ 0 [])) (fun u hu => by cases hu) (by simp only [maxLen]; omega) (by omega) hHeld.size ?_; intro A9 c9 w9 h9 own9 grow9 at9; simp only [EK.out, Nat.add_zero, List.append_nil] at h9 own9 ⊢
          refine hK.out _ _ ?_ (fun hHeld => ?_)
          · (try dsimp only)
            exact hHeld.grown grow9 hHeld.size (fun k hk => (own7.lt k hk).1)
          clear hK K
          try simp only [Act.put, List.setIfInBounds_toArray, List.set_cons_zero, List.set_cons_succ]
          refine rgTake (i := 12) (d := 4) (v := ?_) rfl rfl (by kernel_rfl) (by kernel_rfl) (by kernel_rfl) (fun _ _ _ h => h) (by rfl) ?_ (by assumption) ?_
          rotate_left
          · ((intro w hSw); (try dsimp only at hSw); go_simp; (try with_reducible rfl))
          try simp only [Act.put, List.setIfInBounds_toArray, List.set_cons_zero, List.set_cons_succ]
          refine wpAnyH_done (by kernel_rfl) ?_ _
          have e9 : ints ((cast l).take cq) ++ ints [(x : Int)] = ints (cast (l.take cq ++ x :: l.drop cq)) := by (rw [← put_app, List.drop_of_length_le (by rw [cast_len, HQ.out]; exact Nat.le_refl _)]; simp [ints])
          rw [e9] at own9
          go_wp2_with fail
          go_ret
          exact ⟨A9, c9, _, by rw [HPL.out]; rfl, HP.out.1, HP.out.2, HPL.out, by rw [HPL.out]; exact own9, hHeld⟩
        exact AllReadyH.nil
      · have hkc3 : (k : Int) ≤ (cq : Int) := by omega
        go_upto_region 6 with (fail)
        refine wp_region_held_drew (S := fun w' => Below w.heap.size w w') (by kernel_rfl) ?_ (fun hHeld => ?_)
        · (try dsimp only)
          first | exact G.drew | exact hHeld.alloc hHeld.size _
        replace G := G.drew; generalize w.drew = wx at *
        refine rgTake (i := 1) (d := 34) (v := ?_) rfl rfl (by kernel_rfl) (by kernel_rfl) (by kernel_rfl) (fun _ _ _ h => h) (by rfl) ?_ (by assumption) ?_
        rotate_left
        · ((intro w hSw); (try dsimp only at hSw); go_simp; (try with_reducible rfl))
        try simp only [Act.put, List.setIfInBounds_toArray, List.set_cons_zero, List.set_cons_succ]
        refine rgTake (i := 2) (d := 35) (v := ?_) rfl rfl (by kernel_rfl) (by kernel_rfl) (by kernel_rfl) (fun _ _ _ h => h) (by rfl) ?_ (by assumption) ?_
        rotate_left
        · ((intro w hSw); (try dsimp only at hSw); go_simp; (try with_reducible rfl))
        try simp only [Act.put, List.setIfInBounds_toArray, List.set_cons_zero, List.set_cons_succ]
        refine rgTake (i := 3) (d := 36) (v := ?_) rfl rfl (by kernel_rfl) (by kernel_rfl) (by kernel_rfl) (fun _ _ _ h => h) (by rfl) ?_ (by assumption) ?_
        rotate_left
        · ((intro w hSw); (try dsimp only at hSw); go_simp; (try with_reducible rfl))
        try simp only [Act.put, List.setIfInBounds_toArray, List.set_cons_zero, List.set_cons_succ]
        refine rgTake (i := 5) (d := 38) (v := ?_) rfl rfl (by kernel_rfl) (by kernel_rfl) (by kernel_rfl) (fun _ _ _ h => h) (by rfl) ?_ (by assumption) ?_
        rotate_left
        · ((intro w hSw); (try dsimp only at hSw); go_simp; (try with_reducible rfl))
        try simp only [Act.put, List.setIfInBounds_toArray, List.set_cons_zero, List.set_cons_succ]
        refine rgTake (i := 8) (d := 41) (v := ?_) rfl rfl (by kernel_rfl) (by kernel_rfl) (by kernel_rfl) (fun _ _ _ h => h) (by rfl) ?_ (by assumption) ?_
        rotate_left
        · ((intro w hSw); (try dsimp only at hSw); go_simp; (try with_reducible rfl))
        try simp only [Act.put, List.setIfInBounds_toArray, List.set_cons_zero, List.set_cons_succ]
        refine rgTake (i := 9) (d := 42) (v := ?_) rfl rfl (by kernel_rfl) (by kernel_rfl) (by kernel_rfl) (fun _ _ _ h => h) (by rfl) ?_ (by assumption) ?_
        rotate_left
        · ((intro w hSw); (try dsimp only at hSw); go_simp; (try with_reducible rfl))
        try simp only [Act.put, List.setIfInBounds_toArray, List.set_cons_zero, List.set_cons_succ]
        refine rgTake (i := 10) (d := 43) (v := ?_) rfl rfl (by kernel_rfl) (by kernel_rfl) (by kernel_rfl) (fun _ _ _ h => h) (by rfl) ?_ (by assumption) ?_
        rotate_left
        · ((intro w hSw); (try dsimp only at hSw); go_simp; (try with_reducible rfl))
        try simp only [Act.put, List.setIfInBounds_toArray, List.set_cons_zero, List.set_cons_succ]
        refine wpAnyH_ready (rs := [0, 6]) (by kernel_rfl) (by simp) ?_
        refine AllReadyH.cons rfl (fun K hK => ?_) ?_
        ·
          go_simp
          refine hK.out _ _ ?_ (fun hHeld => ?_)
          · (try dsimp only)
            first | exact G.drew | exact hHeld.alloc hHeld.size _
          clear hK K
          try simp only [Act.put, List.setIfInBounds_toArray, List.set_cons_zero, List.set_cons_succ]
          refine wpAnyH_ready (rs := [4, 6]) (by kernel_rfl) (by simp) ?_
          refine AllReadyH.cons rfl (fun K hK => ?_) ?_
          ·
            first | (refine step_append_rd rfl _ _ 22 rfl w.heap.size 3 i0 (.int .i64 0) 1 8 Try.underlying22 hi0 hz0 hz1 hz2 rfl (by decide) (.slice (some ⟨wx.heap.size, 0, none⟩) 0 0) 0 [] rfl ((Blk.new wx 3 []).own (size := 1) (n := 0) G.size rfl (Nat.zero_le _)) _ _ _ _ _ rfl ((hR.below hHeld).takeI hk') (ints_one _) (by simp only [maxLen]; omega) (by omega) hHeld.size ?_; intro A8 c8 w8 h8 own8 grow8 at8; simp only [Nat.zero_add, List.nil_append] at h8 own8 at8 ⊢; have hne8 := own8) | (refine step_append_rd rfl _ _ 22 rfl w.heap.size 3 i0 (.int .i64 0) 1 8 Try.underlying22 hi0 hz0 hz1 hz2 rfl (by decide) (.slice (some ⟨wx.heap.size, 0, none⟩) 0 0) 0 [] rfl ((two_newI wx 3 [] [.int .i64 (x : Int)]).1.own (size := 1) (n := 0) G.size rfl (Nat.zero_le _)) _ _ _ _ _ rfl ((hR.below hHeld).takeI hk') (ints_one _) (by simp only [maxLen]; omega) (by omega) hHeld.size ?_; intro A8 c8 w8 h8 own8 grow8 at8; simp only [Nat.zero_add, List.nil_append] at h8 own8 at8 ⊢; have V8 : Blk w8 (wx.heap.size + 1) 3 [.int .i64 (x : Int)] := ((two_newI wx 3 [] [.int .i64 (x : Int)]).2).grown grow8 (by simp [Value.ownBlock]); have hne8 : (Value.slice A8 k c8).ownBlock ≠ some (wx.heap.size + 1) := fun e => by rcases at8 _ e with h | h <;> simp [Value.ownBlock] at h <;> omega) | (refine step_append_rd rfl _ _ 22 rfl w.heap.size 3 i0 (.int .i64 0) 1 8 Try.underlying22 hi0 hz0 hz1 hz2 rfl (by decide) (.slice (some ⟨wx.heap.size + 1, 0, none⟩) 0 0) 0 [] rfl ((two_newI wx 3 [.int .i64 (x : Int)] []).2.own (size := 1) (n := 0) (Nat.le_trans G.size (Nat.le_succ _)) rfl (Nat.zero_le _)) _ _ _ _ _ rfl ((hR.below hHeld).takeI hk') (ints_one _) (by simp only [maxLen]; omega) (by omega) hHeld.size ?_; intro A8 c8 w8 h8 own8 grow8 at8; simp only [Nat.zero_add, List.nil_append] at h8 own8 at8 ⊢; have V8 : Blk w8 (wx.heap.size) 3 [.int .i64 (x : Int)] := ((two_newI wx 3 [.int .i64 (x : Int)] []).1).grown grow8 (by simp [Value.ownBlock]); have hne8 : (Value.slice A8 k c8).ownBlock ≠ some (wx.heap.size) := fun e => by rcases at8 _ e with h | h <;> simp [Value.ownBlock] at h <;> omega)
            refine hK.out _ _ ?_ (fun hHeld => ?_)
            · (try dsimp only)
              exact hHeld.grown grow8 hHeld.size (fun k hk => by have hG := G.size; simp [Value.ownBlock] at hk; omega)
            clear hK K
            try simp only [Act.put, List.setIfInBounds_toArray, List.set_cons_zero, List.set_cons_succ]
            refine wpAnyH_ready (rs := [6]) (by kernel_rfl) (by simp) ?_
            refine AllReadyH.cons rfl (fun K hK => ?_) AllReadyH.nil
            go_simp
            refine hK.out _ _ ?_ (fun hHeld => ?_)
            · (try dsimp only)
              first | exact G.drew | exact hHeld.alloc hHeld.size _
            clear hK K
            try simp only [Act.put, List.setIfInBounds_toArray, List.set_cons_zero, List.set_cons_succ]
            refine wpAnyH_ready (rs := [7]) (by kernel_rfl) (by simp) ?_
            refine AllReadyH.cons rfl (fun K hK => ?_) AllReadyH.nil
            first | (refine step_append_rd rfl _ _ 22 rfl w.heap.size 3 i0 (.int .i64 0) 1 8 Try.underlying22 hi0 hz0 hz1 hz2 rfl (by decide) (.slice A8 k c8) k (ints ((cast l).take k)) rfl (own8) _ _ _ _ _ rfl (V8.rd (size := 1) (n := 1) rfl) (ints_one [(x : Int)]) (by simp only [maxLen]; omega) (by omega) hHeld.size ?_; intro A7 c7 w7 h7 own7 grow7 at7) | (refine step_append_rd rfl _ _ 22 rfl w.heap.size 3 i0 (.int .i64 0) 1 8 Try.underlying22 hi0 hz0 hz1 hz2 rfl (by decide) (.slice A8 k c8) k (ints ((cast l).take k)) rfl (own8.alloc _) _ _ _ _ _ rfl ((Blk.new w8 3 [.int .i64 (x : Int)]).rd (size := 1) (n := 1) rfl) (ints_one [(x : Int)]) (by simp only [maxLen]; omega) (by omega) hHeld.size ?_; intro A7 c7 w7 h7 own7 grow7 at7)
            refine hK.out _ _ ?_ (fun hHeld => ?_)
            · (try dsimp only)
              exact hHeld.grown grow7 hHeld.size (fun k hk => (own8.lt k hk).1)
            clear hK K
            try simp only [Act.put, List.setIfInBounds_toArray, List.set_cons_zero, List.set_cons_succ]
            refine wpAnyH_ready (rs := [11]) (by kernel_rfl) (by simp) ?_
            refine AllReadyH.cons rfl (fun K hK => ?_) AllReadyH.nil
            refine step_append_rd rfl _ _ 22 rfl w.heap.size 3 i0 (.int .i64 0) 1 8 Try.underlying22 hi0 hz0 hz1 hz2 rfl (by decide) (.slice A7 (k + 1) c7) (k + 1) (ints ((cast l).take k) ++ ints [(x : Int)]) rfl (own7) _ _ _ _ _ rfl ((Rd.none_ : Rd _ w.heap.size 1 _ 0 [])) (fun u hu => by cases hu) (by simp only [maxLen]; omega) (by omega) hHeld.size ?_; intro A9 c9 w9 h9 own9 grow9 at9; simp only [EK.out, Nat.add_zero, List.append_nil] at h9 own9 ⊢
            refine hK.out _ _ ?_ (fun hHeld => ?_)
            · (try dsimp only)
              exact hHeld.grown grow9 hHeld.size (fun k hk => (own7.lt k hk).1)
            clear hK K
            try simp only [Act.put, List.setIfInBounds_toArray, List.set_cons_zero, List.set_cons_succ]
            refine rgTake (i := 12) (d := 4) (v := ?_) rfl rfl (by kernel_rfl) (by kernel_rfl) (by kernel_rfl) (fun _ _ _ h => h) (by rfl) ?_ (by assumption) ?_
            rotate_left
            · ((intro w hSw); (try dsimp only at hSw); go_simp; (try with_reducible rfl))
            try simp only [Act.put, List.setIfInBounds_toArray, List.set_cons_zero, List.set_cons_succ]
            refine wpAnyH_done (by kernel_rfl) ?_ _
            have e9 : ints ((cast l).take k) ++ ints [(x : Int)] = ints (cast (l.take k ++ x :: l.drop k)) := by (rw [← put_app, List.drop_of_length_le (by rw [cast_len, HQ.out]; exact Nat.le_refl _)]; simp [ints])
            rw [e9] at own9
            go_wp2_with fail
            go_ret
            exact ⟨A9, c9, _, by rw [HPL.out]; rfl, HP.out.1, HP.out.2, HPL.out, by rw [HPL.out]; exact own9, hHeld⟩
          refine AllReadyH.cons rfl (fun K hK => ?_) ?_
          ·
            go_simp
            refine hK.out _ _ ?_ (fun hHeld => ?_)
            · (try dsimp only)
              first | exact G.drew | exact hHeld.alloc hHeld.size _
            clear hK K
            try simp only [Act.put, List.setIfInBounds_toArray, List.set_cons_zero, List.set_cons_succ]
            refine wpAnyH_ready (rs := [4]) (by kernel_rfl) (by simp) ?_
            refine AllReadyH.cons rfl (fun K hK => ?_) AllReadyH.nil
            first | (refine step_append_rd rfl _ _ 22 rfl w.heap.size 3 i0 (.int .i64 0) 1 8 Try.underlying22 hi0 hz0 hz1 hz2 rfl (by decide) (.slice (some ⟨wx.heap.size, 0, none⟩) 0 0) 0 [] rfl ((Blk.new wx 3 []).own (size := 1) (n := 0) G.size rfl (Nat.zero_le _)) _ _ _ _ _ rfl ((hR.below hHeld).takeI hk') (ints_one _) (by simp only [maxLen]; omega) (by omega) hHeld.size ?_; intro A8 c8 w8 h8 own8 grow8 at8; simp only [Nat.zero_add, List.nil_append] at h8 own8 at8 ⊢; have hne8 := own8) | (refine step_append_rd rfl _ _ 22 rfl w.heap.size 3 i0 (.int .i64 0) 1 8 Try.underlying22 hi0 hz0 hz1 hz2 rfl (by decide) (.slice (some ⟨wx.heap.size, 0, none⟩) 0 0) 0 [] rfl ((two_newI wx 3 [] [.int .i64 (x : Int)]).1.own (size := 1) (n := 0) G.size rfl (Nat.zero_le _)) _ _ _ _ _ rfl ((hR.below hHeld).takeI hk') (ints_one _) (by simp only [maxLen]; omega) (by omega) hHeld.size ?_; intro A8 c8 w8 h8 own8 grow8 at8; simp only [Nat.zero_add, List.nil_append] at h8 own8 at8 ⊢; have V8 : Blk w8 (wx.heap.size + 1) 3 [.int .i64 (x : Int)] := ((two_newI wx 3 [] [.int .i64 (x : Int)]).2).grown grow8 (by simp [Value.ownBlock]); have hne8 : (Value.slice A8 k c8).ownBlock ≠ some (wx.heap.size + 1) := fun e => by rcases at8 _ e with h | h <;> simp [Value.ownBlock] at h <;> omega) | (refine step_append_rd rfl _ _ 22 rfl w.heap.size 3 i0 (.int .i64 0) 1 8 Try.underlying22 hi0 hz0 hz1 hz2 rfl (by decide) (.slice (some ⟨wx.heap.size + 1, 0, none⟩) 0 0) 0 [] rfl ((two_newI wx 3 [.int .i64 (x : Int)] []).2.own (size := 1) (n := 0) (Nat.le_trans G.size (Nat.le_succ _)) rfl (Nat.zero_le _)) _ _ _ _ _ rfl ((hR.below hHeld).takeI hk') (ints_one _) (by simp only [maxLen]; omega) (by omega) hHeld.size ?_; intro A8 c8 w8 h8 own8 grow8 at8; simp only [Nat.zero_add, List.nil_append] at h8 own8 at8 ⊢; have V8 : Blk w8 (wx.heap.size) 3 [.int .i64 (x : Int)] := ((two_newI wx 3 [.int .i64 (x : Int)] []).1).grown grow8 (by simp [Value.ownBlock]); have hne8 : (Value.slice A8 k c8).ownBlock ≠ some (wx.heap.size) := fun e => by rcases at8 _ e with h | h <;> simp [Value.ownBlock] at h <;> omega)
            refine hK.out _ _ ?_ (fun hHeld => ?_)
            · (try dsimp only)
              exact hHeld.grown grow8 hHeld.size (fun k hk => by have hG := G.size; simp [Value.ownBlock] at hk; omega)
            clear hK K
            try simp only [Act.put, List.setIfInBounds_toArray, List.set_cons_zero, List.set_cons_succ]
            refine wpAnyH_ready (rs := [7]) (by kernel_rfl) (by simp) ?_
            refine AllReadyH.cons rfl (fun K hK => ?_) AllReadyH.nil
            first | (refine step_append_rd rfl _ _ 22 rfl w.heap.size 3 i0 (.int .i64 0) 1 8 Try.underlying22 hi0 hz0 hz1 hz2 rfl (by decide) (.slice A8 k c8) k (ints ((cast l).take k)) rfl (own8) _ _ _ _ _ rfl (V8.rd (size := 1) (n := 1) rfl) (ints_one [(x : Int)]) (by simp only [maxLen]; omega) (by omega) hHeld.size ?_; intro A7 c7 w7 h7 own7 grow7 at7) | (refine step_append_rd rfl _ _ 22 rfl w.heap.size 3 i0 (.int .i64 0) 1 8 Try.underlying22 hi0 hz0 hz1 hz2 rfl (by decide) (.slice A8 k c8) k (ints ((cast l).take k)) rfl (own8.alloc _) _ _ _ _ _ rfl ((Blk.new w8 3 [.int .i64 (x : Int)]).rd (size := 1) (n := 1) rfl) (ints_one [(x : Int)]) (by simp only [maxLen]; omega) (by omega) hHeld.size ?_; intro A7 c7 w7 h7 own7 grow7 at7)
            refine hK.out _ _ ?_ (fun hHeld => ?_)
            · (try dsimp only)
              exact hHeld.grown grow7 hHeld.size (fun k hk => (own8.lt k hk).1)
            clear hK K
            try simp only [Act.put, List.setIfInBounds_toArray, List.set_cons_zero, List.set_cons_succ]
            refine wpAnyH_ready (rs := [11]) (by kernel_rfl) (by simp) ?_
            refine AllReadyH.cons rfl (fun K hK => ?_) AllReadyH.nil
            refine step_append_rd rfl _ _ 22 rfl w.heap.size 3 i0 (.int .i64 0) 1 8 Try.underlying22 hi0 hz0 hz1 hz2 rfl (by decide) (.slice A7 (k + 1) c7) (k + 1) (ints ((cast l).take k) ++ ints [(x : Int)]) rfl (own7) _ _ _ _ _ rfl ((Rd.none_ : Rd _ w.heap.size 1 _ 0 [])) (fun u hu => by cases hu) (by simp only [maxLen]; omega) (by omega) hHeld.size ?_; intro A9 c9 w9 h9 own9 grow9 at9; simp only [EK.out, Nat.add_zero, List.append_nil] at h9 own9 ⊢
            refine hK.out _ _ ?_ (fun hHeld => ?_)
            · (try dsimp only)
              exact hHeld.grown grow9 hHeld.size (fun k hk => (own7.lt k hk).1)
            clear hK K
            try simp only [Act.put, List.setIfInBounds_toArray, List.set_cons_zero, List.set_cons_succ]
            refine rgTake (i := 12) (d := 4) (v := ?_) rfl rfl (by kernel_rfl) (by kernel_rfl) (by kernel_rfl) (fun _ _ _ h => h) (by rfl) ?_ (by assumption) ?_
            rotate_left
            · ((intro w hSw); (try dsimp only at hSw); go_simp; (try with_reducible rfl))
            try simp only [Act.put, List.setIfInBounds_toArray, List.set_cons_zero, List.set_cons_succ]
            refine wpAnyH_done (by kernel_rfl) ?_ _
            have e9 : ints ((cast l).take k) ++ ints [(x : Int)] = ints (cast (l.take k ++ x :: l.drop k)) := by (rw [← put_app, List.drop_of_length_le (by rw [cast_len, HQ.out]; exact Nat.le_refl _)]; simp [ints])
            rw [e9] at own9
            go_wp2_with fail
            go_ret
            exact ⟨A9, c9, _, by rw [HPL.out]; rfl, HP.out.1, HP.out.2, HPL.out, by rw [HPL.out]; exact own9, hHeld⟩
          exact AllReadyH.nil
        refine AllReadyH.cons rfl (fun K hK => ?_) ?_
        ·
          go_simp
          refine hK.out _ _ ?_ (fun hHeld => ?_)
          · (try dsimp only)
            first | exact G.drew | exact hHeld.alloc hHeld.size _
          clear hK K
          try simp only [Act.put, List.setIfInBounds_toArray, List.set_cons_zero, List.set_cons_succ]
          refine wpAnyH_ready (rs := [0]) (by kernel_rfl) (by simp) ?_
          refine AllReadyH.cons rfl (fun K hK => ?_) AllReadyH.nil
          go_simp
          refine hK.out _ _ ?_ (fun hHeld => ?_)
          · (try dsimp only)
            first | exact G.drew | exact hHeld.alloc hHeld.size _
          clear hK K
          try simp only [Act.put, List.setIfInBounds_toArray, List.set_cons_zero, List.set_cons_succ]
          refine wpAnyH_ready (rs := [4]) (by kernel_rfl) (by simp) ?_
          refine AllReadyH.cons rfl (fun K hK => ?_) AllReadyH.nil
          first | (refine step_append_rd rfl _ _ 22 rfl w.heap.size 3 i0 (.int .i64 0) 1 8 Try.underlying22 hi0 hz0 hz1 hz2 rfl (by decide) (.slice (some ⟨wx.heap.size, 0, none⟩) 0 0) 0 [] rfl ((Blk.new wx 3 []).own (size := 1) (n := 0) G.size rfl (Nat.zero_le _)) _ _ _ _ _ rfl ((hR.below hHeld).takeI hk') (ints_one _) (by simp only [maxLen]; omega) (by omega) hHeld.size ?_; intro A8 c8 w8 h8 own8 grow8 at8; simp only [Nat.zero_add, List.nil_append] at h8 own8 at8 ⊢; have hne8 := own8) | (refine step_append_rd rfl _ _ 22 rfl w.heap.size 3 i0 (.int .i64 0) 1 8 Try.underlying22 hi0 hz0 hz1 hz2 rfl (by decide) (.slice (some ⟨wx.heap.size, 0, none⟩) 0 0) 0 [] rfl ((two_newI wx 3 [] [.int .i64 (x : Int)]).1.own (size := 1) (n := 0) G.size rfl (Nat.zero_le _)) _ _ _ _ _ rfl ((hR.below hHeld).takeI hk') (ints_one _) (by simp only [maxLen]; omega) (by omega) hHeld.size ?_; intro A8 c8 w8 h8 own8 grow8 at8; simp only [Nat.zero_add, List.nil_append] at h8 own8 at8 ⊢; have V8 : Blk w8 (wx.heap.size + 1) 3 [.int .i64 (x : Int)] := ((two_newI wx 3 [] [.int .i64 (x : Int)]).2).grown grow8 (by simp [Value.ownBlock]); have hne8 : (Value.slice A8 k c8).ownBlock ≠ some (wx.heap.size + 1) := fun e => by rcases at8 _ e with h | h <;> simp [Value.ownBlock] at h <;> omega) | (refine step_append_rd rfl _ _ 22 rfl w.heap.size 3 i0 (.int .i64 0) 1 8 Try.underlying22 hi0 hz0 hz1 hz2 rfl (by decide) (.slice (some ⟨wx.heap.size + 1, 0, none⟩) 0 0) 0 [] rfl ((two_newI wx 3 [.int .i64 (x : Int)] []).2.own (size := 1) (n := 0) (Nat.le_trans G.size (Nat.le_succ _)) rfl (Nat.zero_le _)) _ _ _ _ _ rfl ((hR.below hHeld).takeI hk') (ints_one _) (by simp only [maxLen]; omega) (by omega) hHeld.size ?_; intro A8 c8 w8 h8 own8 grow8 at8; simp only [Nat.zero_add, List.nil_append] at h8 own8 at8 ⊢; have V8 : Blk w8 (wx.heap.size) 3 [.int .i64 (x : Int)] := ((two_newI wx 3 [.int .i64 (x : Int)] []).1).grown grow8 (by simp [Value.ownBlock]); have hne8 : (Value.slice A8 k c8).ownBlock ≠ some (wx.heap.size) := fun e => by rcases at8 _ e with h | h <;> simp [Value.ownBlock] at h <;> omega)
          refine hK.out _ _ ?_ (fun hHeld => ?_)
          · (try dsimp only)
            exact hHeld.grown grow8 hHeld.size (fun k hk => by have hG := G.size; simp [Value.ownBlock] at hk; omega)
          clear hK K
          try simp only [Act.put, List.setIfInBounds_toArray, List.set_cons_zero, List.set_cons_succ]
          refine wpAnyH_ready (rs := [7]) (by kernel_rfl) (by simp) ?_
          refine AllReadyH.cons rfl (fun K hK => ?_) AllReadyH.nil
          first | (refine step_append_rd rfl _ _ 22 rfl w.heap.size 3 i0 (.int .i64 0) 1 8 Try.underlying22 hi0 hz0 hz1 hz2 rfl (by decide) (.slice A8 k c8) k (ints ((cast l).take k)) rfl (own8) _ _ _ _ _ rfl (V8.rd (size := 1) (n := 1) rfl) (ints_one [(x : Int)]) (by simp only [maxLen]; omega) (by omega) hHeld.size ?_; intro A7 c7 w7 h7 own7 grow7 at7) | (refine step_append_rd rfl _ _ 22 rfl w.heap.size 3 i0 (.int .i64 0) 1 8 Try.underlying22 hi0 hz0 hz1 hz2 rfl (by decide) (.slice A8 k c8) k (ints ((cast l).take k)) rfl (own8.alloc _) _ _ _ _ _ rfl ((Blk.new w8 3 [.int .i64 (x : Int)]).rd (size := 1) (n := 1) rfl) (ints_one [(x : Int)]) (by simp only [maxLen]; omega) (by omega) hHeld.size ?_; intro A7 c7 w7 h7 own7 grow7 at7)
          refine hK.out _ _ ?_ (fun hHeld => ?_)
          · (try dsimp only)
            exact hHeld.grown grow7 hHeld.size (fun k hk => (own8.lt k hk).1)
          clear hK K
          try simp only [Act.put, List.setIfInBounds_toArray, List.set_cons_zero, List.set_cons_succ]
          refine wpAnyH_ready (rs := [11]) (by kernel_rfl) (by simp) ?_
          refine AllReadyH.cons rfl (fun K hK => ?_) AllReadyH.nil
          refine step_append_rd rfl _ _ 22 rfl w.heap.size 3 i0 (.int .i64 0) 1 8 Try.underlying22 hi0 hz0 hz1 hz2 rfl (by decide) (.slice A7 (k + 1) c7) (k + 1) (ints ((cast l).take k) ++ ints [(x : Int)]) rfl (own7) _ _ _ _ _ rfl ((Rd.none_ : Rd _ w.heap.size 1 _ 0 [])) (fun u hu => by cases hu) (by simp only [maxLen]; omega) (by omega) hHeld.size ?_; intro A9 c9 w9 h9 own9 grow9 at9; simp only [EK.out, Nat.add_zero, List.append_nil] at h9 own9 ⊢
          refine hK.out _ _ ?_ (fun hHeld => ?_)
          · (try dsimp only)
            exact hHeld.grown grow9 hHeld.size (fun k hk => (own7.lt k hk).1)
          clear hK K
          try simp only [Act.put, List.setIfInBounds_toArray, List.set_cons_zero, List.set_cons_succ]
          refine rgTake (i := 12) (d := 4) (v := ?_) rfl rfl (by kernel_rfl) (by kernel_rfl) (by kernel_rfl) (fun _ _ _ h => h) (by rfl) ?_ (by assumption) ?_
          rotate_left
          · ((intro w hSw); (try dsimp only at hSw); go_simp; (try with_reducible rfl))
          try simp only [Act.put, List.setIfInBounds_toArray, List.set_cons_zero, List.set_cons_succ]
          refine wpAnyH_done (by kernel_rfl) ?_ _
          have e9 : ints ((cast l).take k) ++ ints [(x : Int)] = ints (cast (l.take k ++ x :: l.drop k)) := by (rw [← put_app, List.drop_of_length_le (by rw [cast_len, HQ.out]; exact Nat.le_refl _)]; simp [ints])
          rw [e9] at own9
          go_wp2_with fail
          go_ret
          exact ⟨A9, c9, _, by rw [HPL.out]; rfl, HP.out.1, HP.out.2, HPL.out, by rw [HPL.out]; exact own9, hHeld⟩
        exact AllReadyH.nil
end Go.Proofs.Ytdjdjceemfaigaa
