/- The reference's drawn list of runners. -/
import Derived.Test.YtmmpcchjalgokaaGreatDoorDrw
namespace Go.Proofs.YtmmpcchjalgokaaGreatDoor
set_option linter.unusedVariables false
set_option linter.unusedSimpArgs false
open Go.RowKit
theorem ch_new2 {S T : Nat → Prop} {w w' w'' : World} (h : Ch S w w') (c : Ch T w' w'') (hT : ∀ j, T j → w.heap.size ≤ j) : Ch S w w'' :=
  ⟨c.os.trans h.os, c.tape.trans h.tape, c.output.trans h.output, Nat.le_trans h.size c.size, fun i hi hs => (c.block i (Nat.lt_of_lt_of_le hi h.size) (fun h9 => by have := hT i h9; omega)).trans (h.block i hi hs)⟩
theorem rns_snoc (l : List Rn) (r : Rn) : rns l ++ r.cells = rns (l ++ [r]) := by simp [rns]
theorem ok_snoc {l : List Rn} {r : Rn} (hs : ∀ x ∈ l, Rn.Ok x) (hr : Rn.Ok r) : ∀ x ∈ l ++ [r], Rn.Ok x := by
  intro x hx
  rcases List.mem_append.1 hx with h | h
  · exact hs x h
  · rw [List.mem_singleton.1 h]; exact hr
theorem own_some {w : World} {base n c : Nat} {e : TypeId} {size : Nat} {A : Option Addr} {xs : List Value} (h : w.ownsRow base e size (.slice A n c) n xs) (hn : 0 < n) : ∃ g, A = some ⟨g, 0, none⟩ := by
  rcases h.2 with ⟨h1, h2⟩ | ⟨g, cap, _, h1, _⟩
  · injection h1 with a b c
    omega
  · injection h1 with a b c
    exact ⟨g, a⟩
theorem adL_ok {l : List Rn} {r : Rn} (hs : ∀ x ∈ l, Rn.Ok x) (hr : Rn.Ok r) : ∀ x ∈ adL l r, Rn.Ok x := by
  intro x hx
  unfold adL insL at hx
  rcases List.mem_append.1 hx with h | h
  · exact hs x (List.mem_of_mem_take h)
  · rcases List.mem_cons.1 h with rfl | h
    · exact hr
    · exact hs x (List.mem_of_mem_drop h)
theorem adOk_len {l : List Rn} {r : Rn} (h : adOk l r = true) : (adL l r).length ≤ 10 := by
  unfold adOk at h
  rw [Bool.and_eq_true] at h
  have h2 := h.2
  unfold okRns at h2
  rw [Bool.and_eq_true] at h2
  simpa using h2.1
theorem adL_pos (l : List Rn) (r : Rn) : 0 < (adL l r).length := by
  unfold adL insL
  simp
  omega
set_option maxRecDepth 100000 in
set_option maxHeartbeats 1000000 in
theorem runners_any {b g : Nat} {k : Int} {w : World} (K : Cur w b g k) (hk : k ≤ 400000) :
    Calls Tryz.prog 73 #[.pointer (some ⟨g, 0, none⟩)] w fun e w' => ∃ g9 cp l, e = .returned (.slice (some ⟨g9, 0, none⟩) (List.length l) cp) ∧ l.length ≤ cp ∧ l.length ≤ 20 ∧ (∀ r ∈ l, Rn.Ok r) ∧ w'.ownsRow w.heap.size 41 6 (.slice (some ⟨g9, 0, none⟩) l.length cp) l.length (rns l) ∧ Cur w' b g (k + 400) ∧ Ch (fun j => j = g) w w' := by
  have hl := K.lt.1
  go_enter Tryz.func73, Tryz.ntmps73
  go_wp2_with fail
  refine (pick_any (K.alloc _) (by omega) (by omega) (by omega)).mono ?_
  rintro e w1 ⟨x, rfl, hx0, hx1, K1, hc1⟩
  have O1 : (w.alloc (.cells #[] 41)).ownsRow w.heap.size 41 6 (.slice (some ⟨w.heap.size, 0, none⟩) 0 0) 0 (rns []) := World.ownsRow_lit (e := 41) (size := 6) w #[] 0 (Nat.le_refl _) (by simp) rfl
  replace O1 := own_ch O1 hc1 (fun k hk h => by have := (O1.lt k hk).1; subst h; omega)
  have HC1 := (ch_alloc (ch_refl (S := fun j => j = g) w) (.cells #[] 41)).trans hc1
  obtain ⟨x9, hx9⟩ : ∃ x9 : Nat, x = x9 := ⟨x.toNat, by omega⟩
  subst hx9
  have hx7 : x9 ≤ 7 := by omega
  clear hc1 hx0 hx1 K
  go_wp2_with fail
  go_loopw [3, 4, 5] (fun o d i wr => ∃ (g9 cp : Nat) (l : List Rn) (n : Nat) (kk dd : Int), o = .slice (some ⟨g9, 0, none⟩) l.length cp ∧ d = .int .i64 dd ∧ i = .int .i64 n ∧ l.length ≤ cp ∧ l.length ≤ 10 ∧ n ≤ 7 ∧ 0 ≤ dd ∧ dd + 4 * n ≤ 28 ∧ kk + 22 * n ≤ k + 2 + 154 ∧ Hid (∀ r ∈ l, Rn.Ok r) ∧ wr.ownsRow w.heap.size 41 6 (.slice (some ⟨g9, 0, none⟩) l.length cp) l.length (rns l) ∧ Cur wr b g kk ∧ Ch (fun j => j = g) w wr) (fun _ _ i _ => (intOf i).toNat)
  case atStart => exact ⟨w.heap.size, 0, [], x9, k + 2, 0, rfl, rfl, rfl, Nat.le_refl _, by simp, hx7, by omega, by omega, by omega, (fun r h => by cases h), O1, K1, HC1⟩
  clear O1 HC1 K1
  case round =>
    obtain ⟨g9, cp, l, n, kk, dd, rfl, rfl, rfl, hcp, hl10, hn7, hd0, hd1, hkk, HOK, O, K, HC⟩ := hrel
    by_cases hn0 : 0 < n
    · have hn0i : (0 : Int) < (n : Int) := by omega
      have hp1 : IntKind.i64.wrap (dd + 1) = dd + 1 := IntWalk.i64_in _ (by omega)
      have hp3 : IntKind.i64.wrap ((n : Int) - 1) = (n : Int) - 1 := IntWalk.i64_in _ (by omega)
      have hnn : (n : Int) - 1 = ((n - 1 : Nat) : Int) := by omega
      generalize hll : l.length = ll at *
      have HLL := Lib.hid hll
      clear hll
      go_wp2_with fail
      refine (pick_any K (by omega) (by omega) (by omega)).mono ?_
      rintro e w2 ⟨y, rfl, hy0, hy1, K2, hc2⟩
      replace O := own_ch O hc2 (fun k hk h => by have := (O.lt k hk).1; subst h; omega)
      replace HC := HC.trans hc2
      have hp2 : IntKind.i64.wrap (dd + 1 + y) = dd + 1 + y := IntWalk.i64_in _ (by omega)
      clear hc2 K
      go_wp2_with fail
      refine (runner_any K2 (by omega) (by omega)).mono ?_
      rintro e w3 ⟨r, hr, rfl, K3, hc3⟩
      replace O := own_ch O hc3 (fun k hk h => by have := (O.lt k hk).1; subst h; omega)
      replace HC := HC.trans hc3
      clear hc3 K2
      have HR := Lib.hid hr
      have h1 := hr.2.1
      have h2 := hr.2.2.1
      clear hr
      go_wp2_with fail
      refine (AddRunner_spec (l := l) (r := r) (Rd.of_own O) (by omega) (by omega) (fun r h => ⟨(HOK.out r h).2.1, (HOK.out r h).2.2.1⟩) ⟨h1, h2⟩).mono ?_
      rintro e w4 ⟨A9, c9, rfl, O9, hb4⟩
      have O4 := own_below O hb4
      have K4 := K3.on hb4
      have H4 := HC.trans (Ch.of_below hb4)
      have hsz := HC.size
      clear hb4 K3 HC O
      cases had : adOk l r
      · have HAD := Lib.hid had
        clear had O9
        go_wp2_with fail
        go_roundw
        case rel => exact ⟨g9, cp, l, n - 1, kk + 2 + 20, dd + 1 + y, (by rw [HLL.out]), rfl, (by rw [← hnn]), (by rw [HLL.out]; exact hcp), (by rw [HLL.out]; exact hl10), (by omega), (by omega), (by omega), (by omega), HOK, (by rw [HLL.out]; exact O4), K4, H4⟩
        case measure => simp [intOf]; omega
      · have e9 : adR l r = adL l r := by unfold adR; rw [had]; rfl
        rw [e9] at O9 ⊢
        have h10 := adOk_len had
        have hps := adL_pos l r
        obtain ⟨g8, rfl⟩ := own_some O9 hps
        have hc9 := own_cap O9
        have HOK2 := Lib.hid (adL_ok HOK.out HR.out)
        have HO9 := Lib.hid (own_le O9 hsz)
        clear e9 O9 had O4
        go_wp2_with fail
        go_roundw
        case rel => exact ⟨g8, c9, adL l r, n - 1, kk + 2 + 20, dd + 1 + y, rfl, rfl, (by rw [← hnn]), hc9, h10, (by omega), (by omega), (by omega), (by omega), HOK2, HO9.out, K4, H4⟩
        case measure => simp [intOf]; omega
    · have hn00 : n = 0 := by omega
      subst hn00
      generalize hll : l.length = ll at *
      have HLL := Lib.hid hll
      clear hll
      go_wp2_with fail
      refine (pick_any K (by omega) (by omega) (by omega)).mono ?_
      rintro e w2 ⟨y, rfl, hy0, hy1, K2, hc2⟩
      replace O := own_ch O hc2 (fun k hk h => by have := (O.lt k hk).1; subst h; omega)
      replace HC := HC.trans hc2
      clear hc2 K
      have hy : y = 0 ∨ y = 1 ∨ 2 ≤ y := by omega
      clear hy0 hy1
      rcases hy with rfl | rfl | h2
      · go_wp2_with fail
        refine (pick_any K2 (by omega) (by omega) (by omega)).mono ?_
        rintro e w3 ⟨y, rfl, hy0, hy1, K3, hc3⟩
        replace O := own_ch O hc3 (fun k hk h => by have := (O.lt k hk).1; subst h; omega)
        replace HC := HC.trans hc3
        clear hc3 K2
        go_wp2_with fail
        refine (runner_any K3 (by omega) (by omega)).mono ?_
        rintro e w4 ⟨r, hr, rfl, K4, hc4⟩
        replace O := own_ch O hc4 (fun k hk h => by have := (O.lt k hk).1; subst h; omega)
        replace HC := HC.trans hc4
        clear hc4 K3
        have HR := Lib.hid hr
        clear hr
        have OW := own_below O (Below.alloc (Below.refl _ _) (Nat.le_refl _) (.cells #[.int .i64 r.id, .string r.name, .string r.club, .int .i64 r.born, .bool r.woman, .int .i64 r.card] 41))
        have HV := Lib.hid ((Blk.new w4 41 [.int .i64 r.id, .string r.name, .string r.club, .int .i64 r.born, .bool r.woman, .int .i64 r.card]).rd (size := 6) (n := 1) rfl)
        have K5 := Lib.hid (K4.alloc (.cells #[.int .i64 r.id, .string r.name, .string r.club, .int .i64 r.born, .bool r.woman, .int .i64 r.card] 41))
        have H5 := Lib.hid (ch_alloc HC (.cells #[.int .i64 r.id, .string r.name, .string r.club, .int .i64 r.born, .bool r.woman, .int .i64 r.card] 41))
        have hsz := HC.size
        obtain ⟨i0, hi0, hz0, hz1, hz2⟩ := info_parts rn_info
        clear O HC K4
        go_wp2_with (at_builtin; refine wpList_append_rd rfl _ _ 47 rfl w.heap.size 41 i0 (.agg #[.int .i64 0, .string ByteArray.empty, .string ByteArray.empty, .int .i64 0, .bool false, .int .i64 0]) 6 64 Tryz.underlying47 hi0 hz0 hz1 hz2 rfl (by decide) _ _ _ rfl OW _ _ _ _ _ rfl HV.out (rn_one r) ?c1 ?d1 ?e1 ?_)
        case c1 => simp only [maxLen]; omega
        case d1 => omega
        case e1 => simp; omega
        intro A7 c7 w7 h7 own7 grow7 at7
        have lt7 := OW.lt
        have K7 := Lib.hid (K5.out.ch (Ch.of_grown (S := fun j => Value.ownBlock (.slice (some ⟨g9, 0, none⟩) ll cp) = some j) grow7 (fun _ h => h)) (fun j hj => by have := (lt7 j hj).1; omega))
        have H7 := Lib.hid (ch_new2 H5.out (Ch.of_grown (S := fun j => Value.ownBlock (.slice (some ⟨g9, 0, none⟩) ll cp) = some j) grow7 (fun _ h => h)) (fun j hj => (lt7 j hj).1))
        obtain ⟨g7, rfl⟩ := own_some own7 (by omega)
        have O7 : Hid (w7.ownsRow w.heap.size 41 6 (.slice (some ⟨g7, 0, none⟩) (l ++ [r]).length c7) (l ++ [r]).length (rns (l ++ [r]))) := by
          show World.ownsRow _ _ _ _ _ _ _
          rw [List.length_append, List.length_singleton, HLL.out, ← rns_snoc]
          exact own7
        clear own7 grow7 at7 lt7 OW
        go_wp2_with fail
        go_ret
        exact ⟨g7, c7, l ++ [r], by rw [List.length_append, List.length_singleton, HLL.out]; rfl, by rw [List.length_append, List.length_singleton, HLL.out]; exact h7, by rw [List.length_append, List.length_singleton, HLL.out]; omega, ok_snoc HOK.out HR.out, O7.out, K7.out.more (by omega), H7.out⟩
      · have O1 := World.ownsRow_lit (base := w.heap.size) (e := 41) (size := 6) w2 #[] 0 HC.size (by simp) rfl
        have K3 := K2.alloc (.cells #[] 41)
        have H3 := ch_alloc HC (.cells #[] 41)
        clear O K2 HC HLL hcp hl10
        go_wp2_with fail
        go_loopw [3, 8] (fun o i wr => ∃ (g8 c8 : Nat) (l : List Rn) (n : Nat) (k8 : Int), o = .slice (some ⟨g8, 0, none⟩) n c8 ∧ i = .int .i64 n ∧ n ≤ 11 ∧ n ≤ c8 ∧ k8 ≤ k + 158 + 2 * n ∧ Hid (l.length = n) ∧ Hid (∀ r ∈ l, Rn.Ok r) ∧ wr.ownsRow w.heap.size 41 6 (.slice (some ⟨g8, 0, none⟩) n c8) n (rns l) ∧ Cur wr b g k8 ∧ Ch (fun j => j = g) w wr) (fun _ i _ => 11 - (intOf i).toNat)
        case atStart => exact ⟨w2.heap.size, 0, [], 0, kk + 2, rfl, rfl, by omega, by omega, by omega, (show ([] : List Rn).length = 0 from rfl), (fun r h => by cases h), O1, K3, H3⟩
        clear O1 K3 H3 HOK
        case round =>
          obtain ⟨g8, c8, l, n, k8, rfl, rfl, hn11, hnc, hk8, HLN, HOK, O, K, HC⟩ := hrel
          go_wp2_with fail
          refine (pick_any K (by omega) (by omega) (by omega)).mono ?_
          rintro e w3 ⟨y, rfl, hy0, hy1, K3, hc3⟩
          replace O := own_ch O hc3 (fun k hk h => by have := (O.lt k hk).1; subst h; omega)
          replace HC := HC.trans hc3
          clear hc3 K
          have hp0 : IntKind.i64.wrap (10 + y) = 10 + y := IntWalk.i64_in _ (by omega)
          by_cases hlt : (n : Int) < 10 + y
          · have hp1 : IntKind.i64.wrap ((n : Int) + 1) = (n : Int) + 1 := IntWalk.i64_in _ (by omega)
            have hp2 : IntKind.i64.wrap (1950 + (n : Int)) = 1950 + (n : Int) := IntWalk.i64_in _ (by omega)
            obtain ⟨r, hr⟩ : ∃ r : Rn, r = ⟨(n : Int) + 1, bsn [120], bsn [121], 1950 + (n : Int), false, 0⟩ := ⟨_, rfl⟩
            have HR : Hid (Rn.Ok r) := (show Rn.Ok r by subst hr; exact rn_ok (by omega) (by decide) (by decide) (by omega) (by omega))
            have HRC : r.cells = [.int .i64 ((n : Int) + 1), .string (bsn [120]), .string (bsn [121]), .int .i64 (1950 + (n : Int)), .bool false, .int .i64 0] := by subst hr; rfl
            have OW := own_below O (Below.alloc (Below.refl _ _) (Nat.le_refl _) (.cells #[.int .i64 ((n : Int) + 1), .string ⟨#[120]⟩, .string ⟨#[121]⟩, .int .i64 (1950 + (n : Int)), .bool false, .int .i64 0] 41))
            have HV := Lib.hid ((Blk.new w3 41 [.int .i64 ((n : Int) + 1), .string ⟨#[120]⟩, .string ⟨#[121]⟩, .int .i64 (1950 + (n : Int)), .bool false, .int .i64 0]).rd (size := 6) (n := 1) rfl)
            have HV1 : Hid (∀ u ∈ [Value.int .i64 ((n : Int) + 1), .string ⟨#[120]⟩, .string ⟨#[121]⟩, .int .i64 (1950 + (n : Int)), .bool false, .int .i64 0], u.oneCell' = true) := (show ∀ u ∈ _, _ from HRC ▸ rn_one r)
            have K5 := Lib.hid (K3.alloc (.cells #[.int .i64 ((n : Int) + 1), .string ⟨#[120]⟩, .string ⟨#[121]⟩, .int .i64 (1950 + (n : Int)), .bool false, .int .i64 0] 41))
            have H5 := Lib.hid (ch_alloc HC (.cells #[.int .i64 ((n : Int) + 1), .string ⟨#[120]⟩, .string ⟨#[121]⟩, .int .i64 (1950 + (n : Int)), .bool false, .int .i64 0] 41))
            have hsz := HC.size
            have HCL := Lib.hid HRC
            obtain ⟨i0, hi0, hz0, hz1, hz2⟩ := info_parts rn_info
            clear O HC K3 hr HRC
            go_wp2_with (at_builtin; refine wpList_append_rd rfl _ _ 47 rfl w.heap.size 41 i0 (.agg #[.int .i64 0, .string ByteArray.empty, .string ByteArray.empty, .int .i64 0, .bool false, .int .i64 0]) 6 64 Tryz.underlying47 hi0 hz0 hz1 hz2 rfl (by decide) _ _ _ rfl OW _ _ _ _ _ rfl HV.out HV1.out ?c2 ?d2 ?e2 ?_)
            case c2 => simp only [maxLen]; omega
            case d2 => omega
            case e2 => simp; omega
            intro A7 c7 w7 h7 own7 grow7 at7
            have lt7 := OW.lt
            have K7 := Lib.hid (K5.out.ch (Ch.of_grown (S := fun j => Value.ownBlock (.slice (some ⟨g8, 0, none⟩) n c8) = some j) grow7 (fun _ h => h)) (fun j hj => by have := (lt7 j hj).1; omega))
            have H7 := Lib.hid (ch_new2 H5.out (Ch.of_grown (S := fun j => Value.ownBlock (.slice (some ⟨g8, 0, none⟩) n c8) = some j) grow7 (fun _ h => h)) (fun j hj => (lt7 j hj).1))
            obtain ⟨g7, rfl⟩ := own_some own7 (by omega)
            have O7 : Hid (w7.ownsRow w.heap.size 41 6 (.slice (some ⟨g7, 0, none⟩) (n + 1) c7) (n + 1) (rns (l ++ [r]))) := by
              show World.ownsRow _ _ _ _ _ _ _
              rw [← rns_snoc, HCL.out]
              exact own7
            clear own7 grow7 at7 lt7 OW
            go_wp2_with fail
            go_roundw
            case rel => exact ⟨g7, c7, l ++ [r], n + 1, k8 + 2, rfl, by go_num, by omega, h7, by omega, (show (l ++ [r]).length = n + 1 by rw [List.length_append, List.length_singleton, HLN.out]), ok_snoc HOK.out HR.out, O7.out, K7.out, H7.out⟩
            case measure => simp [intOf]; omega
          · go_wp2_with fail
            go_ret
            exact ⟨g8, c8, l, by rw [HLN.out]; rfl, by rw [HLN.out]; exact hnc, by rw [HLN.out]; omega, HOK.out, by rw [HLN.out]; exact O, K3.more (by omega), HC⟩
      · have n0 : ¬ y = 0 := by omega
        have n1 : ¬ y = 1 := by omega
        have e0 : (y == 0) = false := by simp; omega
        have e1 : (y == 1) = false := by simp; omega
        go_wp2_with fail
        go_ret
        exact ⟨g9, cp, l, by rw [HLL.out]; rfl, by rw [HLL.out]; exact hcp, by rw [HLL.out]; omega, HOK.out, by rw [HLL.out]; exact O, K2.more (by omega), HC⟩
end Go.Proofs.YtmmpcchjalgokaaGreatDoor
