/- Contracts: VerifyChecksum, the program's and the reference's. -/
import Derived.Test.YtmmpcchjalgokaaDoorSeal
import Derived.Lib.Strings
namespace Go.Proofs.YtmmpcchjalgokaaDoor
set_option linter.unusedVariables false
set_option linter.unusedSimpArgs false
open Go.RowKit
/-- What stands ahead of the first b; the whole text where there is none. -/
def preB (s : ByteArray) (b : UInt8) : ByteArray := if 0 ≤ Lib.indexByte s.data.toList b then s.extract 0 (Lib.indexByte s.data.toList b).toNat else s
theorem preB_at {s : ByteArray} {b : UInt8} {o : Nat} (h : Lib.indexByte s.data.toList b = o) : preB s b = s.extract 0 o := by
  unfold preB
  rw [h, if_pos (by omega)]
  rfl
theorem preB_none {s : ByteArray} {b : UInt8} (h : Lib.indexByte s.data.toList b < 0) : preB s b = s := by
  unfold preB
  rw [if_neg (by omega)]
theorem extract_all (s : ByteArray) : s.extract 0 s.size = s := by
  apply ByteArray.ext
  simp
theorem preB_size (s : ByteArray) (b : UInt8) : (preB s b).size ≤ s.size := by
  unfold preB
  split
  · simp; omega
  · exact Nat.le_refl _
theorem cutAt_none {s : ByteArray} {b : UInt8} : ∀ k : Nat, (∀ j : Nat, j < k → s.data.toList[j]? ≠ some b) → cutAt s b k = ([], 0)
  | 0, _ => rfl
  | k + 1, h => by
    rw [cutAt, if_neg (h k (by omega)), cutAt_none k (fun j hj => h j (by omega))]
theorem cutAt_head {s : ByteArray} {b : UInt8} {o : Nat} (h1 : s.data.toList[o]? = some b) (h2 : ∀ j : Nat, j < o → s.data.toList[j]? ≠ some b) : ∀ k : Nat, (cutAt s b (o + 1 + k)).1[0]? = some (s.extract 0 o)
  | 0 => by
    rw [Nat.add_zero, cutAt, if_pos h1, cutAt_none o h2]
    rfl
  | k + 1 => by
    have ih := cutAt_head h1 h2 k
    rw [← Nat.add_assoc, cutAt]
    split
    · rw [List.getElem?_append_left (by have := (List.getElem?_eq_some_iff.1 ih).1; omega)]
      exact ih
    · exact ih
theorem cuts_head (s : ByteArray) (b : UInt8) : (cuts s b)[0]? = some (preB s b) := by
  unfold cuts
  rcases Int.lt_or_le (Lib.indexByte s.data.toList b) 0 with h | h
  · have hg := Lib.indexByte_ge s.data.toList b
    rw [preB_none h, cutAt_none s.size (fun j _ => Lib.indexByte_none (by omega) j)]
    show some (s.extract 0 s.size) = _
    rw [extract_all]
  · obtain ⟨o, ho⟩ := Int.eq_ofNat_of_zero_le h
    obtain ⟨h1, h2⟩ := Lib.indexByte_some ho
    have hlt : o < s.size := by
      have := (List.getElem?_eq_some_iff.1 h1).1
      rwa [Array.length_toList] at this
    have h3 := cutAt_head h1 h2 (s.size - (o + 1))
    rw [show o + 1 + (s.size - (o + 1)) = s.size by omega] at h3
    rw [preB_at ho, List.getElem?_append_left (by have := (List.getElem?_eq_some_iff.1 h3).1; omega)]
    exact h3
theorem preB_clean (s : ByteArray) (b : UInt8) : hasB (preB s b) b = false := by
  refine hasB_no fun k hk => ?_
  rcases Int.lt_or_le (Lib.indexByte s.data.toList b) 0 with h | h
  · have hg := Lib.indexByte_ge s.data.toList b
    rw [preB_none h]
    exact Lib.indexByte_none (by omega) k
  · obtain ⟨o, ho⟩ := Int.eq_ofNat_of_zero_le h
    obtain ⟨h1, h2⟩ := Lib.indexByte_some ho
    rw [preB_at ho] at hk ⊢
    have hlt : o < s.size := by
      have := (List.getElem?_eq_some_iff.1 h1).1
      rwa [Array.length_toList] at this
    have hko : k < o := by simp at hk; omega
    have e : (s.extract 0 o).data.toList[k]? = s.data.toList[k]? := by
      simp [List.getElem?_take, hko]
    rw [e]
    exact h2 k hko
set_option maxHeartbeats 1000000 in
theorem CutIn_any {s : ByteArray} {b : UInt8} {w : World} (hs : s.size ≤ 1048576) :
    Calls Tryd.prog 117 #[.string s, .string ⟨#[b]⟩] w fun e w' => ∃ r, e = .returned (.tuple #[.string (preB s b), .string r, .bool (hasB s b)]) ∧ Below w.heap.size w w' := by
  have HI : ∀ W : World, _ := fun W => Tryd.stringslite_Index_one s b W
  have hz : (⟨#[b]⟩ : ByteArray).size = 1 := rfl
  unfold hasB
  rcases Int.lt_or_le (Lib.indexByte s.data.toList b) 0 with h | h
  · have hg := Lib.indexByte_ge s.data.toList b
    have e1 : Lib.indexByte s.data.toList b = -1 := by omega
    rw [preB_none h, decide_eq_false (by omega)]
    rw [e1] at HI
    clear h hg e1
    go_enter Tryd.func117, Tryd.ntmps117
    go_wp2_with fail
    refine (HI _).mono ?_
    rintro e w' ⟨rfl, rfl⟩
    go_wp2_with fail
    go_ret3
    exact ⟨_, rfl, Below.refl _ _⟩
  · obtain ⟨o, ho⟩ := Int.eq_ofNat_of_zero_le h
    obtain ⟨h1, h2⟩ := Lib.indexByte_some ho
    have hlt : o < s.size := by
      have := (List.getElem?_eq_some_iff.1 h1).1
      rwa [Array.length_toList] at this
    rw [preB_at ho, decide_eq_true h]
    rw [ho] at HI
    have c1 : (0 : Int) ≤ (o : Int) + 1 := by omega
    have c2 : (o : Int) + 1 ≤ (s.size : Int) := by omega
    have c3 : (o : Int) ≤ (s.size : Int) := by omega
    have c4 : IntKind.i64.wrap ((o : Int) + 1) = (o : Int) + 1 := IntWalk.i64_in _ (by omega)
    clear h h1 h2 ho
    go_enter Tryd.func117, Tryd.ntmps117
    go_wp2_with fail
    refine (HI _).mono ?_
    rintro e w1 ⟨rfl, hw1⟩
    subst hw1
    go_wp2_with fail
    refine wp_region_held_drew (S := fun w' => Below w1.heap.size w1 w') (by kernel_rfl) ?_ (fun hHeld => ?_)
    · (try dsimp only)
      first | exact (Below.refl _ _).drew | exact hHeld
    refine rgTake (i := 0) (d := 13) (v := ?_) rfl rfl (by kernel_rfl) (by kernel_rfl) (by kernel_rfl) (fun _ _ _ h => h) (by rfl) ?_ (by assumption) ?_
    rotate_left
    · ((intro w hSw); (try dsimp only at hSw); go_simp; (try with_reducible rfl))
    try simp only [Act.put, List.setIfInBounds_toArray, List.set_cons_zero, List.set_cons_succ]
    refine rgTake (i := 1) (d := 14) (v := ?_) rfl rfl (by kernel_rfl) (by kernel_rfl) (by kernel_rfl) (fun _ _ _ h => h) (by rfl) ?_ (by assumption) ?_
    rotate_left
    · ((intro w hSw); (try dsimp only at hSw); go_simp; (try with_reducible rfl))
    try simp only [Act.put, List.setIfInBounds_toArray, List.set_cons_zero, List.set_cons_succ]
    refine rgTake (i := 2) (d := 15) (v := ?_) rfl rfl (by kernel_rfl) (by kernel_rfl) (by kernel_rfl) (fun _ _ _ h => h) (by rfl) ?_ (by assumption) ?_
    rotate_left
    · ((intro w hSw); (try dsimp only at hSw); go_simp; (try with_reducible rfl))
    try simp only [Act.put, List.setIfInBounds_toArray, List.set_cons_zero, List.set_cons_succ]
    refine rgTake (i := 3) (d := 16) (v := ?_) rfl rfl (by kernel_rfl) (by kernel_rfl) (by kernel_rfl) (fun _ _ _ h => h) (by rfl) ?_ (by assumption) ?_
    rotate_left
    · ((intro w hSw); (try dsimp only at hSw); go_simp; (try with_reducible rfl))
    try simp only [Act.put, List.setIfInBounds_toArray, List.set_cons_zero, List.set_cons_succ]
    refine rgTake (i := 4) (d := 17) (v := ?_) rfl rfl (by kernel_rfl) (by kernel_rfl) (by kernel_rfl) (fun _ _ _ h => h) (by rfl) ?_ (by assumption) ?_
    rotate_left
    · ((intro w hSw); (try dsimp only at hSw); go_simp; (try with_reducible rfl))
    try simp only [Act.put, List.setIfInBounds_toArray, List.set_cons_zero, List.set_cons_succ]
    refine rgTake (i := 5) (d := 18) (v := ?_) rfl rfl (by kernel_rfl) (by kernel_rfl) (by kernel_rfl) (fun _ _ _ h => h) (by rfl) ?_ (by assumption) ?_
    rotate_left
    · ((intro w hSw); (try dsimp only at hSw); go_simp; (try with_reducible rfl))
    try simp only [Act.put, List.setIfInBounds_toArray, List.set_cons_zero, List.set_cons_succ]
    refine rgTake (i := 6) (d := 19) (v := ?_) rfl rfl (by kernel_rfl) (by kernel_rfl) (by kernel_rfl) (fun _ _ _ h => h) (by rfl) ?_ (by assumption) ?_
    rotate_left
    · ((intro w hSw); (try dsimp only at hSw); go_simp; (try with_reducible rfl))
    try simp only [Act.put, List.setIfInBounds_toArray, List.set_cons_zero, List.set_cons_succ]
    refine rgTake (i := 7) (d := 20) (v := ?_) rfl rfl (by kernel_rfl) (by kernel_rfl) (by kernel_rfl) (fun _ _ _ h => h) (by rfl) ?_ (by assumption) ?_
    rotate_left
    · ((intro w hSw); (try dsimp only at hSw); go_simp; (try with_reducible rfl))
    try simp only [Act.put, List.setIfInBounds_toArray, List.set_cons_zero, List.set_cons_succ]
    refine rgTake (i := 8) (d := 21) (v := ?_) rfl rfl (by kernel_rfl) (by kernel_rfl) (by kernel_rfl) (fun _ _ _ h => h) (by rfl) ?_ (by assumption) ?_
    rotate_left
    · ((intro w hSw); (try dsimp only at hSw); go_simp; (try with_reducible rfl))
    try simp only [Act.put, List.setIfInBounds_toArray, List.set_cons_zero, List.set_cons_succ]
    refine rgTake (i := 9) (d := 4) (v := ?_) rfl rfl (by kernel_rfl) (by kernel_rfl) (by kernel_rfl) (fun _ _ _ h => h) (by rfl) ?_ (by assumption) ?_
    rotate_left
    · ((intro w hSw); (try dsimp only at hSw); go_simp; (try with_reducible rfl))
    try simp only [Act.put, List.setIfInBounds_toArray, List.set_cons_zero, List.set_cons_succ]
    refine rgTake (i := 10) (d := 5) (v := ?_) rfl rfl (by kernel_rfl) (by kernel_rfl) (by kernel_rfl) (fun _ _ _ h => h) (by rfl) ?_ (by assumption) ?_
    rotate_left
    · ((intro w hSw); (try dsimp only at hSw); go_simp; (try with_reducible rfl))
    try simp only [Act.put, List.setIfInBounds_toArray, List.set_cons_zero, List.set_cons_succ]
    refine rgTake (i := 11) (d := 6) (v := ?_) rfl rfl (by kernel_rfl) (by kernel_rfl) (by kernel_rfl) (fun _ _ _ h => h) (by rfl) ?_ (by assumption) ?_
    rotate_left
    · ((intro w hSw); (try dsimp only at hSw); go_simp; (try with_reducible rfl))
    try simp only [Act.put, List.setIfInBounds_toArray, List.set_cons_zero, List.set_cons_succ]
    refine wpAnyH_done (by kernel_rfl) ?_ _
    go_wp2_with fail
    go_ret3
    exact ⟨_, rfl, hHeld⟩
theorem Cut_any {s : ByteArray} {b : UInt8} {w : World} (hs : s.size ≤ 1048576) :
    Calls Tryd.prog 67 #[.string s, .string ⟨#[b]⟩] w fun e w' => ∃ r, e = .returned (.tuple #[.string (preB s b), .string r, .bool (hasB s b)]) ∧ Below w.heap.size w w' := by
  go_enter Tryd.func67, Tryd.ntmps67
  go_wp2_with fail
  refine (CutIn_any hs).mono ?_
  rintro e w' ⟨r, rfl, hb⟩
  go_wp2_with fail
  go_ret3
  exact ⟨_, rfl, hb⟩
def vcOk (s : ByteArray) : Bool := decide (s.size ≤ 4000) && decide (sealB (preB s 35) = s)
def vcV (s : ByteArray) : ByteArray := if vcOk s = true then preB s 35 else ⟨#[]⟩
theorem ne_test (a b : ByteArray) : (a.toList != b.toList) = !decide (a = b) := by
  by_cases h : a = b
  · subst h; simp
  · rw [decide_eq_false h]
    simp only [Bool.not_false, bne_iff_ne, ne_eq]
    intro e
    exact h (by simpa [Lib.toList_data, ByteArray.ext_iff] using e)
theorem eq_test (a b : ByteArray) : (a.toList == b.toList) = decide (a = b) := by
  have := ne_test a b
  unfold bne at this
  simpa using this
theorem vc_imp {s : ByteArray} (h : vcOk s = true) : hasB s 35 = true ∧ acOk (preB s 35) = true ∧ sealB (preB s 35) = s ∧ s.size ≤ 4000 := by
  unfold vcOk at h
  rw [Bool.and_eq_true, decide_eq_true_eq, decide_eq_true_eq] at h
  obtain ⟨h1, h2⟩ := h
  refine ⟨?_, ?_, h2, h1⟩
  · cases hb : hasB s 35
    · exfalso
      unfold hasB at hb
      rw [decide_eq_false_iff_not] at hb
      rw [preB_none (by omega)] at h2
      have : (sealB s).size = s.size := by rw [h2]
      unfold sealB at this
      rw [ByteArray.size_append, ByteArray.size_append, hash_size] at this
      omega
    · rfl
  · unfold acOk
    have hp := preB_size s 35
    rw [preB_clean, decide_eq_true (p := (preB s 35).size ≤ 4000) (by omega), decide_eq_true (p := (sealB (preB s 35)).size ≤ 4000) (by rw [h2]; exact h1)]
    rfl
theorem vc_of {s : ByteArray} (h1 : acOk (preB s 35) = true) (h2 : sealB (preB s 35) = s) : vcOk s = true := by
  unfold acOk at h1
  simp only [Bool.and_eq_true, decide_eq_true_eq] at h1
  unfold vcOk
  rw [h2] at *
  rw [decide_eq_true h1.2.2]
  simp
set_option maxHeartbeats 1000000 in
theorem VerifyChecksum_impl {s : ByteArray} {w : World} (hs : s.size ≤ 1048576) (T : Tab w) :
    Calls Tryd.prog 42 #[.string s] w fun e w' => e = .returned (.tuple #[.string (vcV s), .bool (vcOk s)]) ∧ Below w.heap.size w w' := by
  have HT := preB_size s 35
  have HCU : ∀ W : World, _ := fun W => Cut_any (b := 35) (w := W) hs
  unfold vcV
  cases hv : vcOk s
  · cases hf : hasB s 35
    · rw [hf] at HCU
      clear hv hf
      generalize htt : preB s 35 = t at *
      clear htt
      go_enter Tryd.func42, Tryd.ntmps42
      go_wp2_with fail
      refine (HCU _).mono ?_
      rintro e w1 ⟨r, rfl, hb⟩
      go_wp2_with fail
      go_ret2
      exact ⟨rfl, hb⟩
    · rw [hf] at HCU
      cases ha : acOk (preB s 35)
      · have HAC : ∀ W : World, Tab W → _ := fun W TW => AppendChecksum_impl (s := preB s 35) (w := W) (by omega) TW
        unfold acV at HAC
        rw [ha] at HAC
        clear hv hf ha
        generalize htt : preB s 35 = t at *
        clear htt
        go_enter Tryd.func42, Tryd.ntmps42
        go_wp2_with fail
        refine (HCU _).mono ?_
        rintro e w1 ⟨r, rfl, hb⟩
        go_wp2_with fail
        refine (HAC _ (T.on hb)).mono ?_
        rintro e w2 ⟨rfl, hb2⟩
        go_wp2_with fail
        go_ret2
        exact ⟨rfl, hb.trans (hb2.mono hb.size)⟩
      · have hne := ne_test (sealB (preB s 35)) s
        have hne2 := eq_test (sealB (preB s 35)) s
        rw [decide_eq_false (fun e => by rw [vc_of ha e] at hv; cases hv)] at hne hne2
        rw [Bool.not_false] at hne
        have HAC : ∀ W : World, Tab W → _ := fun W TW => AppendChecksum_impl (s := preB s 35) (w := W) (by omega) TW
        unfold acV at HAC
        rw [ha] at HAC
        clear hv hf ha
        generalize htt : preB s 35 = t at *
        clear htt
        generalize hxx : sealB t = x at *
        clear hxx
        go_enter Tryd.func42, Tryd.ntmps42
        go_wp2_with fail
        refine (HCU _).mono ?_
        rintro e w1 ⟨r, rfl, hb⟩
        go_wp2_with fail
        refine (HAC _ (T.on hb)).mono ?_
        rintro e w2 ⟨rfl, hb2⟩
        go_wp2_with fail
        go_ret2
        exact ⟨rfl, hb.trans (hb2.mono hb.size)⟩
  · obtain ⟨hf, ha, hx, _⟩ := vc_imp hv
    rw [hf] at HCU
    have HAC : ∀ W : World, Tab W → _ := fun W TW => AppendChecksum_impl (s := preB s 35) (w := W) (by omega) TW
    unfold acV at HAC
    rw [ha, hx] at HAC
    clear hv hf ha hx
    have hne : (s.toList != s.toList) = false := by simp
    generalize htt : preB s 35 = t at *
    clear htt
    go_enter Tryd.func42, Tryd.ntmps42
    go_wp2_with fail
    refine (HCU _).mono ?_
    rintro e w1 ⟨r, rfl, hb⟩
    go_wp2_with fail
    refine (HAC _ (T.on hb)).mono ?_
    rintro e w2 ⟨rfl, hb2⟩
    go_wp2_with fail
    go_ret2
    exact ⟨rfl, hb.trans (hb2.mono hb.size)⟩
end Go.Proofs.YtmmpcchjalgokaaDoor
