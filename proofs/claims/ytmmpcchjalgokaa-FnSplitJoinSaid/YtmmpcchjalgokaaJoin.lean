/- Contracts: JoinStrings, the program's and the reference's. -/
import Derived.Test.YtmmpcchjalgokaaHas
import Derived.Test.YtmmpcchjalgokaaSstr
import Derived.Test.YtmmpcchjalgokaaShelf
import Derived.Test.YtmmpcchjalgokaaApp
import Derived.Lib.Join
import Derived.Deep.DeepCutAuto
namespace Go.Proofs.Ytmmpcchjalgokaa
set_option linter.unusedVariables false
set_option linter.unusedSimpArgs false
open Go.RowKit
/-- What the reference has joined behind k parts. -/
def jnK (l : List ByteArray) (b : UInt8) : Nat → ByteArray
  | 0 => ⟨#[]⟩
  | k + 1 => (if k = 0 then jnK l b k else jnK l b k ++ (⟨#[b]⟩ : ByteArray)) ++ l.getD k ⟨#[]⟩
def joOkB (l : List ByteArray) (b : UInt8) : Bool := decide (l.length ≠ 0) && (l.all (fun p => !hasB p b) && decide (ssz l + l.length ≤ 4001))
def joOk (l : List ByteArray) (s : ByteArray) : Bool := decide (s.size = 1) && joOkB l (s.data.toList.getD 0 0)
def joV (l : List ByteArray) (s : ByteArray) : ByteArray := if joOk l s = true then jnK l (s.data.toList.getD 0 0) l.length else ⟨#[]⟩
theorem jnK_size {l : List ByteArray} {b : UInt8} : ∀ k, k ≤ l.length → (jnK l b k).size + 1 = ssz (l.take k) + k + (if k = 0 then 1 else 0)
  | 0, _ => rfl
  | k + 1, h => by
    have ih := jnK_size (l := l) (b := b) k (by omega)
    rw [jnK, ByteArray.size_append, ssz_take (by omega)]
    have e : l.getD k ⟨#[]⟩ = l[k] := by simp [List.getD, show k < l.length by omega]
    rw [e]
    split
    · next h0 => subst h0; simp at ih ⊢; omega
    · next h0 =>
      rw [ByteArray.size_append]
      rw [if_neg h0] at ih
      show (jnK l b k).size + 1 + _ + 1 = _
      rw [if_neg (by omega)]
      omega
theorem jnK_join {l : List ByteArray} {b : UInt8} : ∀ k, k ≤ l.length → (jnK l b k).data.toList = Lib.join ((l.take k).map (·.data.toList)) [b]
  | 0, _ => rfl
  | k + 1, h => by
    have ih := jnK_join (l := l) (b := b) k (by omega)
    have e : l.getD k ⟨#[]⟩ = l[k] := by simp [List.getD, show k < l.length by omega]
    rw [jnK, e, List.take_succ_eq_append_getElem (by omega), List.map_append]
    by_cases h0 : k = 0
    · subst h0
      rw [if_pos rfl]
      simp [jnK, Lib.join_one]
    · rw [if_neg h0]
      obtain ⟨x, r, hx⟩ : ∃ x r, (l.take k).map (·.data.toList) = x :: r := by
        cases hc : (l.take k).map (·.data.toList) with
        | nil =>
          have := congrArg List.length hc
          rw [List.length_map, List.length_take, List.length_nil] at this
          omega
        | cons x r => exact ⟨x, r, rfl⟩
      rw [hx] at ih ⊢
      rw [Lib.join_cons] at ih
      rw [List.cons_append, Lib.join_cons]
      simp [Lib.joinTail, ih]
theorem jo_mem {l : List ByteArray} {b : UInt8} {k : Nat} (hk : k < l.length) (h : hasB l[k] b = true) : joOkB l b = false := by
  unfold joOkB
  have : (l.all fun p => !hasB p b) = false := by
    rw [List.all_eq_false]
    exact ⟨l[k], List.getElem_mem hk, by simp [h]⟩
  rw [this]; simp
theorem jo_big {l : List ByteArray} {b : UInt8} (h : 4001 < ssz l + l.length) : joOkB l b = false := by
  unfold joOkB
  rw [decide_eq_false (p := ssz l + l.length ≤ 4001) (by omega)]; simp
theorem jo_yes {l : List ByteArray} {b : UInt8} (h0 : l.length ≠ 0) (h1 : ∀ j, (hj : j < l.length) → hasB l[j] b = false) (h2 : ssz l + l.length ≤ 4001) : joOkB l b = true := by
  unfold joOkB
  rw [decide_eq_true h0, decide_eq_true h2]
  have : (l.all fun p => !hasB p b) = true := by
    rw [List.all_eq_true]
    intro p hp
    obtain ⟨j, hj, rfl⟩ := List.mem_iff_getElem.1 hp
    simp [h1 j hj]
  rw [this]; rfl
theorem one_byte {s : ByteArray} (h : s.size = 1) : s = ⟨#[s.data.toList.getD 0 0]⟩ := by
  obtain ⟨⟨l⟩⟩ := s
  match l, h with
  | [b], _ => rfl
theorem jo_sep {l : List ByteArray} {s : ByteArray} (h : s.size ≠ 1) : joOk l s = false := by unfold joOk; rw [decide_eq_false h]; rfl
theorem jo_none {l : List ByteArray} {s : ByteArray} (h : l.length = 0) : joOk l s = false := by unfold joOk joOkB; rw [decide_eq_false (p := l.length ≠ 0) (by omega)]; simp
theorem joV_no {l : List ByteArray} {s : ByteArray} (h : joOk l s = false) : joV l s = ⟨#[]⟩ := by unfold joV; rw [h]; rfl
set_option maxRecDepth 100000 in
set_option maxHeartbeats 4000000 in
theorem JoinStrings_spec {A : Option Addr} {n c : Nat} {l : List ByteArray} {s : ByteArray} {w : World} (hA : Rd w w.heap.size 1 A n (strs l)) (hn : n ≤ 1048576) (hz : ssz l ≤ 1048576) (hs : s.size ≤ 1048576) :
    Calls Try.prog 10 #[.slice A n c, .string s] w fun e w' => e = .returned (.tuple #[.string (joV l s), .bool (joOk l s)]) ∧ Below w.heap.size w w' := by
  have hlen : l.length = n := by have := hA.1; rw [strs_len] at this; omega
  have HX := Lib.hid hlen
  have HZ := Lib.hid hz
  clear hz
  by_cases h1 : s.size = 1
  · by_cases h0 : n = 0
    · have e1 := jo_none (l := l) (s := s) (by omega)
      have e2 := joV_no e1
      rw [e1, e2]
      clear e1 e2 hlen
      subst h0
      have h1i : ((s.size : Int) != 1) = false := by rw [h1]; rfl
      go_enter Try.func10, Try.ntmps10
      go_wp2_with fail
      go_ret2
      exact ⟨rfl, Below.refl _ _⟩
    · obtain ⟨b, hb⟩ : ∃ b, b = s.data.toList.getD 0 0 := ⟨_, rfl⟩
      have hsb : s = ⟨#[b]⟩ := by rw [hb]; exact one_byte h1
      have HO : Hid (joOk l s = joOkB l b) := (by unfold joOk; rw [decide_eq_true h1, ← hb]; rfl : joOk l s = joOkB l b)
      have HV : Hid (joOkB l b = true → joV l s = jnK l b l.length) := (fun h => by unfold joV; rw [HO.out, if_pos h, ← hb] : joOkB l b = true → joV l s = jnK l b l.length)
      have HW : Hid (joOkB l b = false → joV l s = ⟨#[]⟩) := (fun h => by unfold joV; rw [HO.out, h]; rfl : joOkB l b = false → joV l s = ⟨#[]⟩)
      have hn0 : ((n : Int) == 0) = false := by simp; omega
      clear hb h1 hlen
      subst hsb
      go_enter Try.func10, Try.ntmps10
      go_wp2_with fail
      go_loopw [6, 7] (fun o i wr => ∃ k : Nat, k ≤ n ∧ i = .int .i64 k ∧ o = .string (jnK l b k) ∧ (jnK l b k).size ≤ 4000 ∧ Hid (∀ j, (hj : j < l.length) → j < k → hasB l[j] b = false) ∧ Below w.heap.size w wr) (fun _ i _ => n - (intOf i).toNat)
      case atStart => exact ⟨0, Nat.zero_le _, rfl, rfl, (by show 0 ≤ 4000; omega), (show ∀ j, (hj : j < l.length) → j < 0 → hasB l[j] b = false from fun j _ h => absurd h (by omega)), Below.refl _ _⟩
      case round =>
        obtain ⟨k, hk, rfl, rfl, hjs, HN, G⟩ := hrel
        by_cases hlt : k < n
        · obtain ⟨bl, off, rfl, hbb, hca⟩ := hA.2 (show 0 < n by omega)
          have kx : k < l.length := by rw [HX.out]; exact hlt
          have CZ0 : Hid (w.cell? ⟨bl, off + k, none⟩ = some (.string l[k])) := (hca k (.string l[k]) (by simp [strs, kx]) : w.cell? ⟨bl, off + k, none⟩ = some (.string l[k]))
          have cz := (G.cell (p := ⟨bl, off + k, none⟩) hbb).trans CZ0.out
          have hps : l[k].size ≤ 1048576 := by have h1 := ssz_take kx; have h2 := ssz_le l (k + 1); have h3 := HZ.out; omega
          have HB : Hid (hasB l[k] b = true → joOkB l b = false) := (fun h => jo_mem kx h : hasB l[k] b = true → joOkB l b = false)
          have HN2 : Hid (hasB l[k] b = false → ∀ j, (hj : j < l.length) → j < k + 1 → hasB l[j] b = false) := (fun h j hj hjk => by
            rcases Nat.lt_succ_iff_lt_or_eq.1 hjk with h1 | rfl
            · exact HN.out j hj h1
            · exact h : hasB l[k] b = false → ∀ j, (hj : j < l.length) → j < k + 1 → hasB l[j] b = false)
          have HJ : Hid (jnK l b (k + 1) = (if k = 0 then jnK l b k else jnK l b k ++ (⟨#[b]⟩ : ByteArray)) ++ l[k]) := (by
            have e : l.getD k ⟨#[]⟩ = l[k] := by simp [List.getD, kx]
            rw [jnK, e] : jnK l b (k + 1) = _)
          have HS : Hid (4000 < (jnK l b (k + 1)).size → joOkB l b = false) := (fun h => jo_big (by
            have h1 := jnK_size (l := l) (b := b) (k + 1) (by omega)
            have h2 := ssz_le l (k + 1)
            rw [if_neg (by omega)] at h1
            omega) : 4000 < (jnK l b (k + 1)).size → joOkB l b = false)
          generalize l[k] = p at *
          generalize hJJ : jnK l b k = J at *
          clear hca hJJ HN kx
          go_upto_region 7 with (fail)
          go_cut [28] (fun r wx => r = .bool (hasB p b) ∧ Below w.heap.size w wx)
          case first =>
            refine wp_region_held_drew (S := fun w' => w'.cell? ⟨bl, off + k, none⟩ = some (.string p) ∧ Below w.heap.size w w') (by kernel_rfl) ?_ (fun hHeld => ?_)
            · (try dsimp only)
              first | exact ⟨cz, G.drew⟩ | exact hHeld
            refine rgTake (i := 0) (d := 22) (v := ?_) rfl rfl (by kernel_rfl) (by kernel_rfl) (by kernel_rfl) (fun _ _ _ h => h) (by rfl) ?_ (by assumption) ?_
            rotate_left
            · ((intro w hSw); (try dsimp only at hSw); go_simp; (try with_reducible rfl))
            try simp only [Act.put, List.setIfInBounds_toArray, List.set_cons_zero, List.set_cons_succ]
            refine rgTake (i := 1) (d := 23) (v := ?_) rfl rfl (by kernel_rfl) (by kernel_rfl) (by kernel_rfl) (fun _ _ _ h => h) (by rfl) ?_ (by assumption) ?_
            rotate_left
            · ((intro w hSw); (try dsimp only at hSw); go_simp; (try with_reducible rfl))
            try simp only [Act.put, List.setIfInBounds_toArray, List.set_cons_zero, List.set_cons_succ]
            refine rgTake (i := 2) (d := 24) (v := ?_) rfl rfl (by kernel_rfl) (by kernel_rfl) (by kernel_rfl) (fun _ _ _ h => h) (by rfl) ?_ (by assumption) ?_
            rotate_left
            · ((intro w hSw); (try dsimp only at hSw); go_simp; (try with_reducible rfl))
            try simp only [Act.put, List.setIfInBounds_toArray, List.set_cons_zero, List.set_cons_succ]
            refine rgTake (i := 3) (d := 25) (v := ?_) rfl rfl (by kernel_rfl) (by kernel_rfl) (by kernel_rfl) (fun _ _ _ h => h) (by rfl) ?_ (by assumption) ?_
            rotate_left
            · ((intro w hSw); (try dsimp only at hSw); (have zc := hSw.1); go_simp; (try with_reducible rfl))
            try simp only [Act.put, List.setIfInBounds_toArray, List.set_cons_zero, List.set_cons_succ]
            refine rgTake (i := 4) (d := 26) (v := ?_) rfl rfl (by kernel_rfl) (by kernel_rfl) (by kernel_rfl) (fun _ _ _ h => h) (by rfl) ?_ (by assumption) ?_
            rotate_left
            · ((intro w hSw); (try dsimp only at hSw); go_simp; (try with_reducible rfl))
            try simp only [Act.put, List.setIfInBounds_toArray, List.set_cons_zero, List.set_cons_succ]
            refine wpAnyH_ready (rs := [5]) (by kernel_rfl) (by simp) ?_
            refine AllReadyH.cons rfl (fun K hK => ?_) AllReadyH.nil
            go_simp
            refine hK.out _ _ ?_ (fun hHeld => ?_)
            · (try dsimp only)
              first | exact ⟨cz, G.drew⟩ | exact hHeld
            clear hK K
            try simp only [Act.put, List.setIfInBounds_toArray, List.set_cons_zero, List.set_cons_succ]
            refine wpAnyH_ready (rs := [6]) (by kernel_rfl) (by simp) ?_
            refine AllReadyH.cons rfl (fun K hK => ?_) AllReadyH.nil
            go_simp
            refine (l1Stands_any (b := b) hps).mono ?_; rintro e w1 ⟨rfl, hb1⟩
            go_wp2_with fail
            refine hK.out _ _ ?_ (fun hHeld => ?_)
            · (try dsimp only)
              exact ⟨(hb1.cell (p := ⟨bl, off + k, none⟩) (Nat.lt_of_lt_of_le hbb hHeld.2.size)).trans hHeld.1, hHeld.2.trans (hb1.mono hHeld.2.size)⟩
            clear hK K
            try simp only [Act.put, List.setIfInBounds_toArray, List.set_cons_zero, List.set_cons_succ]
            refine wpAnyH_done (by kernel_rfl) ?_ _
            go_wp2_with fail
            go_meet
            exact ⟨rfl, hHeld.2⟩
          case rest =>
          obtain ⟨rfl, G⟩ := hcut
          have cz : wc.cell? ⟨bl, off + k, none⟩ = some (.string p) := by rw [(G.cell (p := ⟨bl, off + k, none⟩) hbb)]; exact CZ0.out
          have q1 : ¬ 9223372036854775807 < J.size + 1 := by omega
          have q2 : ¬ 9223372036854775807 < J.size + 1 + p.size := by omega
          have q3 : ¬ 9223372036854775807 < J.size + p.size := by omega
          cases hB : hasB p b
          · have HN3 : Hid (∀ j, (hj : j < l.length) → j < k + 1 → hasB l[j] b = false) := HN2.out hB
            clear hB HB HN2
            by_cases hk0 : k = 0
            · have HE : Hid (jnK l b (k + 1) = J ++ p) := (by rw [HJ.out, if_pos hk0] : jnK l b (k + 1) = J ++ p)
              rw [HE.out, ByteArray.size_append] at HS
              subst hk0
              rw [Nat.add_zero] at cz
              by_cases hbig : 4000 < J.size + p.size
              · have h9 := HS.out hbig
                have HF : Hid (joOkB l b = false ∧ joV l ⟨#[b]⟩ = ⟨#[]⟩) := ⟨h9, HW.out h9⟩
                clear h9
                go_wp2_with fail
                go_ret2
                exact ⟨by rw [HO.out, HF.out.1, HF.out.2]; rfl, G⟩
              · go_wp2_with fail
                go_roundw
                case rel => exact ⟨0 + 1, by omega, by go_num, by rw [HE.out], by rw [HE.out, ByteArray.size_append]; omega, HN3, G⟩
                case measure => simp [intOf]; omega
            · have hk1 : 0 < k := by omega
              have HE : Hid (jnK l b (k + 1) = J ++ (⟨#[b]⟩ : ByteArray) ++ p) := (by rw [HJ.out, if_neg hk0] : jnK l b (k + 1) = J ++ (⟨#[b]⟩ : ByteArray) ++ p)
              have hez : (J ++ (⟨#[b]⟩ : ByteArray) ++ p).size = J.size + 1 + p.size := by rw [ByteArray.size_append, ByteArray.size_append]; rfl
              rw [HE.out, hez] at HS
              by_cases hbig : 4000 < J.size + 1 + p.size
              · have h9 := HS.out hbig
                have HF : Hid (joOkB l b = false ∧ joV l ⟨#[b]⟩ = ⟨#[]⟩) := ⟨h9, HW.out h9⟩
                clear h9 hez
                go_wp2_with fail
                go_ret2
                exact ⟨by rw [HO.out, HF.out.1, HF.out.2]; rfl, G⟩
              · have HEZ := Lib.hid hez
                clear hez
                go_wp2_with fail
                go_roundw
                case rel => exact ⟨k + 1, by omega, by go_num, by rw [HE.out], by rw [HE.out, HEZ.out]; omega, HN3, G⟩
                case measure => simp [intOf]; omega
          · have h9 := HB.out hB
            have HF : Hid (joOkB l b = false ∧ joV l ⟨#[b]⟩ = ⟨#[]⟩) := ⟨h9, HW.out h9⟩
            clear h9 hB HB HN2 HS HJ
            go_wp2_with fail
            go_ret2
            exact ⟨by rw [HO.out, HF.out.1, HF.out.2]; rfl, G⟩
        · have hkn : k = n := by omega
          have h9 : joOkB l b = true := jo_yes (by rw [HX.out]; exact h0) (fun j hj => HN.out j hj (by rw [← hkn] at HX; rw [HX.out] at hj; exact hj)) (by
            have h1 := jnK_size (l := l) (b := b) k (by rw [HX.out]; omega)
            rw [List.take_of_length_le (by rw [HX.out]; omega), if_neg (by omega)] at h1
            have h2 := HX.out
            omega)
          have h8 := HV.out h9
          rw [HX.out, ← hkn] at h8
          have HF : Hid (joOkB l b = true ∧ joV l ⟨#[b]⟩ = jnK l b k) := ⟨h9, h8⟩
          clear h9 h8 hkn
          go_wp2_with fail
          go_ret2
          exact ⟨by rw [HO.out, HF.out.1, HF.out.2]; rfl, G⟩
  · have e1 := jo_sep (l := l) (s := s) h1
    have e2 := joV_no e1
    have h1i : ((s.size : Int) != 1) = true := by simp; omega
    have h1j : ¬ (s.size : Int) = 1 := by omega
    rw [e1, e2]
    clear e1 e2 hlen
    go_enter Try.func10, Try.ntmps10
    go_wp2_with fail
    go_ret2
    exact ⟨rfl, Below.refl _ _⟩
theorem indexB_eq (b : UInt8) : ((b.toNat : Int)).toNat.toUInt8 = b := by simp
theorem IndexByte_any {s : ByteArray} {b : UInt8} {w : World} :
    Calls Try.prog 27 #[.string s, .int .u8 b.toNat] w fun e w' => e = .returned (.int .i64 (Lib.indexByte s.data.toList b)) ∧ w' = w := by
  have HI := Try.stringslite_IndexByte s b.toNat w
  rw [indexB_eq] at HI
  go_enter Try.func27, Try.ntmps27
  go_wp2_with fail
  refine HI.mono ?_
  rintro e w' ⟨rfl, rfl⟩
  go_wp2_with fail
  go_ret
  exact ⟨rfl, rfl⟩
set_option maxRecDepth 100000 in
set_option maxHeartbeats 4000000 in
theorem JoinStrings_impl {A : Option Addr} {n c : Nat} {l : List ByteArray} {s : ByteArray} {w : World} (hA : Rd w w.heap.size 1 A n (strs l)) (hn : n ≤ 1048576) (hnc : n ≤ c) (hz : ssz l ≤ 1048576) (hs : s.size ≤ 1048576) :
    Calls Try.prog 9 #[.slice A n c, .string s] w fun e w' => e = .returned (.tuple #[.string (joV l s), .bool (joOk l s)]) ∧ Below w.heap.size w w' := by
  have hlen : l.length = n := by have := hA.1; rw [strs_len] at this; omega
  have HX := Lib.hid hlen
  have HZ := Lib.hid hz
  clear hz
  by_cases h0 : n = 0
  · have e1 := jo_none (l := l) (s := s) (by omega)
    have e2 := joV_no e1
    rw [e1, e2]
    clear e1 e2 hlen
    subst h0
    go_enter Try.func9, Try.ntmps9
    go_wp2_with fail
    go_ret2
    exact ⟨rfl, Below.refl _ _⟩
  · have hn0 : ((n : Int) == 0) = false := by simp; omega
    by_cases h1 : s.size = 1
    · obtain ⟨b, hb⟩ : ∃ b, b = s.data.toList.getD 0 0 := ⟨_, rfl⟩
      have hsb : s = ⟨#[b]⟩ := by rw [hb]; exact one_byte h1
      have HO : Hid (joOk l s = joOkB l b) := (by unfold joOk; rw [decide_eq_true h1, ← hb]; rfl : joOk l s = joOkB l b)
      have HV : Hid (joOkB l b = true → joV l s = jnK l b l.length) := (fun h => by unfold joV; rw [HO.out, if_pos h, ← hb] : joOkB l b = true → joV l s = jnK l b l.length)
      have HW : Hid (joOkB l b = false → joV l s = ⟨#[]⟩) := (fun h => by unfold joV; rw [HO.out, h]; rfl : joOkB l b = false → joV l s = ⟨#[]⟩)
      clear hb h1 hlen
      subst hsb
      have hw0 : IntKind.i64.wrap ((n : Int) - 1) = (n : Int) - 1 := IntWalk.i64_in _ (by omega)
      go_enter Try.func9, Try.ntmps9
      go_wp2_with fail
      go_loopw [6, 22] (fun z i wr => ∃ k : Nat, k ≤ n ∧ i = .int .i64 k ∧ z = .int .i64 ((n : Int) - 1 + (ssz (l.take k) : Int)) ∧ (k = 0 ∨ n + ssz (l.take k) ≤ 4001) ∧ Hid (∀ j, (hj : j < l.length) → j < k → hasB l[j] b = false) ∧ Below w.heap.size w wr) (fun _ i _ => n - (intOf i).toNat)
      case atStart => exact ⟨0, Nat.zero_le _, rfl, by simp [ssz], .inl rfl, (show ∀ j, (hj : j < l.length) → j < 0 → hasB l[j] b = false from fun j _ h => absurd h (by omega)), Below.refl _ _⟩
      case round =>
        obtain ⟨k, hk, rfl, rfl, hjs, HN, G⟩ := hrel
        by_cases hlt : k < n
        · obtain ⟨bl, off, rfl, hbb, hca⟩ := hA.2 (show 0 < n by omega)
          have kx : k < l.length := by rw [HX.out]; exact hlt
          have cz := (G.cell (p := ⟨bl, off + k, none⟩) hbb).trans (hca k (.string l[k]) (by simp [strs, kx]))
          have hps : l[k].size ≤ 1048576 := by have h1 := ssz_take kx; have h2 := ssz_le l (k + 1); have h3 := HZ.out; omega
          have HB : Hid (hasB l[k] b = true → joOkB l b = false) := (fun h => jo_mem kx h : hasB l[k] b = true → joOkB l b = false)
          have HN2 : Hid (hasB l[k] b = false → ∀ j, (hj : j < l.length) → j < k + 1 → hasB l[j] b = false) := (fun h j hj hjk => by
            rcases Nat.lt_succ_iff_lt_or_eq.1 hjk with h1 | rfl
            · exact HN.out j hj h1
            · exact h : hasB l[k] b = false → ∀ j, (hj : j < l.length) → j < k + 1 → hasB l[j] b = false)
          have HT := Lib.hid (ssz_take kx)
          have HLE := Lib.hid (ssz_le l (k + 1))
          have hSS : ssz (l.take k) ≤ 1048576 := Nat.le_trans (ssz_le l k) HZ.out
          generalize l[k] = p at *
          generalize hSK : ssz (l.take k) = SK at *
          clear hca hSK HN kx hjs
          have w1 : IntKind.i64.wrap ((n : Int) - 1 + (SK : Int) + (p.size : Int)) = (n : Int) - 1 + (SK : Int) + (p.size : Int) := IntWalk.i64_in _ (by omega)
          by_cases hbig : 4000 < (n : Int) - 1 + (SK : Int) + (p.size : Int)
          · have hbd : decide (4000 < (n : Int) - 1 + (SK : Int) + (p.size : Int)) = true := decide_eq_true hbig
            have h9 : joOkB l b = false := jo_big (by have h1 := HT.out; have h2 := HLE.out; have h3 := HX.out; omega)
            have HF : Hid (joOkB l b = false ∧ joV l ⟨#[b]⟩ = ⟨#[]⟩) := ⟨h9, HW.out h9⟩
            clear h9
            go_wp2_with fail
            go_ret2
            exact ⟨by rw [HO.out, HF.out.1, HF.out.2]; rfl, G⟩
          · have hbd : decide (4000 < (n : Int) - 1 + (SK : Int) + (p.size : Int)) = false := decide_eq_false hbig
            have hge := Lib.indexByte_ge p.data.toList b
            have HI : ∀ W : World, _ := fun W => IndexByte_any (s := p) (b := b) (w := W)
            cases hB : hasB p b
            · have h8 : ¬ 0 ≤ Lib.indexByte p.data.toList b := by unfold hasB at hB; simpa using hB
              have h7 : Lib.indexByte p.data.toList b = -1 := by omega
              rw [h7] at HI
              have HN3 : Hid (∀ j, (hj : j < l.length) → j < k + 1 → hasB l[j] b = false) := HN2.out hB
              clear hB HB HN2 h7 h8 hge
              go_wp2_with fail
              refine (HI _).mono ?_
              rintro e w2 ⟨rfl, hw2⟩
              subst hw2
              go_wp2_with fail
              go_roundw
              case rel => exact ⟨k + 1, by omega, by go_num, by rw [HT.out]; congr 1; omega, .inr (by rw [HT.out]; omega), HN3, G⟩
              case measure => simp [intOf]; omega
            · have h8 : 0 ≤ Lib.indexByte p.data.toList b := by unfold hasB at hB; simpa using hB
              have h8d : decide (0 ≤ Lib.indexByte p.data.toList b) = true := decide_eq_true h8
              have h9 := HB.out hB
              have HF : Hid (joOkB l b = false ∧ joV l ⟨#[b]⟩ = ⟨#[]⟩) := ⟨h9, HW.out h9⟩
              generalize Lib.indexByte p.data.toList b = ix at *
              clear h9 hB HB HN2 hge
              go_wp2_with fail
              refine (HI _).mono ?_
              rintro e w2 ⟨rfl, hw2⟩
              subst hw2
              go_wp2_with fail
              go_ret2
              exact ⟨by rw [HO.out, HF.out.1, HF.out.2]; rfl, G⟩
        · have hkn : k = n := by omega
          have hsl : ssz (l.take k) = ssz l := by rw [List.take_of_length_le (by rw [HX.out]; omega)]
          have h9 : joOkB l b = true := jo_yes (by rw [HX.out]; exact h0) (fun j hj => HN.out j hj (by rw [← hkn] at HX; rw [HX.out] at hj; exact hj)) (by
            have h2 := HX.out
            omega)
          have HJ : Hid (joV l ⟨#[b]⟩ = jnK l b l.length) := (HV.out h9 : joV l ⟨#[b]⟩ = jnK l b l.length)
          have HF : Hid (joOkB l b = true) := h9
          obtain ⟨bl, off, rfl, hbb, hca⟩ := (hA.on G).2 (show 0 < n by omega)
          have HJO : Calls Try.prog 28 #[.slice (some ⟨bl, off, none⟩) n c, .string ⟨#[b]⟩] wr fun e w' => e = .returned (.string (jnK l b l.length)) ∧ Below wr.heap.size wr w' := by
            have h7 := jnK_join (l := l) (b := b) l.length (Nat.le_refl _)
            rw [List.take_length] at h7
            have h6 := jnK_size (l := l) (b := b) l.length (Nat.le_refl _)
            rw [List.take_length] at h6
            have h5 := HX.out
            have h4 := Try.strings_Join bl off c l ⟨#[b]⟩ wr (fun j u hu => hca j (.string u) (by simp [strs, hu])) hbb (by omega) (by omega) (by
              show (Lib.join (l.map (·.data.toList)) [b]).length ≤ _
              rw [← h7, Array.length_toList]
              show (jnK l b l.length).size ≤ _
              rw [if_neg (by omega)] at h6
              omega)
            have h3 : (⟨(Lib.join (l.map (·.data.toList)) (⟨#[b]⟩ : ByteArray).data.toList).toArray⟩ : ByteArray) = jnK l b l.length := by
              show (⟨(Lib.join (l.map (·.data.toList)) [b]).toArray⟩ : ByteArray) = _
              rw [← h7]
            rw [h3, h5] at h4
            rw [h5]
            exact h4
          clear h9 hkn hsl hca hjs
          go_wp2_with fail
          refine HJO.mono ?_
          rintro e w2 ⟨rfl, hb2⟩
          go_wp2_with fail
          go_ret2
          exact ⟨by rw [HO.out, HF.out, HJ.out]; rfl, G.trans (hb2.mono G.size)⟩
    · have e1 := jo_sep (l := l) (s := s) h1
      have e2 := joV_no e1
      have h1i : ((s.size : Int) != 1) = true := by simp; omega
      have h1j : ¬ (s.size : Int) = 1 := by omega
      rw [e1, e2]
      clear e1 e2 hlen
      go_enter Try.func9, Try.ntmps9
      go_wp2_with fail
      go_ret2
      exact ⟨rfl, Below.refl _ _⟩
end Go.Proofs.Ytmmpcchjalgokaa
