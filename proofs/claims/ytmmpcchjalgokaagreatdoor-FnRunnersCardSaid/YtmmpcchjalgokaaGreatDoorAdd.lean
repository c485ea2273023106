/- Contracts: AddRunner, the program's and the reference's. -/
import Derived.Test.YtmmpcchjalgokaaGreatDoorIns
import Derived.Test.YtmmpcchjalgokaaGreatDoorSwp
namespace Go.Proofs.YtmmpcchjalgokaaGreatDoor
set_option linter.unusedVariables false
set_option linter.unusedSimpArgs false
open Go.RowKit
/-- The place of an id among runners whose ids rise. -/
def insI : List Rn → Int → Nat
  | [], _ => 0
  | c :: l, x => if c.id < x then insI l x + 1 else 0
theorem insI_le : ∀ (l : List Rn) (x : Int), insI l x ≤ l.length
  | [], _ => Nat.le_refl _
  | c :: l, x => by
    unfold insI
    split
    · have := insI_le l x; simp; omega
    · omega
theorem insI_eq : ∀ (l : List Rn) (x : Int) (k : Nat), k ≤ l.length → (∀ (e : Nat) (he : e < l.length), e < k → l[e].id < x) → (∀ (hk : k < l.length), ¬ l[k].id < x) → insI l x = k
  | [], x, k, hk, _, _ => by simp at hk; subst hk; rfl
  | c :: l, x, 0, _, _, hs => by
    have h0 : ¬ c.id < x := hs (Nat.succ_pos _)
    unfold insI
    rw [if_neg h0]
  | c :: l, x, k + 1, hk, h, hs => by
    have h0 : c.id < x := h 0 (Nat.succ_pos _) (Nat.succ_pos _)
    unfold insI
    rw [if_pos h0, insI_eq l x k (by simpa using hk) (fun e he hek => h (e + 1) (Nat.succ_lt_succ he) (Nat.succ_lt_succ hek)) (fun hk' => hs (Nat.succ_lt_succ hk'))]
def adL (l : List Rn) (r : Rn) : List Rn := insL l (insI l r.id) r
theorem adL_len (l : List Rn) (r : Rn) : (adL l r).length = l.length + 1 := insL_len (insI_le l r.id)
def adOk (l : List Rn) (r : Rn) : Bool := okRns l && okRns (adL l r)
def adR (l : List Rn) (r : Rn) : List Rn := if adOk l r = true then adL l r else []
theorem adR_b (l : List Rn) (r : Rn) : (adR l r).length ≤ 1000 := by
  unfold adR
  split
  · next h =>
    unfold adOk at h
    rw [Bool.and_eq_true] at h
    have := (okRns_iff h.2).1
    omega
  · simp
theorem adL_size {l : List Rn} {r : Rn} (hs : ∀ r ∈ l, r.name.size ≤ maxLen ∧ r.club.size ≤ maxLen) (hr : r.name.size ≤ maxLen ∧ r.club.size ≤ maxLen) : ∀ x ∈ adL l r, x.name.size ≤ maxLen ∧ x.club.size ≤ maxLen := by
  intro x hx
  unfold adL insL at hx
  rcases List.mem_append.1 hx with h | h
  · exact hs x (List.mem_of_mem_take h)
  · rcases List.mem_cons.1 h with rfl | h
    · exact hr
    · exact hs x (List.mem_of_mem_drop h)
theorem two_new (w : World) (t : TypeId) (c1 c2 : List Value) : Blk ((w.alloc (.cells c1.toArray t)).alloc (.cells c2.toArray t)) w.heap.size t c1 ∧ Blk ((w.alloc (.cells c1.toArray t)).alloc (.cells c2.toArray t)) (w.heap.size + 1) t c2 := two_blk w t c1 c2
theorem Rd.dropr {w : World} {B q j bl off : Nat} {l : List Rn} (h : Rd w B 6 (some ⟨bl, off, none⟩) q (rns l)) (hj : j ≤ q) : Rd w B 6 (some ⟨bl, off + j * 6, none⟩) (q - j) (rns (l.drop j)) := by
  have hl := h.rlen
  refine ⟨by rw [rns_len, List.length_drop, hl], fun h0 => ?_⟩
  obtain ⟨b, o, e, hb, hc⟩ := h.2 (by omega)
  simp only [Option.some.injEq, Addr.mk.injEq, and_true] at e
  obtain ⟨rfl, rfl⟩ := e
  refine ⟨_, _, rfl, hb, fun k u hu => ?_⟩
  rw [Nat.add_assoc]
  refine hc (j * 6 + k) u ?_
  rw [← rns_drop l j (by omega), List.getElem?_drop] at hu
  exact hu
theorem Rd.none0 {w : World} {B : Nat} {A : Option Addr} : Rd w B 6 A 0 (rns []) := ⟨by simp [rns], fun h => absurd h (by omega)⟩
theorem rns_app3 (l : List Rn) (k : Nat) (r : Rn) : [] ++ rns (l.take k) ++ r.cells ++ rns (l.drop k) = rns (insL l k r) := by
  unfold rns insL
  rw [List.flatMap_append, List.flatMap_cons, List.nil_append, List.append_assoc]
set_option maxRecDepth 100000 in
set_option maxHeartbeats 8000000 in
theorem AddRunner_impl {bl off q cq : Nat} {l : List Rn} {r : Rn} {w : World} (hR : Rd w w.heap.size 6 (some ⟨bl, off, none⟩) q (rns l)) (hq : q ≤ 1048576) (hqc : q ≤ cq) (hs : ∀ r ∈ l, r.name.size ≤ maxLen ∧ r.club.size ≤ maxLen) (hsr : r.name.size ≤ maxLen ∧ r.club.size ≤ maxLen) :
    Calls Tryz.prog 27 #[.slice (some ⟨bl, off, none⟩) q cq, .agg #[.int .i64 r.id, .string r.name, .string r.club, .int .i64 r.born, .bool r.woman, .int .i64 r.card]] w fun e w' => ∃ A cp, e = .returned (.tuple #[.slice A (adR l r).length cp, .bool (adOk l r)]) ∧ w'.ownsRow w.heap.size 41 6 (.slice A (adR l r).length cp) (adR l r).length (rns (adR l r)) ∧ Below w.heap.size w w' := by
  have HSZ := Lib.hid hs
  have HQ := Lib.hid hR.rlen
  have HSR := Lib.hid (adL_size hs hsr)
  clear hs hsr
  have K0 := Blk.new w 41 r.cells
  have G : Below w.heap.size w (w.alloc (.cells r.cells.toArray 41)) := (by repeat (first | exact Below.refl _ _ | refine below_drewN ?_ _ | refine Below.drew ?_ | refine Below.alloc ?_ (by first | omega | (simp; done) | (simp; omega)) _ | refine Below.setCell ?_ (by first | omega | (simp; done) | (simp; omega)) _))
  cases hok : okRns l
  · have e1 : adOk l r = false := by unfold adOk; rw [hok]; rfl
    have e2 : adR l r = [] := by unfold adR; rw [e1]; rfl
    rw [e1, e2]; clear e1 e2
    have HOK := Lib.hid hok
    clear hok
    go_enter Tryz.func27, Tryz.ntmps27
    go_wp2_with fail
    refine (AreRunners_impl (hR.on G) hq hqc HSZ.out).mono ?_
    rintro e w1 ⟨rfl, hb⟩
    replace G := G.trans (hb.mono G.size)
    clear hb
    rw [HOK.out]
    go_wp2_with fail
    go_ret2
    exact ⟨none, 0, rfl, World.ownsRow_nil _ _ _ _, G⟩
  have HOK := Lib.hid hok
  have hq10 : q ≤ 10 := by have := (okRns_iff hok).1; have := HQ.out; omega
  have HAL := Lib.hid (show (adL l r).length = q + 1 by rw [adL_len, HQ.out])
  have HOK2 : Hid (∀ b, okRns (adL l r) = b → adOk l r = b ∧ adR l r = if b = true then adL l r else []) := by
    show ∀ _, _
    intro b hb
    have e1 : adOk l r = b := by unfold adOk; rw [hok, hb]; cases b <;> rfl
    exact ⟨e1, by unfold adR; rw [e1]⟩
  clear hok
  obtain ⟨i0, hi0, hz0, hz1, hz2⟩ := info_parts rn_info
  go_enter Tryz.func27, Tryz.ntmps27
  go_wp2_with fail
  refine (AreRunners_impl (hR.on G) hq hqc HSZ.out).mono ?_
  rintro e w1 ⟨rfl, hb⟩
  replace K0 := K0.on hb
  replace G := G.trans (hb.mono G.size)
  clear hb
  rw [HOK.out]
  go_wp2_with fail
  go_loopw [6] (fun i wr => ∃ k : Nat, k ≤ q ∧ i = .int .i64 k ∧ Hid (∀ (e : Nat) (he : e < l.length), e < k → l[e].id < r.id) ∧ Blk wr w.heap.size 41 r.cells ∧ Below w.heap.size w wr) (fun i _ => q - (intOf i).toNat)
  case atStart => exact ⟨0, Nat.zero_le _, rfl, (fun e _ h => absurd h (by omega)), K0, G⟩
  clear K0 G
  case round =>
    obtain ⟨k, hk, rfl, HN, K0, G⟩ := hrel
    by_cases hlt : k < q
    · obtain ⟨bl', off', hbe, hbb, hca⟩ := hR.rn (show 0 < q by omega)
      simp only [Option.some.injEq, Addr.mk.injEq, and_true] at hbe
      obtain ⟨rfl, rfl⟩ := hbe
      have kx : k < l.length := by rw [HQ.out]; exact hlt
      have CK := hca k kx
      clear hca
      have hkq : (k : Int) < (q : Int) := by omega
      by_cases hid : l[k].id < r.id
      · have HID := Lib.hid hid
        go_upto_region 4 with (fail)
        refine wp_region_held_drew (S := fun w' => Blk w' w.heap.size 41 r.cells ∧ Below w.heap.size w w') (by kernel_rfl) ?_ (fun hHeld => ?_)
        · (try dsimp only)
          exact ⟨K0.drew, G.drew⟩
        refine rgTake (i := 0) (d := 11) (v := ?_) rfl rfl (by kernel_rfl) (by kernel_rfl) (by kernel_rfl) (fun _ _ _ h => h) (by rfl) ?_ (by assumption) ?_
        rotate_left
        · ((intro w hSw); (try dsimp only at hSw); go_simp; (try with_reducible rfl))
        try simp only [Act.put, List.setIfInBounds_toArray, List.set_cons_zero, List.set_cons_succ]
        refine rgTake (i := 1) (d := 12) (v := ?_) rfl rfl (by kernel_rfl) (by kernel_rfl) (by kernel_rfl) (fun _ _ _ h => h) (by rfl) ?_ (by assumption) ?_
        rotate_left
        · ((intro w hSw); (try dsimp only at hSw); go_simp; (try with_reducible rfl))
        try simp only [Act.put, List.setIfInBounds_toArray, List.set_cons_zero, List.set_cons_succ]
        refine rgTake (i := 2) (d := 13) (v := ?_) rfl rfl (by kernel_rfl) (by kernel_rfl) (by kernel_rfl) (fun _ _ _ h => h) (by rfl) ?_ (by assumption) ?_
        rotate_left
        · ((intro w hSw); (try dsimp only at hSw); go_simp; (try with_reducible rfl))
        try simp only [Act.put, List.setIfInBounds_toArray, List.set_cons_zero, List.set_cons_succ]
        refine rgTake (i := 3) (d := 14) (v := ?_) rfl rfl (by kernel_rfl) (by kernel_rfl) (by kernel_rfl) (fun _ _ _ h => h) (by rfl) ?_ (by assumption) ?_
        rotate_left
        · ((intro w hSw); (try dsimp only at hSw); go_simp; (try with_reducible rfl))
        try simp only [Act.put, List.setIfInBounds_toArray, List.set_cons_zero, List.set_cons_succ]
        refine rgTake (i := 4) (d := 15) (v := ?_) rfl rfl (by kernel_rfl) (by kernel_rfl) (by kernel_rfl) (fun _ _ _ h => h) (by rfl) ?_ (by assumption) ?_
        rotate_left
        · ((intro w hSw); (try dsimp only at hSw); go_simp; (try with_reducible rfl))
        try simp only [Act.put, List.setIfInBounds_toArray, List.set_cons_zero, List.set_cons_succ]
        refine rgTake (i := 5) (d := 16) (v := ?_) rfl rfl (by kernel_rfl) (by kernel_rfl) (by kernel_rfl) (fun _ _ _ h => h) (by rfl) ?_ (by assumption) ?_
        rotate_left
        · ((intro w hSw); (try dsimp only at hSw); go_simp; (try with_reducible rfl))
        try simp only [Act.put, List.setIfInBounds_toArray, List.set_cons_zero, List.set_cons_succ]
        refine rgTake (i := 6) (d := 17) (v := ?_) rfl rfl (by kernel_rfl) (by kernel_rfl) (by kernel_rfl) (fun _ _ _ h => h) (by rfl) ?_ (by assumption) ?_
        rotate_left
        · ((intro w hSw); (try dsimp only at hSw); go_simp; (try with_reducible rfl))
        try simp only [Act.put, List.setIfInBounds_toArray, List.set_cons_zero, List.set_cons_succ]
        refine rgTake (i := 7) (d := 18) (v := ?_) rfl rfl (by kernel_rfl) (by kernel_rfl) (by kernel_rfl) (fun _ _ _ h => h) (by rfl) ?_ (by assumption) ?_
        rotate_left
        · ((intro w hSw); (try dsimp only at hSw); go_simp; (try with_reducible rfl))
        try simp only [Act.put, List.setIfInBounds_toArray, List.set_cons_zero, List.set_cons_succ]
        refine rgTake (i := 8) (d := 19) (v := ?_) rfl rfl (by kernel_rfl) (by kernel_rfl) (by kernel_rfl) (fun _ _ _ h => h) (by rfl) ?_ (by assumption) ?_
        rotate_left
        · ((intro w hSw); (try dsimp only at hSw); go_simp; (try with_reducible rfl))
        try simp only [Act.put, List.setIfInBounds_toArray, List.set_cons_zero, List.set_cons_succ]
        refine rgTake (i := 9) (d := 20) (v := ?_) rfl rfl (by kernel_rfl) (by kernel_rfl) (by kernel_rfl) (fun _ _ _ h => h) (by rfl) ?_ (by assumption) ?_
        rotate_left
        · ((intro w hSw); (try dsimp only at hSw); (obtain ⟨y0, y1, y2, y3, y4, y5⟩ := CK.below hSw.2 hbb; obtain ⟨z0, z1, z2, z3, z4, z5⟩ := blk6 hSw.1); go_simp; (try with_reducible rfl))
        try simp only [Act.put, List.setIfInBounds_toArray, List.set_cons_zero, List.set_cons_succ]
        refine rgTake (i := 10) (d := 21) (v := ?_) rfl rfl (by kernel_rfl) (by kernel_rfl) (by kernel_rfl) (fun _ _ _ h => h) (by rfl) ?_ (by assumption) ?_
        rotate_left
        · ((intro w hSw); (try dsimp only at hSw); go_simp; (try with_reducible rfl))
        try simp only [Act.put, List.setIfInBounds_toArray, List.set_cons_zero, List.set_cons_succ]
        refine rgTake (i := 11) (d := 22) (v := ?_) rfl rfl (by kernel_rfl) (by kernel_rfl) (by kernel_rfl) (fun _ _ _ h => h) (by rfl) ?_ (by assumption) ?_
        rotate_left
        · ((intro w hSw); (try dsimp only at hSw); (obtain ⟨y0, y1, y2, y3, y4, y5⟩ := CK.below hSw.2 hbb; obtain ⟨z0, z1, z2, z3, z4, z5⟩ := blk6 hSw.1); go_simp; (try with_reducible rfl))
        try simp only [Act.put, List.setIfInBounds_toArray, List.set_cons_zero, List.set_cons_succ]
        refine rgTake (i := 12) (d := 23) (v := ?_) rfl rfl (by kernel_rfl) (by kernel_rfl) (by kernel_rfl) (fun _ _ _ h => h) (by rfl) ?_ (by assumption) ?_
        rotate_left
        · ((intro w hSw); (try dsimp only at hSw); go_simp; (try with_reducible rfl))
        try simp only [Act.put, List.setIfInBounds_toArray, List.set_cons_zero, List.set_cons_succ]
        refine rgTake (i := 13) (d := 24) (v := ?_) rfl rfl (by kernel_rfl) (by kernel_rfl) (by kernel_rfl) (fun _ _ _ h => h) (by rfl) ?_ (by assumption) ?_
        rotate_left
        · ((intro w hSw); (try dsimp only at hSw); go_simp; (try with_reducible rfl))
        try simp only [Act.put, List.setIfInBounds_toArray, List.set_cons_zero, List.set_cons_succ]
        refine wpAnyH_done (by kernel_rfl) ?_ _
        go_wp2_with fail
        go_roundw
        case rel => exact ⟨k + 1, by omega, by go_num, (show ∀ (e : Nat) (he : e < l.length), e < k + 1 → l[e].id < r.id from fun e he hek => by
          by_cases ee : e = k
          · subst ee; exact HID.out
          · exact HN.out e he (by omega)), hHeld.1, hHeld.2⟩
        case measure => simp [intOf]; omega
      · have HAT : Hid (adL l r = insL l k r) := by
          show _ = _
          unfold adL
          rw [insI_eq l r.id k (by rw [HQ.out]; exact hk) HN.out (fun _ => hid)]
        have hidd : decide (l[k].id < r.id) = false := by simpa using hid
        go_upto_region 4 with (fail)
        refine wp_region_held_drew (S := fun w' => Blk w' w.heap.size 41 r.cells ∧ Below w.heap.size w w') (by kernel_rfl) ?_ (fun hHeld => ?_)
        · (try dsimp only)
          exact ⟨K0.drew, G.drew⟩
        refine rgTake (i := 0) (d := 11) (v := ?_) rfl rfl (by kernel_rfl) (by kernel_rfl) (by kernel_rfl) (fun _ _ _ h => h) (by rfl) ?_ (by assumption) ?_
        rotate_left
        · ((intro w hSw); (try dsimp only at hSw); go_simp; (try with_reducible rfl))
        try simp only [Act.put, List.setIfInBounds_toArray, List.set_cons_zero, List.set_cons_succ]
        refine rgTake (i := 1) (d := 12) (v := ?_) rfl rfl (by kernel_rfl) (by kernel_rfl) (by kernel_rfl) (fun _ _ _ h => h) (by rfl) ?_ (by assumption) ?_
        rotate_left
        · ((intro w hSw); (try dsimp only at hSw); go_simp; (try with_reducible rfl))
        try simp only [Act.put, List.setIfInBounds_toArray, List.set_cons_zero, List.set_cons_succ]
        refine rgTake (i := 2) (d := 13) (v := ?_) rfl rfl (by kernel_rfl) (by kernel_rfl) (by kernel_rfl) (fun _ _ _ h => h) (by rfl) ?_ (by assumption) ?_
        rotate_left
        · ((intro w hSw); (try dsimp only at hSw); go_simp; (try with_reducible rfl))
        try simp only [Act.put, List.setIfInBounds_toArray, List.set_cons_zero, List.set_cons_succ]
        refine rgTake (i := 3) (d := 14) (v := ?_) rfl rfl (by kernel_rfl) (by kernel_rfl) (by kernel_rfl) (fun _ _ _ h => h) (by rfl) ?_ (by assumption) ?_
        rotate_left
        · ((intro w hSw); (try dsimp only at hSw); go_simp; (try with_reducible rfl))
        try simp only [Act.put, List.setIfInBounds_toArray, List.set_cons_zero, List.set_cons_succ]
        refine rgTake (i := 4) (d := 15) (v := ?_) rfl rfl (by kernel_rfl) (by kernel_rfl) (by kernel_rfl) (fun _ _ _ h => h) (by rfl) ?_ (by assumption) ?_
        rotate_left
        · ((intro w hSw); (try dsimp only at hSw); go_simp; (try with_reducible rfl))
        try simp only [Act.put, List.setIfInBounds_toArray, List.set_cons_zero, List.set_cons_succ]
        refine rgTake (i := 5) (d := 16) (v := ?_) rfl rfl (by kernel_rfl) (by kernel_rfl) (by kernel_rfl) (fun _ _ _ h => h) (by rfl) ?_ (by assumption) ?_
        rotate_left
        · ((intro w hSw); (try dsimp only at hSw); go_simp; (try with_reducible rfl))
        try simp only [Act.put, List.setIfInBounds_toArray, List.set_cons_zero, List.set_cons_succ]
        refine rgTake (i := 6) (d := 17) (v := ?_) rfl rfl (by kernel_rfl) (by kernel_rfl) (by kernel_rfl) (fun _ _ _ h => h) (by rfl) ?_ (by assumption) ?_
        rotate_left
        · ((intro w hSw); (try dsimp only at hSw); go_simp; (try with_reducible rfl))
        try simp only [Act.put, List.setIfInBounds_toArray, List.set_cons_zero, List.set_cons_succ]
        refine rgTake (i := 7) (d := 18) (v := ?_) rfl rfl (by kernel_rfl) (by kernel_rfl) (by kernel_rfl) (fun _ _ _ h => h) (by rfl) ?_ (by assumption) ?_
        rotate_left
        · ((intro w hSw); (try dsimp only at hSw); go_simp; (try with_reducible rfl))
        try simp only [Act.put, List.setIfInBounds_toArray, List.set_cons_zero, List.set_cons_succ]
        refine rgTake (i := 8) (d := 19) (v := ?_) rfl rfl (by kernel_rfl) (by kernel_rfl) (by kernel_rfl) (fun _ _ _ h => h) (by rfl) ?_ (by assumption) ?_
        rotate_left
        · ((intro w hSw); (try dsimp only at hSw); go_simp; (try with_reducible rfl))
        try simp only [Act.put, List.setIfInBounds_toArray, List.set_cons_zero, List.set_cons_succ]
        refine rgTake (i := 9) (d := 20) (v := ?_) rfl rfl (by kernel_rfl) (by kernel_rfl) (by kernel_rfl) (fun _ _ _ h => h) (by rfl) ?_ (by assumption) ?_
        rotate_left
        · ((intro w hSw); (try dsimp only at hSw); (obtain ⟨y0, y1, y2, y3, y4, y5⟩ := CK.below hSw.2 hbb; obtain ⟨z0, z1, z2, z3, z4, z5⟩ := blk6 hSw.1); go_simp; (try with_reducible rfl))
        try simp only [Act.put, List.setIfInBounds_toArray, List.set_cons_zero, List.set_cons_succ]
        refine rgTake (i := 10) (d := 21) (v := ?_) rfl rfl (by kernel_rfl) (by kernel_rfl) (by kernel_rfl) (fun _ _ _ h => h) (by rfl) ?_ (by assumption) ?_
        rotate_left
        · ((intro w hSw); (try dsimp only at hSw); go_simp; (try with_reducible rfl))
        try simp only [Act.put, List.setIfInBounds_toArray, List.set_cons_zero, List.set_cons_succ]
        refine rgTake (i := 11) (d := 22) (v := ?_) rfl rfl (by kernel_rfl) (by kernel_rfl) (by kernel_rfl) (fun _ _ _ h => h) (by rfl) ?_ (by assumption) ?_
        rotate_left
        · ((intro w hSw); (try dsimp only at hSw); (obtain ⟨y0, y1, y2, y3, y4, y5⟩ := CK.below hSw.2 hbb; obtain ⟨z0, z1, z2, z3, z4, z5⟩ := blk6 hSw.1); go_simp; (try with_reducible rfl))
        try simp only [Act.put, List.setIfInBounds_toArray, List.set_cons_zero, List.set_cons_succ]
        refine rgTake (i := 12) (d := 23) (v := ?_) rfl rfl (by kernel_rfl) (by kernel_rfl) (by kernel_rfl) (fun _ _ _ h => h) (by rfl) ?_ (by assumption) ?_
        rotate_left
        · ((intro w hSw); (try dsimp only at hSw); go_simp; (try with_reducible rfl))
        try simp only [Act.put, List.setIfInBounds_toArray, List.set_cons_zero, List.set_cons_succ]
        refine rgTake (i := 13) (d := 24) (v := ?_) rfl rfl (by kernel_rfl) (by kernel_rfl) (by kernel_rfl) (fun _ _ _ h => h) (by rfl) ?_ (by assumption) ?_
        rotate_left
        · ((intro w hSw); (try dsimp only at hSw); go_simp; (try with_reducible rfl))
        try simp only [Act.put, List.setIfInBounds_toArray, List.set_cons_zero, List.set_cons_succ]
        refine wpAnyH_done (by kernel_rfl) ?_ _
        replace K0 := hHeld.1
        replace G := hHeld.2
        have hcqk : ¬ (cq = k) := by omega
        clear HN hHeld CK
        generalize wr.drew = wx at *
        have hKl := K0.lt
        go_upto_region 6 with (fail)
        go_cut [7] (fun v wx => ∃ A' c', v = .slice A' (q + 1) c' ∧ q + 1 ≤ c' ∧ wx.ownsRow w.heap.size 41 6 (.slice A' (q + 1) c') (q + 1) (rns (adL l r)) ∧ Below w.heap.size w wx)
        case first =>
          refine wp_region_held_drew (S := fun w' => Blk w' w.heap.size 41 r.cells ∧ Below w.heap.size w w') (by kernel_rfl) ?_ (fun hHeld => ?_)
          · (try dsimp only)
            first | exact ⟨K0.drew, G.drew⟩ | exact ⟨hHeld.1.alloc _, hHeld.2.alloc hHeld.2.size _⟩
          refine rgTake (i := 1) (d := 28) (v := ?_) rfl rfl (by kernel_rfl) (by kernel_rfl) (by kernel_rfl) (fun _ _ _ h => h) (by rfl) ?_ (by assumption) ?_
          rotate_left
          · ((intro w hSw); (try dsimp only at hSw); go_simp; (try with_reducible rfl))
          try simp only [Act.put, List.setIfInBounds_toArray, List.set_cons_zero, List.set_cons_succ]
          refine rgTake (i := 3) (d := 30) (v := ?_) rfl rfl (by kernel_rfl) (by kernel_rfl) (by kernel_rfl) (fun _ _ _ h => h) (by rfl) ?_ (by assumption) ?_
          rotate_left
          · ((intro w hSw); (try dsimp only at hSw); go_simp; (try with_reducible rfl))
          try simp only [Act.put, List.setIfInBounds_toArray, List.set_cons_zero, List.set_cons_succ]
          refine rgTake (i := 4) (d := 31) (v := ?_) rfl rfl (by kernel_rfl) (by kernel_rfl) (by kernel_rfl) (fun _ _ _ h => h) (by rfl) ?_ (by assumption) ?_
          rotate_left
          · ((intro w hSw); (try dsimp only at hSw); (obtain ⟨z0, z1, z2, z3, z4, z5⟩ := blk6 hSw.1); go_simp; (try with_reducible rfl))
          try simp only [Act.put, List.setIfInBounds_toArray, List.set_cons_zero, List.set_cons_succ]
          refine wpAnyH_ready (rs := [0, 5]) (by kernel_rfl) (by simp) ?_
          refine AllReadyH.cons rfl (fun K hK => ?_) ?_
          ·
            go_simp
            refine hK.out _ _ ?_ (fun hHeld => ?_)
            · (try dsimp only)
              first | exact ⟨K0.drew, G.drew⟩ | exact ⟨hHeld.1.alloc _, hHeld.2.alloc hHeld.2.size _⟩
            clear hK K
            try simp only [Act.put, List.setIfInBounds_toArray, List.set_cons_zero, List.set_cons_succ]
            refine wpAnyH_ready (rs := [2, 5]) (by kernel_rfl) (by simp) ?_
            refine AllReadyH.cons rfl (fun K hK => ?_) ?_
            ·
              first | (refine step_append_rd rfl _ _ 47 rfl w.heap.size 41 i0 (.agg #[.int .i64 0, .string ByteArray.empty, .string ByteArray.empty, .int .i64 0, .bool false, .int .i64 0]) 6 64 Tryz.underlying47 hi0 hz0 hz1 hz2 rfl (by decide) (.slice (some ⟨wx.heap.size, 0, none⟩) 0 0) 0 [] rfl ((Blk.new wx.drew 41 []).own (size := 6) (n := 0) G.size rfl (Nat.zero_le _)) _ _ _ _ _ rfl (hR.below hHeld.2) (rns_one' l) (by simp only [maxLen]; omega) (by omega) hHeld.2.size ?_; intro A8 c8 w8 h8 own8 grow8 at8; simp only [Nat.zero_add, List.nil_append] at h8 own8 at8 ⊢; have hne8 := own8) | (refine step_append_rd rfl _ _ 47 rfl w.heap.size 41 i0 (.agg #[.int .i64 0, .string ByteArray.empty, .string ByteArray.empty, .int .i64 0, .bool false, .int .i64 0]) 6 64 Tryz.underlying47 hi0 hz0 hz1 hz2 rfl (by decide) (.slice (some ⟨wx.heap.size, 0, none⟩) 0 0) 0 [] rfl ((two_new wx.drew 41 [] r.cells).1.own (size := 6) (n := 0) G.size rfl (Nat.zero_le _)) _ _ _ _ _ rfl (hR.below hHeld.2) (rns_one' l) (by simp only [maxLen]; omega) (by omega) hHeld.2.size ?_; intro A8 c8 w8 h8 own8 grow8 at8; simp only [Nat.zero_add, List.nil_append] at h8 own8 at8 ⊢; have V8 : Blk w8 (wx.heap.size + 1) 41 r.cells := ((two_new wx.drew 41 [] r.cells).2).grown grow8 (by simp [Value.ownBlock]); have hne8 : (Value.slice A8 q c8).ownBlock ≠ some (wx.heap.size + 1) := fun e => by rcases at8 _ e with h | h <;> simp [Value.ownBlock] at h <;> omega) | (refine step_append_rd rfl _ _ 47 rfl w.heap.size 41 i0 (.agg #[.int .i64 0, .string ByteArray.empty, .string ByteArray.empty, .int .i64 0, .bool false, .int .i64 0]) 6 64 Tryz.underlying47 hi0 hz0 hz1 hz2 rfl (by decide) (.slice (some ⟨wx.heap.size + 1, 0, none⟩) 0 0) 0 [] rfl ((two_new wx.drew 41 r.cells []).2.own (size := 6) (n := 0) (Nat.le_trans G.size (Nat.le_succ _)) rfl (Nat.zero_le _)) _ _ _ _ _ rfl (hR.below hHeld.2) (rns_one' l) (by simp only [maxLen]; omega) (by omega) hHeld.2.size ?_; intro A8 c8 w8 h8 own8 grow8 at8; simp only [Nat.zero_add, List.nil_append] at h8 own8 at8 ⊢; have V8 : Blk w8 (wx.heap.size) 41 r.cells := ((two_new wx.drew 41 r.cells []).1).grown grow8 (by simp [Value.ownBlock]); have hne8 : (Value.slice A8 q c8).ownBlock ≠ some (wx.heap.size) := fun e => by rcases at8 _ e with h | h <;> simp [Value.ownBlock] at h <;> omega)
              refine hK.out _ _ ?_ (fun hHeld => ?_)
              · (try dsimp only)
                exact ⟨hHeld.1.grown grow8 (fun e => by simp [Value.ownBlock] at e; omega), hHeld.2.grown grow8 hHeld.2.size (fun k hk => by simp [Value.ownBlock] at hk; omega)⟩
              clear hK K
              try simp only [Act.put, List.setIfInBounds_toArray, List.set_cons_zero, List.set_cons_succ]
              refine wpAnyH_ready (rs := [5]) (by kernel_rfl) (by simp) ?_
              refine AllReadyH.cons rfl (fun K hK => ?_) AllReadyH.nil
              go_simp
              refine hK.out _ _ ?_ (fun hHeld => ?_)
              · (try dsimp only)
                first | exact ⟨K0.drew, G.drew⟩ | exact ⟨hHeld.1.alloc _, hHeld.2.alloc hHeld.2.size _⟩
              clear hK K
              try simp only [Act.put, List.setIfInBounds_toArray, List.set_cons_zero, List.set_cons_succ]
              refine wpAnyH_ready (rs := [6]) (by kernel_rfl) (by simp) ?_
              refine AllReadyH.cons rfl (fun K hK => ?_) AllReadyH.nil
              go_simp
              first | (refine (insert_any own8 V8 hne8 (by omega) (by omega) hHeld.2.size).mono ?_; rintro e wy ⟨A9, c9, rfl, hc9, own9, grow9⟩) | (refine (insert_any (own8.alloc _) (Blk.new w8 41 r.cells) (fun e => by have := (own8.lt _ e).2; omega) (by omega) (by omega) hHeld.2.size).mono ?_; rintro e wy ⟨A9, c9, rfl, hc9, own9, grow9⟩)
              go_wp2_with fail
              refine hK.out _ _ ?_ (fun hHeld => ?_)
              · (try dsimp only)
                exact ⟨hHeld.1.grown grow9 (fun e => by rcases at8 _ e.symm with h | h <;> simp [Value.ownBlock] at h <;> omega), hHeld.2.grown grow9 hHeld.2.size (fun k hk => (own8.lt k hk).1)⟩
              clear hK K
              try simp only [Act.put, List.setIfInBounds_toArray, List.set_cons_zero, List.set_cons_succ]
              refine rgTake (i := 7) (d := 7) (v := ?_) rfl rfl (by kernel_rfl) (by kernel_rfl) (by kernel_rfl) (fun _ _ _ h => h) (by rfl) ?_ (by assumption) ?_
              rotate_left
              · ((intro w hSw); (try dsimp only at hSw); go_simp; (try with_reducible rfl))
              try simp only [Act.put, List.setIfInBounds_toArray, List.set_cons_zero, List.set_cons_succ]
              refine wpAnyH_done (by kernel_rfl) ?_ _
              go_wp2_with fail
              go_meet
              exact ⟨A9, c9, rfl, hc9, (by rw [HAT.out]; exact own9), hHeld.2⟩
            refine AllReadyH.cons rfl (fun K hK => ?_) ?_
            ·
              go_simp
              refine hK.out _ _ ?_ (fun hHeld => ?_)
              · (try dsimp only)
                first | exact ⟨K0.drew, G.drew⟩ | exact ⟨hHeld.1.alloc _, hHeld.2.alloc hHeld.2.size _⟩
              clear hK K
              try simp only [Act.put, List.setIfInBounds_toArray, List.set_cons_zero, List.set_cons_succ]
              refine wpAnyH_ready (rs := [2]) (by kernel_rfl) (by simp) ?_
              refine AllReadyH.cons rfl (fun K hK => ?_) AllReadyH.nil
              first | (refine step_append_rd rfl _ _ 47 rfl w.heap.size 41 i0 (.agg #[.int .i64 0, .string ByteArray.empty, .string ByteArray.empty, .int .i64 0, .bool false, .int .i64 0]) 6 64 Tryz.underlying47 hi0 hz0 hz1 hz2 rfl (by decide) (.slice (some ⟨wx.heap.size, 0, none⟩) 0 0) 0 [] rfl ((Blk.new wx.drew 41 []).own (size := 6) (n := 0) G.size rfl (Nat.zero_le _)) _ _ _ _ _ rfl (hR.below hHeld.2) (rns_one' l) (by simp only [maxLen]; omega) (by omega) hHeld.2.size ?_; intro A8 c8 w8 h8 own8 grow8 at8; simp only [Nat.zero_add, List.nil_append] at h8 own8 at8 ⊢; have hne8 := own8) | (refine step_append_rd rfl _ _ 47 rfl w.heap.size 41 i0 (.agg #[.int .i64 0, .string ByteArray.empty, .string ByteArray.empty, .int .i64 0, .bool false, .int .i64 0]) 6 64 Tryz.underlying47 hi0 hz0 hz1 hz2 rfl (by decide) (.slice (some ⟨wx.heap.size, 0, none⟩) 0 0) 0 [] rfl ((two_new wx.drew 41 [] r.cells).1.own (size := 6) (n := 0) G.size rfl (Nat.zero_le _)) _ _ _ _ _ rfl (hR.below hHeld.2) (rns_one' l) (by simp only [maxLen]; omega) (by omega) hHeld.2.size ?_; intro A8 c8 w8 h8 own8 grow8 at8; simp only [Nat.zero_add, List.nil_append] at h8 own8 at8 ⊢; have V8 : Blk w8 (wx.heap.size + 1) 41 r.cells := ((two_new wx.drew 41 [] r.cells).2).grown grow8 (by simp [Value.ownBlock]); have hne8 : (Value.slice A8 q c8).ownBlock ≠ some (wx.heap.size + 1) := fun e => by rcases at8 _ e with h | h <;> simp [Value.ownBlock] at h <;> omega) | (refine step_append_rd rfl _ _ 47 rfl w.heap.size 41 i0 (.agg #[.int .i64 0, .string ByteArray.empty, .string ByteArray.empty, .int .i64 0, .bool false, .int .i64 0]) 6 64 Tryz.underlying47 hi0 hz0 hz1 hz2 rfl (by decide) (.slice (some ⟨wx.heap.size + 1, 0, none⟩) 0 0) 0 [] rfl ((two_new wx.drew 41 r.cells []).2.own (size := 6) (n := 0) (Nat.le_trans G.size (Nat.le_succ _)) rfl (Nat.zero_le _)) _ _ _ _ _ rfl (hR.below hHeld.2) (rns_one' l) (by simp only [maxLen]; omega) (by omega) hHeld.2.size ?_; intro A8 c8 w8 h8 own8 grow8 at8; simp only [Nat.zero_add, List.nil_append] at h8 own8 at8 ⊢; have V8 : Blk w8 (wx.heap.size) 41 r.cells := ((two_new wx.drew 41 r.cells []).1).grown grow8 (by simp [Value.ownBlock]); have hne8 : (Value.slice A8 q c8).ownBlock ≠ some (wx.heap.size) := fun e => by rcases at8 _ e with h | h <;> simp [Value.ownBlock] at h <;> omega)
              refine hK.out _ _ ?_ (fun hHeld => ?_)
              · (try dsimp only)
                exact ⟨hHeld.1.grown grow8 (fun e => by simp [Value.ownBlock] at e; omega), hHeld.2.grown grow8 hHeld.2.size (fun k hk => by simp [Value.ownBlock] at hk; omega)⟩
              clear hK K
              try simp only [Act.put, List.setIfInBounds_toArray, List.set_cons_zero, List.set_cons_succ]
              refine wpAnyH_ready (rs := [6]) (by kernel_rfl) (by simp) ?_
              refine AllReadyH.cons rfl (fun K hK => ?_) AllReadyH.nil
              go_simp
              first | (refine (insert_any own8 V8 hne8 (by omega) (by omega) hHeld.2.size).mono ?_; rintro e wy ⟨A9, c9, rfl, hc9, own9, grow9⟩) | (refine (insert_any (own8.alloc _) (Blk.new w8 41 r.cells) (fun e => by have := (own8.lt _ e).2; omega) (by omega) (by omega) hHeld.2.size).mono ?_; rintro e wy ⟨A9, c9, rfl, hc9, own9, grow9⟩)
              go_wp2_with fail
              refine hK.out _ _ ?_ (fun hHeld => ?_)
              · (try dsimp only)
                exact ⟨hHeld.1.grown grow9 (fun e => by rcases at8 _ e.symm with h | h <;> simp [Value.ownBlock] at h <;> omega), hHeld.2.grown grow9 hHeld.2.size (fun k hk => (own8.lt k hk).1)⟩
              clear hK K
              try simp only [Act.put, List.setIfInBounds_toArray, List.set_cons_zero, List.set_cons_succ]
              refine rgTake (i := 7) (d := 7) (v := ?_) rfl rfl (by kernel_rfl) (by kernel_rfl) (by kernel_rfl) (fun _ _ _ h => h) (by rfl) ?_ (by assumption) ?_
              rotate_left
              · ((intro w hSw); (try dsimp only at hSw); go_simp; (try with_reducible rfl))
              try simp only [Act.put, List.setIfInBounds_toArray, List.set_cons_zero, List.set_cons_succ]
              refine wpAnyH_done (by kernel_rfl) ?_ _
              go_wp2_with fail
              go_meet
              exact ⟨A9, c9, rfl, hc9, (by rw [HAT.out]; exact own9), hHeld.2⟩
            exact AllReadyH.nil
          refine AllReadyH.cons rfl (fun K hK => ?_) ?_
          ·
            go_simp
            refine hK.out _ _ ?_ (fun hHeld => ?_)
            · (try dsimp only)
              first | exact ⟨K0.drew, G.drew⟩ | exact ⟨hHeld.1.alloc _, hHeld.2.alloc hHeld.2.size _⟩
            clear hK K
            try simp only [Act.put, List.setIfInBounds_toArray, List.set_cons_zero, List.set_cons_succ]
            refine wpAnyH_ready (rs := [0]) (by kernel_rfl) (by simp) ?_
            refine AllReadyH.cons rfl (fun K hK => ?_) AllReadyH.nil
            go_simp
            refine hK.out _ _ ?_ (fun hHeld => ?_)
            · (try dsimp only)
              first | exact ⟨K0.drew, G.drew⟩ | exact ⟨hHeld.1.alloc _, hHeld.2.alloc hHeld.2.size _⟩
            clear hK K
            try simp only [Act.put, List.setIfInBounds_toArray, List.set_cons_zero, List.set_cons_succ]
            refine wpAnyH_ready (rs := [2]) (by kernel_rfl) (by simp) ?_
            refine AllReadyH.cons rfl (fun K hK => ?_) AllReadyH.nil
            first | (refine step_append_rd rfl _ _ 47 rfl w.heap.size 41 i0 (.agg #[.int .i64 0, .string ByteArray.empty, .string ByteArray.empty, .int .i64 0, .bool false, .int .i64 0]) 6 64 Tryz.underlying47 hi0 hz0 hz1 hz2 rfl (by decide) (.slice (some ⟨wx.heap.size, 0, none⟩) 0 0) 0 [] rfl ((Blk.new wx.drew 41 []).own (size := 6) (n := 0) G.size rfl (Nat.zero_le _)) _ _ _ _ _ rfl (hR.below hHeld.2) (rns_one' l) (by simp only [maxLen]; omega) (by omega) hHeld.2.size ?_; intro A8 c8 w8 h8 own8 grow8 at8; simp only [Nat.zero_add, List.nil_append] at h8 own8 at8 ⊢; have hne8 := own8) | (refine step_append_rd rfl _ _ 47 rfl w.heap.size 41 i0 (.agg #[.int .i64 0, .string ByteArray.empty, .string ByteArray.empty, .int .i64 0, .bool false, .int .i64 0]) 6 64 Tryz.underlying47 hi0 hz0 hz1 hz2 rfl (by decide) (.slice (some ⟨wx.heap.size, 0, none⟩) 0 0) 0 [] rfl ((two_new wx.drew 41 [] r.cells).1.own (size := 6) (n := 0) G.size rfl (Nat.zero_le _)) _ _ _ _ _ rfl (hR.below hHeld.2) (rns_one' l) (by simp only [maxLen]; omega) (by omega) hHeld.2.size ?_; intro A8 c8 w8 h8 own8 grow8 at8; simp only [Nat.zero_add, List.nil_append] at h8 own8 at8 ⊢; have V8 : Blk w8 (wx.heap.size + 1) 41 r.cells := ((two_new wx.drew 41 [] r.cells).2).grown grow8 (by simp [Value.ownBlock]); have hne8 : (Value.slice A8 q c8).ownBlock ≠ some (wx.heap.size + 1) := fun e => by rcases at8 _ e with h | h <;> simp [Value.ownBlock] at h <;> omega) | (refine step_append_rd rfl _ _ 47 rfl w.heap.size 41 i0 (.agg #[.int .i64 0, .string ByteArray.empty, .string ByteArray.empty, .int .i64 0, .bool false, .int .i64 0]) 6 64 Tryz.underlying47 hi0 hz0 hz1 hz2 rfl (by decide) (.slice (some ⟨wx.heap.size + 1, 0, none⟩) 0 0) 0 [] rfl ((two_new wx.drew 41 r.cells []).2.own (size := 6) (n := 0) (Nat.le_trans G.size (Nat.le_succ _)) rfl (Nat.zero_le _)) _ _ _ _ _ rfl (hR.below hHeld.2) (rns_one' l) (by simp only [maxLen]; omega) (by omega) hHeld.2.size ?_; intro A8 c8 w8 h8 own8 grow8 at8; simp only [Nat.zero_add, List.nil_append] at h8 own8 at8 ⊢; have V8 : Blk w8 (wx.heap.size) 41 r.cells := ((two_new wx.drew 41 r.cells []).1).grown grow8 (by simp [Value.ownBlock]); have hne8 : (Value.slice A8 q c8).ownBlock ≠ some (wx.heap.size) := fun e => by rcases at8 _ e with h | h <;> simp [Value.ownBlock] at h <;> omega)
            refine hK.out _ _ ?_ (fun hHeld => ?_)
            · (try dsimp only)
              exact ⟨hHeld.1.grown grow8 (fun e => by simp [Value.ownBlock] at e; omega), hHeld.2.grown grow8 hHeld.2.size (fun k hk => by simp [Value.ownBlock] at hk; omega)⟩
            clear hK K
            try simp only [Act.put, List.setIfInBounds_toArray, List.set_cons_zero, List.set_cons_succ]
            refine wpAnyH_ready (rs := [6]) (by kernel_rfl) (by simp) ?_
            refine AllReadyH.cons rfl (fun K hK => ?_) AllReadyH.nil
            go_simp
            first | (refine (insert_any own8 V8 hne8 (by omega) (by omega) hHeld.2.size).mono ?_; rintro e wy ⟨A9, c9, rfl, hc9, own9, grow9⟩) | (refine (insert_any (own8.alloc _) (Blk.new w8 41 r.cells) (fun e => by have := (own8.lt _ e).2; omega) (by omega) (by omega) hHeld.2.size).mono ?_; rintro e wy ⟨A9, c9, rfl, hc9, own9, grow9⟩)
            go_wp2_with fail
            refine hK.out _ _ ?_ (fun hHeld => ?_)
            · (try dsimp only)
              exact ⟨hHeld.1.grown grow9 (fun e => by rcases at8 _ e.symm with h | h <;> simp [Value.ownBlock] at h <;> omega), hHeld.2.grown grow9 hHeld.2.size (fun k hk => (own8.lt k hk).1)⟩
            clear hK K
            try simp only [Act.put, List.setIfInBounds_toArray, List.set_cons_zero, List.set_cons_succ]
            refine rgTake (i := 7) (d := 7) (v := ?_) rfl rfl (by kernel_rfl) (by kernel_rfl) (by kernel_rfl) (fun _ _ _ h => h) (by rfl) ?_ (by assumption) ?_
            rotate_left
            · ((intro w hSw); (try dsimp only at hSw); go_simp; (try with_reducible rfl))
            try simp only [Act.put, List.setIfInBounds_toArray, List.set_cons_zero, List.set_cons_succ]
            refine wpAnyH_done (by kernel_rfl) ?_ _
            go_wp2_with fail
            go_meet
            exact ⟨A9, c9, rfl, hc9, (by rw [HAT.out]; exact own9), hHeld.2⟩
          exact AllReadyH.nil
        case rest =>
          obtain ⟨A2, c2, rfl, hc2, OW, G⟩ := hcut
          cases hok2 : okRns (adL l r)
          · obtain ⟨e1, e2⟩ := HOK2.out _ hok2
            simp only [Bool.false_eq_true, if_false] at e2
            have HB := Lib.hid hok2
            have E1 := Lib.hid e1
            have E2 := Lib.hid e2
            clear hok2 e1 e2
            go_wp2_with fail
            refine (AreRunners_impl (Rd.of_own OW) (by omega) hc2 HSR.out).mono ?_
            rintro e w9 ⟨rfl, hb⟩
            replace G := G.trans (hb.mono G.size)
            clear hb OW
            rw [HB.out]
            go_wp2_with fail
            go_ret2
            rw [E1.out, E2.out]
            exact ⟨none, 0, rfl, World.ownsRow_nil _ _ _ _, G⟩
          · obtain ⟨e1, e2⟩ := HOK2.out _ hok2
            simp only [if_true] at e2
            have HB := Lib.hid hok2
            have E1 := Lib.hid e1
            have E2 := Lib.hid e2
            clear hok2 e1 e2
            go_wp2_with fail
            refine (AreRunners_impl (Rd.of_own OW) (by omega) hc2 HSR.out).mono ?_
            rintro e w9 ⟨rfl, hb⟩
            replace OW := own_below OW hb
            replace G := G.trans (hb.mono G.size)
            clear hb
            rw [HB.out]
            go_wp2_with fail
            go_ret2
            rw [E1.out, E2.out, HAL.out]
            exact ⟨A2, c2, rfl, OW, G⟩
    · have hkq : ¬ (k : Int) < (q : Int) := by omega
      have hkd : decide ((k : Int) < (q : Int)) = false := by simp; omega
      have HAT : Hid (adL l r = insL l k r) := by
        show _ = _
        unfold adL
        rw [insI_eq l r.id k (by rw [HQ.out]; exact hk) HN.out (fun h => by rw [HQ.out] at h; omega)]
      go_upto_region 4 with (fail)
      refine wp_region_held_drew (S := fun w' => Blk w' w.heap.size 41 r.cells ∧ Below w.heap.size w w') (by kernel_rfl) ?_ (fun hHeld => ?_)
      · (try dsimp only)
        exact ⟨K0.drew, G.drew⟩
      refine rgTake (i := 0) (d := 11) (v := ?_) rfl rfl (by kernel_rfl) (by kernel_rfl) (by kernel_rfl) (fun _ _ _ h => h) (by rfl) ?_ (by assumption) ?_
      rotate_left
      · ((intro w hSw); (try dsimp only at hSw); go_simp; (try with_reducible rfl))
      try simp only [Act.put, List.setIfInBounds_toArray, List.set_cons_zero, List.set_cons_succ]
      refine rgTake (i := 1) (d := 12) (v := ?_) rfl rfl (by kernel_rfl) (by kernel_rfl) (by kernel_rfl) (fun _ _ _ h => h) (by rfl) ?_ (by assumption) ?_
      rotate_left
      · ((intro w hSw); (try dsimp only at hSw); go_simp; (try with_reducible rfl))
      try simp only [Act.put, List.setIfInBounds_toArray, List.set_cons_zero, List.set_cons_succ]
      refine rgTake (i := 2) (d := 13) (v := ?_) rfl rfl (by kernel_rfl) (by kernel_rfl) (by kernel_rfl) (fun _ _ _ h => h) (by rfl) ?_ (by assumption) ?_
      rotate_left
      · ((intro w hSw); (try dsimp only at hSw); go_simp; (try with_reducible rfl))
      try simp only [Act.put, List.setIfInBounds_toArray, List.set_cons_zero, List.set_cons_succ]
      refine rgTake (i := 3) (d := 14) (v := ?_) rfl rfl (by kernel_rfl) (by kernel_rfl) (by kernel_rfl) (fun _ _ _ h => h) (by rfl) ?_ (by assumption) ?_
      rotate_left
      · ((intro w hSw); (try dsimp only at hSw); go_simp; (try with_reducible rfl))
      try simp only [Act.put, List.setIfInBounds_toArray, List.set_cons_zero, List.set_cons_succ]
      refine rgTake (i := 4) (d := 15) (v := ?_) rfl rfl (by kernel_rfl) (by kernel_rfl) (by kernel_rfl) (fun _ _ _ h => h) (by rfl) ?_ (by assumption) ?_
      rotate_left
      · ((intro w hSw); (try dsimp only at hSw); go_simp; (try with_reducible rfl))
      try simp only [Act.put, List.setIfInBounds_toArray, List.set_cons_zero, List.set_cons_succ]
      refine rgSkip (i := 5) (d := 16) rfl rfl (by kernel_rfl) (by kernel_rfl) (by kernel_rfl) (fun _ _ _ h => h) (by rfl) (by assumption) ?_
      try simp only [Act.put, List.setIfInBounds_toArray, List.set_cons_zero, List.set_cons_succ]
      refine rgSkip (i := 6) (d := 17) rfl rfl (by kernel_rfl) (by kernel_rfl) (by kernel_rfl) (fun _ _ _ h => h) (by rfl) (by assumption) ?_
      try simp only [Act.put, List.setIfInBounds_toArray, List.set_cons_zero, List.set_cons_succ]
      refine rgSkip (i := 7) (d := 18) rfl rfl (by kernel_rfl) (by kernel_rfl) (by kernel_rfl) (fun _ _ _ h => h) (by rfl) (by assumption) ?_
      try simp only [Act.put, List.setIfInBounds_toArray, List.set_cons_zero, List.set_cons_succ]
      refine rgSkip (i := 8) (d := 19) rfl rfl (by kernel_rfl) (by kernel_rfl) (by kernel_rfl) (fun _ _ _ h => h) (by rfl) (by assumption) ?_
      try simp only [Act.put, List.setIfInBounds_toArray, List.set_cons_zero, List.set_cons_succ]
      refine rgSkip (i := 9) (d := 20) rfl rfl (by kernel_rfl) (by kernel_rfl) (by kernel_rfl) (fun _ _ _ h => h) (by rfl) (by assumption) ?_
      try simp only [Act.put, List.setIfInBounds_toArray, List.set_cons_zero, List.set_cons_succ]
      refine rgSkip (i := 10) (d := 21) rfl rfl (by kernel_rfl) (by kernel_rfl) (by kernel_rfl) (fun _ _ _ h => h) (by rfl) (by assumption) ?_
      try simp only [Act.put, List.setIfInBounds_toArray, List.set_cons_zero, List.set_cons_succ]
      refine rgSkip (i := 11) (d := 22) rfl rfl (by kernel_rfl) (by kernel_rfl) (by kernel_rfl) (fun _ _ _ h => h) (by rfl) (by assumption) ?_
      try simp only [Act.put, List.setIfInBounds_toArray, List.set_cons_zero, List.set_cons_succ]
      refine rgSkip (i := 12) (d := 23) rfl rfl (by kernel_rfl) (by kernel_rfl) (by kernel_rfl) (fun _ _ _ h => h) (by rfl) (by assumption) ?_
      try simp only [Act.put, List.setIfInBounds_toArray, List.set_cons_zero, List.set_cons_succ]
      refine rgTake (i := 13) (d := 24) (v := ?_) rfl rfl (by kernel_rfl) (by kernel_rfl) (by kernel_rfl) (fun _ _ _ h => h) (by rfl) ?_ (by assumption) ?_
      rotate_left
      · ((intro w hSw); (try dsimp only at hSw); go_simp; (try with_reducible rfl))
      try simp only [Act.put, List.setIfInBounds_toArray, List.set_cons_zero, List.set_cons_succ]
      refine wpAnyH_done (by kernel_rfl) ?_ _
      replace K0 := hHeld.1
      replace G := hHeld.2
      clear HN hHeld
      generalize wr.drew = wx at *
      have hKl := K0.lt
      go_upto_region 6 with (fail)
      go_cut [7] (fun v wx => ∃ A' c', v = .slice A' (q + 1) c' ∧ q + 1 ≤ c' ∧ wx.ownsRow w.heap.size 41 6 (.slice A' (q + 1) c') (q + 1) (rns (adL l r)) ∧ Below w.heap.size w wx)
      case first =>
        refine wp_region_held_drew (S := fun w' => Blk w' w.heap.size 41 r.cells ∧ Below w.heap.size w w') (by kernel_rfl) ?_ (fun hHeld => ?_)
        · (try dsimp only)
          first | exact ⟨K0.drew, G.drew⟩ | exact ⟨hHeld.1.alloc _, hHeld.2.alloc hHeld.2.size _⟩
        refine rgTake (i := 1) (d := 28) (v := ?_) rfl rfl (by kernel_rfl) (by kernel_rfl) (by kernel_rfl) (fun _ _ _ h => h) (by rfl) ?_ (by assumption) ?_
        rotate_left
        · ((intro w hSw); (try dsimp only at hSw); go_simp; (try with_reducible rfl))
        try simp only [Act.put, List.setIfInBounds_toArray, List.set_cons_zero, List.set_cons_succ]
        refine rgTake (i := 3) (d := 30) (v := ?_) rfl rfl (by kernel_rfl) (by kernel_rfl) (by kernel_rfl) (fun _ _ _ h => h) (by rfl) ?_ (by assumption) ?_
        rotate_left
        · ((intro w hSw); (try dsimp only at hSw); go_simp; (try with_reducible rfl))
        try simp only [Act.put, List.setIfInBounds_toArray, List.set_cons_zero, List.set_cons_succ]
        refine rgTake (i := 4) (d := 31) (v := ?_) rfl rfl (by kernel_rfl) (by kernel_rfl) (by kernel_rfl) (fun _ _ _ h => h) (by rfl) ?_ (by assumption) ?_
        rotate_left
        · ((intro w hSw); (try dsimp only at hSw); (obtain ⟨z0, z1, z2, z3, z4, z5⟩ := blk6 hSw.1); go_simp; (try with_reducible rfl))
        try simp only [Act.put, List.setIfInBounds_toArray, List.set_cons_zero, List.set_cons_succ]
        refine wpAnyH_ready (rs := [0, 5]) (by kernel_rfl) (by simp) ?_
        refine AllReadyH.cons rfl (fun K hK => ?_) ?_
        ·
          go_simp
          refine hK.out _ _ ?_ (fun hHeld => ?_)
          · (try dsimp only)
            first | exact ⟨K0.drew, G.drew⟩ | exact ⟨hHeld.1.alloc _, hHeld.2.alloc hHeld.2.size _⟩
          clear hK K
          try simp only [Act.put, List.setIfInBounds_toArray, List.set_cons_zero, List.set_cons_succ]
          refine wpAnyH_ready (rs := [2, 5]) (by kernel_rfl) (by simp) ?_
          refine AllReadyH.cons rfl (fun K hK => ?_) ?_
          ·
            first | (refine step_append_rd rfl _ _ 47 rfl w.heap.size 41 i0 (.agg #[.int .i64 0, .string ByteArray.empty, .string ByteArray.empty, .int .i64 0, .bool false, .int .i64 0]) 6 64 Tryz.underlying47 hi0 hz0 hz1 hz2 rfl (by decide) (.slice (some ⟨wx.heap.size, 0, none⟩) 0 0) 0 [] rfl ((Blk.new wx.drew 41 []).own (size := 6) (n := 0) G.size rfl (Nat.zero_le _)) _ _ _ _ _ rfl (hR.below hHeld.2) (rns_one' l) (by simp only [maxLen]; omega) (by omega) hHeld.2.size ?_; intro A8 c8 w8 h8 own8 grow8 at8; simp only [Nat.zero_add, List.nil_append] at h8 own8 at8 ⊢; have hne8 := own8) | (refine step_append_rd rfl _ _ 47 rfl w.heap.size 41 i0 (.agg #[.int .i64 0, .string ByteArray.empty, .string ByteArray.empty, .int .i64 0, .bool false, .int .i64 0]) 6 64 Tryz.underlying47 hi0 hz0 hz1 hz2 rfl (by decide) (.slice (some ⟨wx.heap.size, 0, none⟩) 0 0) 0 [] rfl ((two_new wx.drew 41 [] r.cells).1.own (size := 6) (n := 0) G.size rfl (Nat.zero_le _)) _ _ _ _ _ rfl (hR.below hHeld.2) (rns_one' l) (by simp only [maxLen]; omega) (by omega) hHeld.2.size ?_; intro A8 c8 w8 h8 own8 grow8 at8; simp only [Nat.zero_add, List.nil_append] at h8 own8 at8 ⊢; have V8 : Blk w8 (wx.heap.size + 1) 41 r.cells := ((two_new wx.drew 41 [] r.cells).2).grown grow8 (by simp [Value.ownBlock]); have hne8 : (Value.slice A8 q c8).ownBlock ≠ some (wx.heap.size + 1) := fun e => by rcases at8 _ e with h | h <;> simp [Value.ownBlock] at h <;> omega) | (refine step_append_rd rfl _ _ 47 rfl w.heap.size 41 i0 (.agg #[.int .i64 0, .string ByteArray.empty, .string ByteArray.empty, .int .i64 0, .bool false, .int .i64 0]) 6 64 Tryz.underlying47 hi0 hz0 hz1 hz2 rfl (by decide) (.slice (some ⟨wx.heap.size + 1, 0, none⟩) 0 0) 0 [] rfl ((two_new wx.drew 41 r.cells []).2.own (size := 6) (n := 0) (Nat.le_trans G.size (Nat.le_succ _)) rfl (Nat.zero_le _)) _ _ _ _ _ rfl (hR.below hHeld.2) (rns_one' l) (by simp only [maxLen]; omega) (by omega) hHeld.2.size ?_; intro A8 c8 w8 h8 own8 grow8 at8; simp only [Nat.zero_add, List.nil_append] at h8 own8 at8 ⊢; have V8 : Blk w8 (wx.heap.size) 41 r.cells := ((two_new wx.drew 41 r.cells []).1).grown grow8 (by simp [Value.ownBlock]); have hne8 : (Value.slice A8 q c8).ownBlock ≠ some (wx.heap.size) := fun e => by rcases at8 _ e with h | h <;> simp [Value.ownBlock] at h <;> omega)
            refine hK.out _ _ ?_ (fun hHeld => ?_)
            · (try dsimp only)
              exact ⟨hHeld.1.grown grow8 (fun e => by simp [Value.ownBlock] at e; omega), hHeld.2.grown grow8 hHeld.2.size (fun k hk => by simp [Value.ownBlock] at hk; omega)⟩
            clear hK K
            try simp only [Act.put, List.setIfInBounds_toArray, List.set_cons_zero, List.set_cons_succ]
            refine wpAnyH_ready (rs := [5]) (by kernel_rfl) (by simp) ?_
            refine AllReadyH.cons rfl (fun K hK => ?_) AllReadyH.nil
            go_simp
            refine hK.out _ _ ?_ (fun hHeld => ?_)
            · (try dsimp only)
              first | exact ⟨K0.drew, G.drew⟩ | exact ⟨hHeld.1.alloc _, hHeld.2.alloc hHeld.2.size _⟩
            clear hK K
            try simp only [Act.put, List.setIfInBounds_toArray, List.set_cons_zero, List.set_cons_succ]
            refine wpAnyH_ready (rs := [6]) (by kernel_rfl) (by simp) ?_
            refine AllReadyH.cons rfl (fun K hK => ?_) AllReadyH.nil
            go_simp
            first | (refine (insert_any own8 V8 hne8 (by omega) (by omega) hHeld.2.size).mono ?_; rintro e wy ⟨A9, c9, rfl, hc9, own9, grow9⟩) | (refine (insert_any (own8.alloc _) (Blk.new w8 41 r.cells) (fun e => by have := (own8.lt _ e).2; omega) (by omega) (by omega) hHeld.2.size).mono ?_; rintro e wy ⟨A9, c9, rfl, hc9, own9, grow9⟩)
            go_wp2_with fail
            refine hK.out _ _ ?_ (fun hHeld => ?_)
            · (try dsimp only)
              exact ⟨hHeld.1.grown grow9 (fun e => by rcases at8 _ e.symm with h | h <;> simp [Value.ownBlock] at h <;> omega), hHeld.2.grown grow9 hHeld.2.size (fun k hk => (own8.lt k hk).1)⟩
            clear hK K
            try simp only [Act.put, List.setIfInBounds_toArray, List.set_cons_zero, List.set_cons_succ]
            refine rgTake (i := 7) (d := 7) (v := ?_) rfl rfl (by kernel_rfl) (by kernel_rfl) (by kernel_rfl) (fun _ _ _ h => h) (by rfl) ?_ (by assumption) ?_
            rotate_left
            · ((intro w hSw); (try dsimp only at hSw); go_simp; (try with_reducible rfl))
            try simp only [Act.put, List.setIfInBounds_toArray, List.set_cons_zero, List.set_cons_succ]
            refine wpAnyH_done (by kernel_rfl) ?_ _
            go_wp2_with fail
            go_meet
            exact ⟨A9, c9, rfl, hc9, (by rw [HAT.out]; exact own9), hHeld.2⟩
          refine AllReadyH.cons rfl (fun K hK => ?_) ?_
          ·
            go_simp
            refine hK.out _ _ ?_ (fun hHeld => ?_)
            · (try dsimp only)
              first | exact ⟨K0.drew, G.drew⟩ | exact ⟨hHeld.1.alloc _, hHeld.2.alloc hHeld.2.size _⟩
            clear hK K
            try simp only [Act.put, List.setIfInBounds_toArray, List.set_cons_zero, List.set_cons_succ]
            refine wpAnyH_ready (rs := [2]) (by kernel_rfl) (by simp) ?_
            refine AllReadyH.cons rfl (fun K hK => ?_) AllReadyH.nil
            first | (refine step_append_rd rfl _ _ 47 rfl w.heap.size 41 i0 (.agg #[.int .i64 0, .string ByteArray.empty, .string ByteArray.empty, .int .i64 0, .bool false, .int .i64 0]) 6 64 Tryz.underlying47 hi0 hz0 hz1 hz2 rfl (by decide) (.slice (some ⟨wx.heap.size, 0, none⟩) 0 0) 0 [] rfl ((Blk.new wx.drew 41 []).own (size := 6) (n := 0) G.size rfl (Nat.zero_le _)) _ _ _ _ _ rfl (hR.below hHeld.2) (rns_one' l) (by simp only [maxLen]; omega) (by omega) hHeld.2.size ?_; intro A8 c8 w8 h8 own8 grow8 at8; simp only [Nat.zero_add, List.nil_append] at h8 own8 at8 ⊢; have hne8 := own8) | (refine step_append_rd rfl _ _ 47 rfl w.heap.size 41 i0 (.agg #[.int .i64 0, .string ByteArray.empty, .string ByteArray.empty, .int .i64 0, .bool false, .int .i64 0]) 6 64 Tryz.underlying47 hi0 hz0 hz1 hz2 rfl (by decide) (.slice (some ⟨wx.heap.size, 0, none⟩) 0 0) 0 [] rfl ((two_new wx.drew 41 [] r.cells).1.own (size := 6) (n := 0) G.size rfl (Nat.zero_le _)) _ _ _ _ _ rfl (hR.below hHeld.2) (rns_one' l) (by simp only [maxLen]; omega) (by omega) hHeld.2.size ?_; intro A8 c8 w8 h8 own8 grow8 at8; simp only [Nat.zero_add, List.nil_append] at h8 own8 at8 ⊢; have V8 : Blk w8 (wx.heap.size + 1) 41 r.cells := ((two_new wx.drew 41 [] r.cells).2).grown grow8 (by simp [Value.ownBlock]); have hne8 : (Value.slice A8 q c8).ownBlock ≠ some (wx.heap.size + 1) := fun e => by rcases at8 _ e with h | h <;> simp [Value.ownBlock] at h <;> omega) | (refine step_append_rd rfl _ _ 47 rfl w.heap.size 41 i0 (.agg #[.int .i64 0, .string ByteArray.empty, .string ByteArray.empty, .int .i64 0, .bool false, .int .i64 0]) 6 64 Tryz.underlying47 hi0 hz0 hz1 hz2 rfl (by decide) (.slice (some ⟨wx.heap.size + 1, 0, none⟩) 0 0) 0 [] rfl ((two_new wx.drew 41 r.cells []).2.own (size := 6) (n := 0) (Nat.le_trans G.size (Nat.le_succ _)) rfl (Nat.zero_le _)) _ _ _ _ _ rfl (hR.below hHeld.2) (rns_one' l) (by simp only [maxLen]; omega) (by omega) hHeld.2.size ?_; intro A8 c8 w8 h8 own8 grow8 at8; simp only [Nat.zero_add, List.nil_append] at h8 own8 at8 ⊢; have V8 : Blk w8 (wx.heap.size) 41 r.cells := ((two_new wx.drew 41 r.cells []).1).grown grow8 (by simp [Value.ownBlock]); have hne8 : (Value.slice A8 q c8).ownBlock ≠ some (wx.heap.size) := fun e => by rcases at8 _ e with h | h <;> simp [Value.ownBlock] at h <;> omega)
            refine hK.out _ _ ?_ (fun hHeld => ?_)
            · (try dsimp only)
              exact ⟨hHeld.1.grown grow8 (fun e => by simp [Value.ownBlock] at e; omega), hHeld.2.grown grow8 hHeld.2.size (fun k hk => by simp [Value.ownBlock] at hk; omega)⟩
            clear hK K
            try simp only [Act.put, List.setIfInBounds_toArray, List.set_cons_zero, List.set_cons_succ]
            refine wpAnyH_ready (rs := [6]) (by kernel_rfl) (by simp) ?_
            refine AllReadyH.cons rfl (fun K hK => ?_) AllReadyH.nil
            go_simp
            first | (refine (insert_any own8 V8 hne8 (by omega) (by omega) hHeld.2.size).mono ?_; rintro e wy ⟨A9, c9, rfl, hc9, own9, grow9⟩) | (refine (insert_any (own8.alloc _) (Blk.new w8 41 r.cells) (fun e => by have := (own8.lt _ e).2; omega) (by omega) (by omega) hHeld.2.size).mono ?_; rintro e wy ⟨A9, c9, rfl, hc9, own9, grow9⟩)
            go_wp2_with fail
            refine hK.out _ _ ?_ (fun hHeld => ?_)
            · (try dsimp only)
              exact ⟨hHeld.1.grown grow9 (fun e => by rcases at8 _ e.symm with h | h <;> simp [Value.ownBlock] at h <;> omega), hHeld.2.grown grow9 hHeld.2.size (fun k hk => (own8.lt k hk).1)⟩
            clear hK K
            try simp only [Act.put, List.setIfInBounds_toArray, List.set_cons_zero, List.set_cons_succ]
            refine rgTake (i := 7) (d := 7) (v := ?_) rfl rfl (by kernel_rfl) (by kernel_rfl) (by kernel_rfl) (fun _ _ _ h => h) (by rfl) ?_ (by assumption) ?_
            rotate_left
            · ((intro w hSw); (try dsimp only at hSw); go_simp; (try with_reducible rfl))
            try simp only [Act.put, List.setIfInBounds_toArray, List.set_cons_zero, List.set_cons_succ]
            refine wpAnyH_done (by kernel_rfl) ?_ _
            go_wp2_with fail
            go_meet
            exact ⟨A9, c9, rfl, hc9, (by rw [HAT.out]; exact own9), hHeld.2⟩
          exact AllReadyH.nil
        refine AllReadyH.cons rfl (fun K hK => ?_) ?_
        ·
          go_simp
          refine hK.out _ _ ?_ (fun hHeld => ?_)
          · (try dsimp only)
            first | exact ⟨K0.drew, G.drew⟩ | exact ⟨hHeld.1.alloc _, hHeld.2.alloc hHeld.2.size _⟩
          clear hK K
          try simp only [Act.put, List.setIfInBounds_toArray, List.set_cons_zero, List.set_cons_succ]
          refine wpAnyH_ready (rs := [0]) (by kernel_rfl) (by simp) ?_
          refine AllReadyH.cons rfl (fun K hK => ?_) AllReadyH.nil
          go_simp
          refine hK.out _ _ ?_ (fun hHeld => ?_)
          · (try dsimp only)
            first | exact ⟨K0.drew, G.drew⟩ | exact ⟨hHeld.1.alloc _, hHeld.2.alloc hHeld.2.size _⟩
          clear hK K
          try simp only [Act.put, List.setIfInBounds_toArray, List.set_cons_zero, List.set_cons_succ]
          refine wpAnyH_ready (rs := [2]) (by kernel_rfl) (by simp) ?_
          refine AllReadyH.cons rfl (fun K hK => ?_) AllReadyH.nil
          first | (refine step_append_rd rfl _ _ 47 rfl w.heap.size 41 i0 (.agg #[.int .i64 0, .string ByteArray.empty, .string ByteArray.empty, .int .i64 0, .bool false, .int .i64 0]) 6 64 Tryz.underlying47 hi0 hz0 hz1 hz2 rfl (by decide) (.slice (some ⟨wx.heap.size, 0, none⟩) 0 0) 0 [] rfl ((Blk.new wx.drew 41 []).own (size := 6) (n := 0) G.size rfl (Nat.zero_le _)) _ _ _ _ _ rfl (hR.below hHeld.2) (rns_one' l) (by simp only [maxLen]; omega) (by omega) hHeld.2.size ?_; intro A8 c8 w8 h8 own8 grow8 at8; simp only [Nat.zero_add, List.nil_append] at h8 own8 at8 ⊢; have hne8 := own8) | (refine step_append_rd rfl _ _ 47 rfl w.heap.size 41 i0 (.agg #[.int .i64 0, .string ByteArray.empty, .string ByteArray.empty, .int .i64 0, .bool false, .int .i64 0]) 6 64 Tryz.underlying47 hi0 hz0 hz1 hz2 rfl (by decide) (.slice (some ⟨wx.heap.size, 0, none⟩) 0 0) 0 [] rfl ((two_new wx.drew 41 [] r.cells).1.own (size := 6) (n := 0) G.size rfl (Nat.zero_le _)) _ _ _ _ _ rfl (hR.below hHeld.2) (rns_one' l) (by simp only [maxLen]; omega) (by omega) hHeld.2.size ?_; intro A8 c8 w8 h8 own8 grow8 at8; simp only [Nat.zero_add, List.nil_append] at h8 own8 at8 ⊢; have V8 : Blk w8 (wx.heap.size + 1) 41 r.cells := ((two_new wx.drew 41 [] r.cells).2).grown grow8 (by simp [Value.ownBlock]); have hne8 : (Value.slice A8 q c8).ownBlock ≠ some (wx.heap.size + 1) := fun e => by rcases at8 _ e with h | h <;> simp [Value.ownBlock] at h <;> omega) | (refine step_append_rd rfl _ _ 47 rfl w.heap.size 41 i0 (.agg #[.int .i64 0, .string ByteArray.empty, .string ByteArray.empty, .int .i64 0, .bool false, .int .i64 0]) 6 64 Tryz.underlying47 hi0 hz0 hz1 hz2 rfl (by decide) (.slice (some ⟨wx.heap.size + 1, 0, none⟩) 0 0) 0 [] rfl ((two_new wx.drew 41 r.cells []).2.own (size := 6) (n := 0) (Nat.le_trans G.size (Nat.le_succ _)) rfl (Nat.zero_le _)) _ _ _ _ _ rfl (hR.below hHeld.2) (rns_one' l) (by simp only [maxLen]; omega) (by omega) hHeld.2.size ?_; intro A8 c8 w8 h8 own8 grow8 at8; simp only [Nat.zero_add, List.nil_append] at h8 own8 at8 ⊢; have V8 : Blk w8 (wx.heap.size) 41 r.cells := ((two_new wx.drew 41 r.cells []).1).grown grow8 (by simp [Value.ownBlock]); have hne8 : (Value.slice A8 q c8).ownBlock ≠ some (wx.heap.size) := fun e => by rcases at8 _ e with h | h <;> simp [Value.ownBlock] at h <;> omega)
          refine hK.out _ _ ?_ (fun hHeld => ?_)
          · (try dsimp only)
            exact ⟨hHeld.1.grown grow8 (fun e => by simp [Value.ownBlock] at e; omega), hHeld.2.grown grow8 hHeld.2.size (fun k hk => by simp [Value.ownBlock] at hk; omega)⟩
          clear hK K
          try simp only [Act.put, List.setIfInBounds_toArray, List.set_cons_zero, List.set_cons_succ]
          refine wpAnyH_ready (rs := [6]) (by kernel_rfl) (by simp) ?_
          refine AllReadyH.cons rfl (fun K hK => ?_) AllReadyH.nil
          go_simp
          first | (refine (insert_any own8 V8 hne8 (by omega) (by omega) hHeld.2.size).mono ?_; rintro e wy ⟨A9, c9, rfl, hc9, own9, grow9⟩) | (refine (insert_any (own8.alloc _) (Blk.new w8 41 r.cells) (fun e => by have := (own8.lt _ e).2; omega) (by omega) (by omega) hHeld.2.size).mono ?_; rintro e wy ⟨A9, c9, rfl, hc9, own9, grow9⟩)
          go_wp2_with fail
          refine hK.out _ _ ?_ (fun hHeld => ?_)
          · (try dsimp only)
            exact ⟨hHeld.1.grown grow9 (fun e => by rcases at8 _ e.symm with h | h <;> simp [Value.ownBlock] at h <;> omega), hHeld.2.grown grow9 hHeld.2.size (fun k hk => (own8.lt k hk).1)⟩
          clear hK K
          try simp only [Act.put, List.setIfInBounds_toArray, List.set_cons_zero, List.set_cons_succ]
          refine rgTake (i := 7) (d := 7) (v := ?_) rfl rfl (by kernel_rfl) (by kernel_rfl) (by kernel_rfl) (fun _ _ _ h => h) (by rfl) ?_ (by assumption) ?_
          rotate_left
          · ((intro w hSw); (try dsimp only at hSw); go_simp; (try with_reducible rfl))
          try simp only [Act.put, List.setIfInBounds_toArray, List.set_cons_zero, List.set_cons_succ]
          refine wpAnyH_done (by kernel_rfl) ?_ _
          go_wp2_with fail
          go_meet
          exact ⟨A9, c9, rfl, hc9, (by rw [HAT.out]; exact own9), hHeld.2⟩
        exact AllReadyH.nil
      case rest =>
        obtain ⟨A2, c2, rfl, hc2, OW, G⟩ := hcut
        cases hok2 : okRns (adL l r)
        · obtain ⟨e1, e2⟩ := HOK2.out _ hok2
          simp only [Bool.false_eq_true, if_false] at e2
          have HB := Lib.hid hok2
          have E1 := Lib.hid e1
          have E2 := Lib.hid e2
          clear hok2 e1 e2
          go_wp2_with fail
          refine (AreRunners_impl (Rd.of_own OW) (by omega) hc2 HSR.out).mono ?_
          rintro e w9 ⟨rfl, hb⟩
          replace G := G.trans (hb.mono G.size)
          clear hb OW
          rw [HB.out]
          go_wp2_with fail
          go_ret2
          rw [E1.out, E2.out]
          exact ⟨none, 0, rfl, World.ownsRow_nil _ _ _ _, G⟩
        · obtain ⟨e1, e2⟩ := HOK2.out _ hok2
          simp only [if_true] at e2
          have HB := Lib.hid hok2
          have E1 := Lib.hid e1
          have E2 := Lib.hid e2
          clear hok2 e1 e2
          go_wp2_with fail
          refine (AreRunners_impl (Rd.of_own OW) (by omega) hc2 HSR.out).mono ?_
          rintro e w9 ⟨rfl, hb⟩
          replace OW := own_below OW hb
          replace G := G.trans (hb.mono G.size)
          clear hb
          rw [HB.out]
          go_wp2_with fail
          go_ret2
          rw [E1.out, E2.out, HAL.out]
          exact ⟨A2, c2, rfl, OW, G⟩
set_option maxRecDepth 100000 in
set_option maxHeartbeats 8000000 in
theorem AddRunner_spec {bl off q cq : Nat} {l : List Rn} {r : Rn} {w : World} (hR : Rd w w.heap.size 6 (some ⟨bl, off, none⟩) q (rns l)) (hq : q ≤ 1048576) (hqc : q ≤ cq) (hs : ∀ r ∈ l, r.name.size ≤ maxLen ∧ r.club.size ≤ maxLen) (hsr : r.name.size ≤ maxLen ∧ r.club.size ≤ maxLen) :
    Calls Tryz.prog 28 #[.slice (some ⟨bl, off, none⟩) q cq, .agg #[.int .i64 r.id, .string r.name, .string r.club, .int .i64 r.born, .bool r.woman, .int .i64 r.card]] w fun e w' => ∃ A cp, e = .returned (.tuple #[.slice A (adR l r).length cp, .bool (adOk l r)]) ∧ w'.ownsRow w.heap.size 41 6 (.slice A (adR l r).length cp) (adR l r).length (rns (adR l r)) ∧ Below w.heap.size w w' := by
  have HSZ := Lib.hid hs
  have HQ := Lib.hid hR.rlen
  have HSR := Lib.hid (adL_size hs hsr)
  clear hs hsr
  have K0 := Blk.new w 41 r.cells
  have G : Below w.heap.size w (w.alloc (.cells r.cells.toArray 41)) := (by repeat (first | exact Below.refl _ _ | refine below_drewN ?_ _ | refine Below.drew ?_ | refine Below.alloc ?_ (by first | omega | (simp; done) | (simp; omega)) _ | refine Below.setCell ?_ (by first | omega | (simp; done) | (simp; omega)) _))
  cases hok : okRns l
  · have e1 : adOk l r = false := by unfold adOk; rw [hok]; rfl
    have e2 : adR l r = [] := by unfold adR; rw [e1]; rfl
    rw [e1, e2]; clear e1 e2
    have HOK := Lib.hid hok
    clear hok
    go_enter Tryz.func28, Tryz.ntmps28
    go_wp2_with fail
    refine (l5Good_any (hR.on G) hq hqc HSZ.out).mono ?_
    rintro e w1 ⟨rfl, hb⟩
    replace G := G.trans (hb.mono G.size)
    clear hb
    rw [HOK.out]
    go_wp2_with fail
    go_ret2
    exact ⟨_, 0, rfl, World.ownsRow_lit _ #[] 0 G.size (by simp) rfl, G.alloc G.size _⟩
  have HOK := Lib.hid hok
  have hq10 : q ≤ 10 := by have := (okRns_iff hok).1; have := HQ.out; omega
  have HAL := Lib.hid (show (adL l r).length = q + 1 by rw [adL_len, HQ.out])
  have HOK2 : Hid (∀ b, okRns (adL l r) = b → adOk l r = b ∧ adR l r = if b = true then adL l r else []) := by
    show ∀ _, _
    intro b hb
    have e1 : adOk l r = b := by unfold adOk; rw [hok, hb]; cases b <;> rfl
    exact ⟨e1, by unfold adR; rw [e1]⟩
  clear hok
  obtain ⟨i0, hi0, hz0, hz1, hz2⟩ := info_parts rn_info
  go_enter Tryz.func28, Tryz.ntmps28
  go_wp2_with fail
  refine (l5Good_any (hR.on G) hq hqc HSZ.out).mono ?_
  rintro e w1 ⟨rfl, hb⟩
  replace K0 := K0.on hb
  replace G := G.trans (hb.mono G.size)
  clear hb
  rw [HOK.out]
  go_wp2_with fail
  go_loopw [6] (fun i wr => ∃ k : Nat, k ≤ q ∧ i = .int .i64 k ∧ Hid (∀ (e : Nat) (he : e < l.length), e < k → l[e].id < r.id) ∧ Blk wr w.heap.size 41 r.cells ∧ Below w.heap.size w wr) (fun i _ => q - (intOf i).toNat)
  case atStart => exact ⟨0, Nat.zero_le _, rfl, (fun e _ h => absurd h (by omega)), K0, G⟩
  clear K0 G
  case round =>
    obtain ⟨k, hk, rfl, HN, K0, G⟩ := hrel
    by_cases hlt : k < q
    · obtain ⟨bl', off', hbe, hbb, hca⟩ := hR.rn (show 0 < q by omega)
      simp only [Option.some.injEq, Addr.mk.injEq, and_true] at hbe
      obtain ⟨rfl, rfl⟩ := hbe
      have kx : k < l.length := by rw [HQ.out]; exact hlt
      have CK := hca k kx
      clear hca
      have hkq : (k : Int) < (q : Int) := by omega
      by_cases hid : l[k].id < r.id
      · have HID := Lib.hid hid
        go_upto_region 4 with (fail)
        refine wp_region_held_drew (S := fun w' => Blk w' w.heap.size 41 r.cells ∧ Below w.heap.size w w') (by kernel_rfl) ?_ (fun hHeld => ?_)
        · (try dsimp only)
          exact ⟨K0.drew, G.drew⟩
        refine rgTake (i := 0) (d := 12) (v := ?_) rfl rfl (by kernel_rfl) (by kernel_rfl) (by kernel_rfl) (fun _ _ _ h => h) (by rfl) ?_ (by assumption) ?_
        rotate_left
        · ((intro w hSw); (try dsimp only at hSw); go_simp; (try with_reducible rfl))
        try simp only [Act.put, List.setIfInBounds_toArray, List.set_cons_zero, List.set_cons_succ]
        refine rgTake (i := 1) (d := 13) (v := ?_) rfl rfl (by kernel_rfl) (by kernel_rfl) (by kernel_rfl) (fun _ _ _ h => h) (by rfl) ?_ (by assumption) ?_
        rotate_left
        · ((intro w hSw); (try dsimp only at hSw); go_simp; (try with_reducible rfl))
        try simp only [Act.put, List.setIfInBounds_toArray, List.set_cons_zero, List.set_cons_succ]
        refine rgTake (i := 2) (d := 14) (v := ?_) rfl rfl (by kernel_rfl) (by kernel_rfl) (by kernel_rfl) (fun _ _ _ h => h) (by rfl) ?_ (by assumption) ?_
        rotate_left
        · ((intro w hSw); (try dsimp only at hSw); go_simp; (try with_reducible rfl))
        try simp only [Act.put, List.setIfInBounds_toArray, List.set_cons_zero, List.set_cons_succ]
        refine rgTake (i := 3) (d := 15) (v := ?_) rfl rfl (by kernel_rfl) (by kernel_rfl) (by kernel_rfl) (fun _ _ _ h => h) (by rfl) ?_ (by assumption) ?_
        rotate_left
        · ((intro w hSw); (try dsimp only at hSw); go_simp; (try with_reducible rfl))
        try simp only [Act.put, List.setIfInBounds_toArray, List.set_cons_zero, List.set_cons_succ]
        refine rgTake (i := 4) (d := 16) (v := ?_) rfl rfl (by kernel_rfl) (by kernel_rfl) (by kernel_rfl) (fun _ _ _ h => h) (by rfl) ?_ (by assumption) ?_
        rotate_left
        · ((intro w hSw); (try dsimp only at hSw); go_simp; (try with_reducible rfl))
        try simp only [Act.put, List.setIfInBounds_toArray, List.set_cons_zero, List.set_cons_succ]
        refine rgTake (i := 5) (d := 17) (v := ?_) rfl rfl (by kernel_rfl) (by kernel_rfl) (by kernel_rfl) (fun _ _ _ h => h) (by rfl) ?_ (by assumption) ?_
        rotate_left
        · ((intro w hSw); (try dsimp only at hSw); go_simp; (try with_reducible rfl))
        try simp only [Act.put, List.setIfInBounds_toArray, List.set_cons_zero, List.set_cons_succ]
        refine rgTake (i := 6) (d := 18) (v := ?_) rfl rfl (by kernel_rfl) (by kernel_rfl) (by kernel_rfl) (fun _ _ _ h => h) (by rfl) ?_ (by assumption) ?_
        rotate_left
        · ((intro w hSw); (try dsimp only at hSw); go_simp; (try with_reducible rfl))
        try simp only [Act.put, List.setIfInBounds_toArray, List.set_cons_zero, List.set_cons_succ]
        refine rgTake (i := 7) (d := 19) (v := ?_) rfl rfl (by kernel_rfl) (by kernel_rfl) (by kernel_rfl) (fun _ _ _ h => h) (by rfl) ?_ (by assumption) ?_
        rotate_left
        · ((intro w hSw); (try dsimp only at hSw); go_simp; (try with_reducible rfl))
        try simp only [Act.put, List.setIfInBounds_toArray, List.set_cons_zero, List.set_cons_succ]
        refine rgTake (i := 8) (d := 20) (v := ?_) rfl rfl (by kernel_rfl) (by kernel_rfl) (by kernel_rfl) (fun _ _ _ h => h) (by rfl) ?_ (by assumption) ?_
        rotate_left
        · ((intro w hSw); (try dsimp only at hSw); go_simp; (try with_reducible rfl))
        try simp only [Act.put, List.setIfInBounds_toArray, List.set_cons_zero, List.set_cons_succ]
        refine rgTake (i := 9) (d := 21) (v := ?_) rfl rfl (by kernel_rfl) (by kernel_rfl) (by kernel_rfl) (fun _ _ _ h => h) (by rfl) ?_ (by assumption) ?_
        rotate_left
        · ((intro w hSw); (try dsimp only at hSw); (obtain ⟨y0, y1, y2, y3, y4, y5⟩ := CK.below hSw.2 hbb; obtain ⟨z0, z1, z2, z3, z4, z5⟩ := blk6 hSw.1); go_simp; (try with_reducible rfl))
        try simp only [Act.put, List.setIfInBounds_toArray, List.set_cons_zero, List.set_cons_succ]
        refine rgTake (i := 10) (d := 22) (v := ?_) rfl rfl (by kernel_rfl) (by kernel_rfl) (by kernel_rfl) (fun _ _ _ h => h) (by rfl) ?_ (by assumption) ?_
        rotate_left
        · ((intro w hSw); (try dsimp only at hSw); go_simp; (try with_reducible rfl))
        try simp only [Act.put, List.setIfInBounds_toArray, List.set_cons_zero, List.set_cons_succ]
        refine rgTake (i := 11) (d := 23) (v := ?_) rfl rfl (by kernel_rfl) (by kernel_rfl) (by kernel_rfl) (fun _ _ _ h => h) (by rfl) ?_ (by assumption) ?_
        rotate_left
        · ((intro w hSw); (try dsimp only at hSw); (obtain ⟨y0, y1, y2, y3, y4, y5⟩ := CK.below hSw.2 hbb; obtain ⟨z0, z1, z2, z3, z4, z5⟩ := blk6 hSw.1); go_simp; (try with_reducible rfl))
        try simp only [Act.put, List.setIfInBounds_toArray, List.set_cons_zero, List.set_cons_succ]
        refine rgTake (i := 12) (d := 24) (v := ?_) rfl rfl (by kernel_rfl) (by kernel_rfl) (by kernel_rfl) (fun _ _ _ h => h) (by rfl) ?_ (by assumption) ?_
        rotate_left
        · ((intro w hSw); (try dsimp only at hSw); go_simp; (try with_reducible rfl))
        try simp only [Act.put, List.setIfInBounds_toArray, List.set_cons_zero, List.set_cons_succ]
        refine rgTake (i := 13) (d := 25) (v := ?_) rfl rfl (by kernel_rfl) (by kernel_rfl) (by kernel_rfl) (fun _ _ _ h => h) (by rfl) ?_ (by assumption) ?_
        rotate_left
        · ((intro w hSw); (try dsimp only at hSw); go_simp; (try with_reducible rfl))
        try simp only [Act.put, List.setIfInBounds_toArray, List.set_cons_zero, List.set_cons_succ]
        refine wpAnyH_done (by kernel_rfl) ?_ _
        go_wp2_with fail
        go_roundw
        case rel => exact ⟨k + 1, by omega, by go_num, (show ∀ (e : Nat) (he : e < l.length), e < k + 1 → l[e].id < r.id from fun e he hek => by
          by_cases ee : e = k
          · subst ee; exact HID.out
          · exact HN.out e he (by omega)), hHeld.1, hHeld.2⟩
        case measure => simp [intOf]; omega
      · have HAT : Hid (adL l r = insL l k r) := by
          show _ = _
          unfold adL
          rw [insI_eq l r.id k (by rw [HQ.out]; exact hk) HN.out (fun _ => hid)]
        have hidd : decide (l[k].id < r.id) = false := by simpa using hid
        go_upto_region 4 with (fail)
        refine wp_region_held_drew (S := fun w' => Blk w' w.heap.size 41 r.cells ∧ Below w.heap.size w w') (by kernel_rfl) ?_ (fun hHeld => ?_)
        · (try dsimp only)
          exact ⟨K0.drew, G.drew⟩
        refine rgTake (i := 0) (d := 12) (v := ?_) rfl rfl (by kernel_rfl) (by kernel_rfl) (by kernel_rfl) (fun _ _ _ h => h) (by rfl) ?_ (by assumption) ?_
        rotate_left
        · ((intro w hSw); (try dsimp only at hSw); go_simp; (try with_reducible rfl))
        try simp only [Act.put, List.setIfInBounds_toArray, List.set_cons_zero, List.set_cons_succ]
        refine rgTake (i := 1) (d := 13) (v := ?_) rfl rfl (by kernel_rfl) (by kernel_rfl) (by kernel_rfl) (fun _ _ _ h => h) (by rfl) ?_ (by assumption) ?_
        rotate_left
        · ((intro w hSw); (try dsimp only at hSw); go_simp; (try with_reducible rfl))
        try simp only [Act.put, List.setIfInBounds_toArray, List.set_cons_zero, List.set_cons_succ]
        refine rgTake (i := 2) (d := 14) (v := ?_) rfl rfl (by kernel_rfl) (by kernel_rfl) (by kernel_rfl) (fun _ _ _ h => h) (by rfl) ?_ (by assumption) ?_
        rotate_left
        · ((intro w hSw); (try dsimp only at hSw); go_simp; (try with_reducible rfl))
        try simp only [Act.put, List.setIfInBounds_toArray, List.set_cons_zero, List.set_cons_succ]
        refine rgTake (i := 3) (d := 15) (v := ?_) rfl rfl (by kernel_rfl) (by kernel_rfl) (by kernel_rfl) (fun _ _ _ h => h) (by rfl) ?_ (by assumption) ?_
        rotate_left
        · ((intro w hSw); (try dsimp only at hSw); go_simp; (try with_reducible rfl))
        try simp only [Act.put, List.setIfInBounds_toArray, List.set_cons_zero, List.set_cons_succ]
        refine rgTake (i := 4) (d := 16) (v := ?_) rfl rfl (by kernel_rfl) (by kernel_rfl) (by kernel_rfl) (fun _ _ _ h => h) (by rfl) ?_ (by assumption) ?_
        rotate_left
        · ((intro w hSw); (try dsimp only at hSw); go_simp; (try with_reducible rfl))
        try simp only [Act.put, List.setIfInBounds_toArray, List.set_cons_zero, List.set_cons_succ]
        refine rgTake (i := 5) (d := 17) (v := ?_) rfl rfl (by kernel_rfl) (by kernel_rfl) (by kernel_rfl) (fun _ _ _ h => h) (by rfl) ?_ (by assumption) ?_
        rotate_left
        · ((intro w hSw); (try dsimp only at hSw); go_simp; (try with_reducible rfl))
        try simp only [Act.put, List.setIfInBounds_toArray, List.set_cons_zero, List.set_cons_succ]
        refine rgTake (i := 6) (d := 18) (v := ?_) rfl rfl (by kernel_rfl) (by kernel_rfl) (by kernel_rfl) (fun _ _ _ h => h) (by rfl) ?_ (by assumption) ?_
        rotate_left
        · ((intro w hSw); (try dsimp only at hSw); go_simp; (try with_reducible rfl))
        try simp only [Act.put, List.setIfInBounds_toArray, List.set_cons_zero, List.set_cons_succ]
        refine rgTake (i := 7) (d := 19) (v := ?_) rfl rfl (by kernel_rfl) (by kernel_rfl) (by kernel_rfl) (fun _ _ _ h => h) (by rfl) ?_ (by assumption) ?_
        rotate_left
        · ((intro w hSw); (try dsimp only at hSw); go_simp; (try with_reducible rfl))
        try simp only [Act.put, List.setIfInBounds_toArray, List.set_cons_zero, List.set_cons_succ]
        refine rgTake (i := 8) (d := 20) (v := ?_) rfl rfl (by kernel_rfl) (by kernel_rfl) (by kernel_rfl) (fun _ _ _ h => h) (by rfl) ?_ (by assumption) ?_
        rotate_left
        · ((intro w hSw); (try dsimp only at hSw); go_simp; (try with_reducible rfl))
        try simp only [Act.put, List.setIfInBounds_toArray, List.set_cons_zero, List.set_cons_succ]
        refine rgTake (i := 9) (d := 21) (v := ?_) rfl rfl (by kernel_rfl) (by kernel_rfl) (by kernel_rfl) (fun _ _ _ h => h) (by rfl) ?_ (by assumption) ?_
        rotate_left
        · ((intro w hSw); (try dsimp only at hSw); (obtain ⟨y0, y1, y2, y3, y4, y5⟩ := CK.below hSw.2 hbb; obtain ⟨z0, z1, z2, z3, z4, z5⟩ := blk6 hSw.1); go_simp; (try with_reducible rfl))
        try simp only [Act.put, List.setIfInBounds_toArray, List.set_cons_zero, List.set_cons_succ]
        refine rgTake (i := 10) (d := 22) (v := ?_) rfl rfl (by kernel_rfl) (by kernel_rfl) (by kernel_rfl) (fun _ _ _ h => h) (by rfl) ?_ (by assumption) ?_
        rotate_left
        · ((intro w hSw); (try dsimp only at hSw); go_simp; (try with_reducible rfl))
        try simp only [Act.put, List.setIfInBounds_toArray, List.set_cons_zero, List.set_cons_succ]
        refine rgTake (i := 11) (d := 23) (v := ?_) rfl rfl (by kernel_rfl) (by kernel_rfl) (by kernel_rfl) (fun _ _ _ h => h) (by rfl) ?_ (by assumption) ?_
        rotate_left
        · ((intro w hSw); (try dsimp only at hSw); (obtain ⟨y0, y1, y2, y3, y4, y5⟩ := CK.below hSw.2 hbb; obtain ⟨z0, z1, z2, z3, z4, z5⟩ := blk6 hSw.1); go_simp; (try with_reducible rfl))
        try simp only [Act.put, List.setIfInBounds_toArray, List.set_cons_zero, List.set_cons_succ]
        refine rgTake (i := 12) (d := 24) (v := ?_) rfl rfl (by kernel_rfl) (by kernel_rfl) (by kernel_rfl) (fun _ _ _ h => h) (by rfl) ?_ (by assumption) ?_
        rotate_left
        · ((intro w hSw); (try dsimp only at hSw); go_simp; (try with_reducible rfl))
        try simp only [Act.put, List.setIfInBounds_toArray, List.set_cons_zero, List.set_cons_succ]
        refine rgTake (i := 13) (d := 25) (v := ?_) rfl rfl (by kernel_rfl) (by kernel_rfl) (by kernel_rfl) (fun _ _ _ h => h) (by rfl) ?_ (by assumption) ?_
        rotate_left
        · ((intro w hSw); (try dsimp only at hSw); go_simp; (try with_reducible rfl))
        try simp only [Act.put, List.setIfInBounds_toArray, List.set_cons_zero, List.set_cons_succ]
        refine wpAnyH_done (by kernel_rfl) ?_ _
        replace K0 := hHeld.1
        replace G := hHeld.2
        have hcqk : ¬ (cq = k) := by omega
        clear HN hHeld CK
        generalize wr.drew = wx at *
        have hKl := K0.lt
        have EK := Lib.hid (show k + 1 + (q - k) = q + 1 by omega)
        have HRI := Lib.hid (show rns (l.take k) ++ r.cells ++ rns (l.drop k) = rns (insL l k r) by rw [← rns_app3, List.nil_append])
        have hkq2 : (k : Int) ≤ (q : Int) := by omega
        have hkc2 : (k : Int) ≤ (cq : Int) := by omega
        go_upto_region 6 with (fail)
        go_cut [7] (fun v wx => ∃ A' c', v = .slice A' (q + 1) c' ∧ q + 1 ≤ c' ∧ wx.ownsRow w.heap.size 41 6 (.slice A' (q + 1) c') (q + 1) (rns (adL l r)) ∧ Below w.heap.size w wx)
        case first =>
          refine wp_region_held_drew (S := fun w' => Blk w' w.heap.size 41 r.cells ∧ Below w.heap.size w w') (by kernel_rfl) ?_ (fun hHeld => ?_)
          · (try dsimp only)
            first | exact ⟨K0.drew, G.drew⟩ | exact ⟨hHeld.1.alloc _, hHeld.2.alloc hHeld.2.size _⟩
          refine rgTake (i := 1) (d := 29) (v := ?_) rfl rfl (by kernel_rfl) (by kernel_rfl) (by kernel_rfl) (fun _ _ _ h => h) (by rfl) ?_ (by assumption) ?_
          rotate_left
          · ((intro w hSw); (try dsimp only at hSw); go_simp; (try with_reducible rfl))
          try simp only [Act.put, List.setIfInBounds_toArray, List.set_cons_zero, List.set_cons_succ]
          refine rgTake (i := 2) (d := 30) (v := ?_) rfl rfl (by kernel_rfl) (by kernel_rfl) (by kernel_rfl) (fun _ _ _ h => h) (by rfl) ?_ (by assumption) ?_
          rotate_left
          · ((intro w hSw); (try dsimp only at hSw); go_simp; (try with_reducible rfl))
          try simp only [Act.put, List.setIfInBounds_toArray, List.set_cons_zero, List.set_cons_succ]
          refine rgTake (i := 3) (d := 31) (v := ?_) rfl rfl (by kernel_rfl) (by kernel_rfl) (by kernel_rfl) (fun _ _ _ h => h) (by rfl) ?_ (by assumption) ?_
          rotate_left
          · ((intro w hSw); (try dsimp only at hSw); go_simp; (try with_reducible rfl))
          try simp only [Act.put, List.setIfInBounds_toArray, List.set_cons_zero, List.set_cons_succ]
          refine rgTake (i := 5) (d := 33) (v := ?_) rfl rfl (by kernel_rfl) (by kernel_rfl) (by kernel_rfl) (fun _ _ _ h => h) (by rfl) ?_ (by assumption) ?_
          rotate_left
          · ((intro w hSw); (try dsimp only at hSw); (obtain ⟨z0, z1, z2, z3, z4, z5⟩ := blk6 hSw.1); go_simp; (try with_reducible rfl))
          try simp only [Act.put, List.setIfInBounds_toArray, List.set_cons_zero, List.set_cons_succ]
          refine rgTake (i := 8) (d := 36) (v := ?_) rfl rfl (by kernel_rfl) (by kernel_rfl) (by kernel_rfl) (fun _ _ _ h => h) (by rfl) ?_ (by assumption) ?_
          rotate_left
          · ((intro w hSw); (try dsimp only at hSw); go_simp; (try with_reducible rfl))
          try simp only [Act.put, List.setIfInBounds_toArray, List.set_cons_zero, List.set_cons_succ]
          refine rgTake (i := 9) (d := 37) (v := ?_) rfl rfl (by kernel_rfl) (by kernel_rfl) (by kernel_rfl) (fun _ _ _ h => h) (by rfl) ?_ (by assumption) ?_
          rotate_left
          · ((intro w hSw); (try dsimp only at hSw); go_simp; (try with_reducible rfl))
          try simp only [Act.put, List.setIfInBounds_toArray, List.set_cons_zero, List.set_cons_succ]
          refine rgTake (i := 10) (d := 38) (v := ?_) rfl rfl (by kernel_rfl) (by kernel_rfl) (by kernel_rfl) (fun _ _ _ h => h) (by rfl) ?_ (by assumption) ?_
          rotate_left
          · ((intro w hSw); (try dsimp only at hSw); go_simp; (try with_reducible rfl))
          try simp only [Act.put, List.setIfInBounds_toArray, List.set_cons_zero, List.set_cons_succ]
          refine wpAnyH_ready (rs := [0, 6]) (by kernel_rfl) (by simp) ?_
          refine AllReadyH.cons rfl (fun K hK => ?_) ?_
          ·
            go_simp
            refine hK.out _ _ ?_ (fun hHeld => ?_)
            · (try dsimp only)
              first | exact ⟨K0.drew, G.drew⟩ | exact ⟨hHeld.1.alloc _, hHeld.2.alloc hHeld.2.size _⟩
            clear hK K
            try simp only [Act.put, List.setIfInBounds_toArray, List.set_cons_zero, List.set_cons_succ]
            refine wpAnyH_ready (rs := [4, 6]) (by kernel_rfl) (by simp) ?_
            refine AllReadyH.cons rfl (fun K hK => ?_) ?_
            ·
              first | (refine step_append_rd rfl _ _ 47 rfl w.heap.size 41 i0 (.agg #[.int .i64 0, .string ByteArray.empty, .string ByteArray.empty, .int .i64 0, .bool false, .int .i64 0]) 6 64 Tryz.underlying47 hi0 hz0 hz1 hz2 rfl (by decide) (.slice (some ⟨wx.heap.size, 0, none⟩) 0 0) 0 [] rfl ((Blk.new wx.drew 41 []).own (size := 6) (n := 0) G.size rfl (Nat.zero_le _)) _ _ _ _ _ rfl ((hR.below hHeld.2).taker hk) (rns_one' _) (by simp only [maxLen]; omega) (by omega) hHeld.2.size ?_; intro A8 c8 w8 h8 own8 grow8 at8; simp only [Nat.zero_add, List.nil_append] at h8 own8 at8 ⊢; have hne8 := own8) | (refine step_append_rd rfl _ _ 47 rfl w.heap.size 41 i0 (.agg #[.int .i64 0, .string ByteArray.empty, .string ByteArray.empty, .int .i64 0, .bool false, .int .i64 0]) 6 64 Tryz.underlying47 hi0 hz0 hz1 hz2 rfl (by decide) (.slice (some ⟨wx.heap.size, 0, none⟩) 0 0) 0 [] rfl ((two_new wx.drew 41 [] r.cells).1.own (size := 6) (n := 0) G.size rfl (Nat.zero_le _)) _ _ _ _ _ rfl ((hR.below hHeld.2).taker hk) (rns_one' _) (by simp only [maxLen]; omega) (by omega) hHeld.2.size ?_; intro A8 c8 w8 h8 own8 grow8 at8; simp only [Nat.zero_add, List.nil_append] at h8 own8 at8 ⊢; have V8 : Blk w8 (wx.heap.size + 1) 41 r.cells := ((two_new wx.drew 41 [] r.cells).2).grown grow8 (by simp [Value.ownBlock]); have hne8 : (Value.slice A8 k c8).ownBlock ≠ some (wx.heap.size + 1) := fun e => by rcases at8 _ e with h | h <;> simp [Value.ownBlock] at h <;> omega) | (refine step_append_rd rfl _ _ 47 rfl w.heap.size 41 i0 (.agg #[.int .i64 0, .string ByteArray.empty, .string ByteArray.empty, .int .i64 0, .bool false, .int .i64 0]) 6 64 Tryz.underlying47 hi0 hz0 hz1 hz2 rfl (by decide) (.slice (some ⟨wx.heap.size + 1, 0, none⟩) 0 0) 0 [] rfl ((two_new wx.drew 41 r.cells []).2.own (size := 6) (n := 0) (Nat.le_trans G.size (Nat.le_succ _)) rfl (Nat.zero_le _)) _ _ _ _ _ rfl ((hR.below hHeld.2).taker hk) (rns_one' _) (by simp only [maxLen]; omega) (by omega) hHeld.2.size ?_; intro A8 c8 w8 h8 own8 grow8 at8; simp only [Nat.zero_add, List.nil_append] at h8 own8 at8 ⊢; have V8 : Blk w8 (wx.heap.size) 41 r.cells := ((two_new wx.drew 41 r.cells []).1).grown grow8 (by simp [Value.ownBlock]); have hne8 : (Value.slice A8 k c8).ownBlock ≠ some (wx.heap.size) := fun e => by rcases at8 _ e with h | h <;> simp [Value.ownBlock] at h <;> omega)
              refine hK.out _ _ ?_ (fun hHeld => ?_)
              · (try dsimp only)
                exact ⟨hHeld.1.grown grow8 (fun e => by simp [Value.ownBlock] at e; omega), hHeld.2.grown grow8 hHeld.2.size (fun k hk => by simp [Value.ownBlock] at hk; omega)⟩
              clear hK K
              try simp only [Act.put, List.setIfInBounds_toArray, List.set_cons_zero, List.set_cons_succ]
              refine wpAnyH_ready (rs := [6]) (by kernel_rfl) (by simp) ?_
              refine AllReadyH.cons rfl (fun K hK => ?_) AllReadyH.nil
              go_simp
              refine hK.out _ _ ?_ (fun hHeld => ?_)
              · (try dsimp only)
                first | exact ⟨K0.drew, G.drew⟩ | exact ⟨hHeld.1.alloc _, hHeld.2.alloc hHeld.2.size _⟩
              clear hK K
              try simp only [Act.put, List.setIfInBounds_toArray, List.set_cons_zero, List.set_cons_succ]
              refine wpAnyH_ready (rs := [7]) (by kernel_rfl) (by simp) ?_
              refine AllReadyH.cons rfl (fun K hK => ?_) AllReadyH.nil
              have K8lt := hHeld.1.lt; first | (refine step_append_rd rfl _ _ 47 rfl w.heap.size 41 i0 (.agg #[.int .i64 0, .string ByteArray.empty, .string ByteArray.empty, .int .i64 0, .bool false, .int .i64 0]) 6 64 Tryz.underlying47 hi0 hz0 hz1 hz2 rfl (by decide) (.slice A8 k c8) k (rns (l.take k)) rfl (own8) _ _ _ _ _ rfl (V8.rd (size := 6) (n := 1) rfl) (rn_one r) (by simp only [maxLen]; omega) (by omega) hHeld.2.size ?_; intro A7 c7 w7 h7 own7 grow7 at7) | (refine step_append_rd rfl _ _ 47 rfl w.heap.size 41 i0 (.agg #[.int .i64 0, .string ByteArray.empty, .string ByteArray.empty, .int .i64 0, .bool false, .int .i64 0]) 6 64 Tryz.underlying47 hi0 hz0 hz1 hz2 rfl (by decide) (.slice A8 k c8) k (rns (l.take k)) rfl (own8.alloc _) _ _ _ _ _ rfl ((Blk.new w8 41 r.cells).rd (size := 6) (n := 1) rfl) (rn_one r) (by simp only [maxLen]; omega) (by omega) hHeld.2.size ?_; intro A7 c7 w7 h7 own7 grow7 at7)
              refine hK.out _ _ ?_ (fun hHeld => ?_)
              · (try dsimp only)
                exact ⟨hHeld.1.grown grow7 (fun e => by rcases at8 _ e.symm with h | h <;> simp [Value.ownBlock] at h <;> omega), hHeld.2.grown grow7 hHeld.2.size (fun k hk => (own8.lt k hk).1)⟩
              clear hK K
              try simp only [Act.put, List.setIfInBounds_toArray, List.set_cons_zero, List.set_cons_succ]
              refine wpAnyH_ready (rs := [11]) (by kernel_rfl) (by simp) ?_
              refine AllReadyH.cons rfl (fun K hK => ?_) AllReadyH.nil
              refine step_append_rd rfl _ _ 47 rfl w.heap.size 41 i0 (.agg #[.int .i64 0, .string ByteArray.empty, .string ByteArray.empty, .int .i64 0, .bool false, .int .i64 0]) 6 64 Tryz.underlying47 hi0 hz0 hz1 hz2 rfl (by decide) (.slice A7 (k + 1) c7) (k + 1) (rns (l.take k) ++ r.cells) rfl (own7) _ _ _ _ _ rfl ((hR.below hHeld.2).dropr hk) (rns_one' _) (by simp only [maxLen]; omega) (by omega) hHeld.2.size ?_; intro A9 c9 w9 h9 own9 grow9 at9; simp only [EK.out, Nat.add_zero, List.append_nil] at h9 own9 ⊢
              refine hK.out _ _ ?_ (fun hHeld => ?_)
              · (try dsimp only)
                exact ⟨hHeld.1.grown grow9 (fun e => by first | (rcases at7 _ e.symm with h | h; (rcases at8 _ h with h | h <;> simp [Value.ownBlock] at h <;> omega); (have h9 := K8lt; (try simp at h); (try simp at h9); omega))), hHeld.2.grown grow9 hHeld.2.size (fun k hk => (own7.lt k hk).1)⟩
              clear hK K
              try simp only [Act.put, List.setIfInBounds_toArray, List.set_cons_zero, List.set_cons_succ]
              refine rgTake (i := 12) (d := 7) (v := ?_) rfl rfl (by kernel_rfl) (by kernel_rfl) (by kernel_rfl) (fun _ _ _ h => h) (by rfl) ?_ (by assumption) ?_
              rotate_left
              · ((intro w hSw); (try dsimp only at hSw); go_simp; (try with_reducible rfl))
              try simp only [Act.put, List.setIfInBounds_toArray, List.set_cons_zero, List.set_cons_succ]
              refine wpAnyH_done (by kernel_rfl) ?_ _
              go_wp2_with fail
              go_meet
              exact ⟨A9, c9, rfl, h9, (by rw [HAT.out, ← HRI.out]; exact own9), hHeld.2⟩
            refine AllReadyH.cons rfl (fun K hK => ?_) ?_
            ·
              go_simp
              refine hK.out _ _ ?_ (fun hHeld => ?_)
              · (try dsimp only)
                first | exact ⟨K0.drew, G.drew⟩ | exact ⟨hHeld.1.alloc _, hHeld.2.alloc hHeld.2.size _⟩
              clear hK K
              try simp only [Act.put, List.setIfInBounds_toArray, List.set_cons_zero, List.set_cons_succ]
              refine wpAnyH_ready (rs := [4]) (by kernel_rfl) (by simp) ?_
              refine AllReadyH.cons rfl (fun K hK => ?_) AllReadyH.nil
              first | (refine step_append_rd rfl _ _ 47 rfl w.heap.size 41 i0 (.agg #[.int .i64 0, .string ByteArray.empty, .string ByteArray.empty, .int .i64 0, .bool false, .int .i64 0]) 6 64 Tryz.underlying47 hi0 hz0 hz1 hz2 rfl (by decide) (.slice (some ⟨wx.heap.size, 0, none⟩) 0 0) 0 [] rfl ((Blk.new wx.drew 41 []).own (size := 6) (n := 0) G.size rfl (Nat.zero_le _)) _ _ _ _ _ rfl ((hR.below hHeld.2).taker hk) (rns_one' _) (by simp only [maxLen]; omega) (by omega) hHeld.2.size ?_; intro A8 c8 w8 h8 own8 grow8 at8; simp only [Nat.zero_add, List.nil_append] at h8 own8 at8 ⊢; have hne8 := own8) | (refine step_append_rd rfl _ _ 47 rfl w.heap.size 41 i0 (.agg #[.int .i64 0, .string ByteArray.empty, .string ByteArray.empty, .int .i64 0, .bool false, .int .i64 0]) 6 64 Tryz.underlying47 hi0 hz0 hz1 hz2 rfl (by decide) (.slice (some ⟨wx.heap.size, 0, none⟩) 0 0) 0 [] rfl ((two_new wx.drew 41 [] r.cells).1.own (size := 6) (n := 0) G.size rfl (Nat.zero_le _)) _ _ _ _ _ rfl ((hR.below hHeld.2).taker hk) (rns_one' _) (by simp only [maxLen]; omega) (by omega) hHeld.2.size ?_; intro A8 c8 w8 h8 own8 grow8 at8; simp only [Nat.zero_add, List.nil_append] at h8 own8 at8 ⊢; have V8 : Blk w8 (wx.heap.size + 1) 41 r.cells := ((two_new wx.drew 41 [] r.cells).2).grown grow8 (by simp [Value.ownBlock]); have hne8 : (Value.slice A8 k c8).ownBlock ≠ some (wx.heap.size + 1) := fun e => by rcases at8 _ e with h | h <;> simp [Value.ownBlock] at h <;> omega) | (refine step_append_rd rfl _ _ 47 rfl w.heap.size 41 i0 (.agg #[.int .i64 0, .string ByteArray.empty, .string ByteArray.empty, .int .i64 0, .bool false, .int .i64 0]) 6 64 Tryz.underlying47 hi0 hz0 hz1 hz2 rfl (by decide) (.slice (some ⟨wx.heap.size + 1, 0, none⟩) 0 0) 0 [] rfl ((two_new wx.drew 41 r.cells []).2.own (size := 6) (n := 0) (Nat.le_trans G.size (Nat.le_succ _)) rfl (Nat.zero_le _)) _ _ _ _ _ rfl ((hR.below hHeld.2).taker hk) (rns_one' _) (by simp only [maxLen]; omega) (by omega) hHeld.2.size ?_; intro A8 c8 w8 h8 own8 grow8 at8; simp only [Nat.zero_add, List.nil_append] at h8 own8 at8 ⊢; have V8 : Blk w8 (wx.heap.size) 41 r.cells := ((two_new wx.drew 41 r.cells []).1).grown grow8 (by simp [Value.ownBlock]); have hne8 : (Value.slice A8 k c8).ownBlock ≠ some (wx.heap.size) := fun e => by rcases at8 _ e with h | h <;> simp [Value.ownBlock] at h <;> omega)
              refine hK.out _ _ ?_ (fun hHeld => ?_)
              · (try dsimp only)
                exact ⟨hHeld.1.grown grow8 (fun e => by simp [Value.ownBlock] at e; omega), hHeld.2.grown grow8 hHeld.2.size (fun k hk => by simp [Value.ownBlock] at hk; omega)⟩
              clear hK K
              try simp only [Act.put, List.setIfInBounds_toArray, List.set_cons_zero, List.set_cons_succ]
              refine wpAnyH_ready (rs := [7]) (by kernel_rfl) (by simp) ?_
              refine AllReadyH.cons rfl (fun K hK => ?_) AllReadyH.nil
              have K8lt := hHeld.1.lt; first | (refine step_append_rd rfl _ _ 47 rfl w.heap.size 41 i0 (.agg #[.int .i64 0, .string ByteArray.empty, .string ByteArray.empty, .int .i64 0, .bool false, .int .i64 0]) 6 64 Tryz.underlying47 hi0 hz0 hz1 hz2 rfl (by decide) (.slice A8 k c8) k (rns (l.take k)) rfl (own8) _ _ _ _ _ rfl (V8.rd (size := 6) (n := 1) rfl) (rn_one r) (by simp only [maxLen]; omega) (by omega) hHeld.2.size ?_; intro A7 c7 w7 h7 own7 grow7 at7) | (refine step_append_rd rfl _ _ 47 rfl w.heap.size 41 i0 (.agg #[.int .i64 0, .string ByteArray.empty, .string ByteArray.empty, .int .i64 0, .bool false, .int .i64 0]) 6 64 Tryz.underlying47 hi0 hz0 hz1 hz2 rfl (by decide) (.slice A8 k c8) k (rns (l.take k)) rfl (own8.alloc _) _ _ _ _ _ rfl ((Blk.new w8 41 r.cells).rd (size := 6) (n := 1) rfl) (rn_one r) (by simp only [maxLen]; omega) (by omega) hHeld.2.size ?_; intro A7 c7 w7 h7 own7 grow7 at7)
              refine hK.out _ _ ?_ (fun hHeld => ?_)
              · (try dsimp only)
                exact ⟨hHeld.1.grown grow7 (fun e => by rcases at8 _ e.symm with h | h <;> simp [Value.ownBlock] at h <;> omega), hHeld.2.grown grow7 hHeld.2.size (fun k hk => (own8.lt k hk).1)⟩
              clear hK K
              try simp only [Act.put, List.setIfInBounds_toArray, List.set_cons_zero, List.set_cons_succ]
              refine wpAnyH_ready (rs := [11]) (by kernel_rfl) (by simp) ?_
              refine AllReadyH.cons rfl (fun K hK => ?_) AllReadyH.nil
              refine step_append_rd rfl _ _ 47 rfl w.heap.size 41 i0 (.agg #[.int .i64 0, .string ByteArray.empty, .string ByteArray.empty, .int .i64 0, .bool false, .int .i64 0]) 6 64 Tryz.underlying47 hi0 hz0 hz1 hz2 rfl (by decide) (.slice A7 (k + 1) c7) (k + 1) (rns (l.take k) ++ r.cells) rfl (own7) _ _ _ _ _ rfl ((hR.below hHeld.2).dropr hk) (rns_one' _) (by simp only [maxLen]; omega) (by omega) hHeld.2.size ?_; intro A9 c9 w9 h9 own9 grow9 at9; simp only [EK.out, Nat.add_zero, List.append_nil] at h9 own9 ⊢
              refine hK.out _ _ ?_ (fun hHeld => ?_)
              · (try dsimp only)
                exact ⟨hHeld.1.grown grow9 (fun e => by first | (rcases at7 _ e.symm with h | h; (rcases at8 _ h with h | h <;> simp [Value.ownBlock] at h <;> omega); (have h9 := K8lt; (try simp at h); (try simp at h9); omega))), hHeld.2.grown grow9 hHeld.2.size (fun k hk => (own7.lt k hk).1)⟩
              clear hK K
              try simp only [Act.put, List.setIfInBounds_toArray, List.set_cons_zero, List.set_cons_succ]
              refine rgTake (i := 12) (d := 7) (v := ?_) rfl rfl (by kernel_rfl) (by kernel_rfl) (by kernel_rfl) (fun _ _ _ h => h) (by rfl) ?_ (by assumption) ?_
              rotate_left
              · ((intro w hSw); (try dsimp only at hSw); go_simp; (try with_reducible rfl))
              try simp only [Act.put, List.setIfInBounds_toArray, List.set_cons_zero, List.set_cons_succ]
              refine wpAnyH_done (by kernel_rfl) ?_ _
              go_wp2_with fail
              go_meet
              exact ⟨A9, c9, rfl, h9, (by rw [HAT.out, ← HRI.out]; exact own9), hHeld.2⟩
            exact AllReadyH.nil
          refine AllReadyH.cons rfl (fun K hK => ?_) ?_
          ·
            go_simp
            refine hK.out _ _ ?_ (fun hHeld => ?_)
            · (try dsimp only)
              first | exact ⟨K0.drew, G.drew⟩ | exact ⟨hHeld.1.alloc _, hHeld.2.alloc hHeld.2.size _⟩
            clear hK K
            try simp only [Act.put, List.setIfInBounds_toArray, List.set_cons_zero, List.set_cons_succ]
            refine wpAnyH_ready (rs := [0]) (by kernel_rfl) (by simp) ?_
            refine AllReadyH.cons rfl (fun K hK => ?_) AllReadyH.nil
            go_simp
            refine hK.out _ _ ?_ (fun hHeld => ?_)
            · (try dsimp only)
              first | exact ⟨K0.drew, G.drew⟩ | exact ⟨hHeld.1.alloc _, hHeld.2.alloc hHeld.2.size _⟩
            clear hK K
            try simp only [Act.put, List.setIfInBounds_toArray, List.set_cons_zero, List.set_cons_succ]
            refine wpAnyH_ready (rs := [4]) (by kernel_rfl) (by simp) ?_
            refine AllReadyH.cons rfl (fun K hK => ?_) AllReadyH.nil
            first | (refine step_append_rd rfl _ _ 47 rfl w.heap.size 41 i0 (.agg #[.int .i64 0, .string ByteArray.empty, .string ByteArray.empty, .int .i64 0, .bool false, .int .i64 0]) 6 64 Tryz.underlying47 hi0 hz0 hz1 hz2 rfl (by decide) (.slice (some ⟨wx.heap.size, 0, none⟩) 0 0) 0 [] rfl ((Blk.new wx.drew 41 []).own (size := 6) (n := 0) G.size rfl (Nat.zero_le _)) _ _ _ _ _ rfl ((hR.below hHeld.2).taker hk) (rns_one' _) (by simp only [maxLen]; omega) (by omega) hHeld.2.size ?_; intro A8 c8 w8 h8 own8 grow8 at8; simp only [Nat.zero_add, List.nil_append] at h8 own8 at8 ⊢; have hne8 := own8) | (refine step_append_rd rfl _ _ 47 rfl w.heap.size 41 i0 (.agg #[.int .i64 0, .string ByteArray.empty, .string ByteArray.empty, .int .i64 0, .bool false, .int .i64 0]) 6 64 Tryz.underlying47 hi0 hz0 hz1 hz2 rfl (by decide) (.slice (some ⟨wx.heap.size, 0, none⟩) 0 0) 0 [] rfl ((two_new wx.drew 41 [] r.cells).1.own (size := 6) (n := 0) G.size rfl (Nat.zero_le _)) _ _ _ _ _ rfl ((hR.below hHeld.2).taker hk) (rns_one' _) (by simp only [maxLen]; omega) (by omega) hHeld.2.size ?_; intro A8 c8 w8 h8 own8 grow8 at8; simp only [Nat.zero_add, List.nil_append] at h8 own8 at8 ⊢; have V8 : Blk w8 (wx.heap.size + 1) 41 r.cells := ((two_new wx.drew 41 [] r.cells).2).grown grow8 (by simp [Value.ownBlock]); have hne8 : (Value.slice A8 k c8).ownBlock ≠ some (wx.heap.size + 1) := fun e => by rcases at8 _ e with h | h <;> simp [Value.ownBlock] at h <;> omega) | (refine step_append_rd rfl _ _ 47 rfl w.heap.size 41 i0 (.agg #[.int .i64 0, .string ByteArray.empty, .string ByteArray.empty, .int .i64 0, .bool false, .int .i64 0]) 6 64 Tryz.underlying47 hi0 hz0 hz1 hz2 rfl (by decide) (.slice (some ⟨wx.heap.size + 1, 0, none⟩) 0 0) 0 [] rfl ((two_new wx.drew 41 r.cells []).2.own (size := 6) (n := 0) (Nat.le_trans G.size (Nat.le_succ _)) rfl (Nat.zero_le _)) _ _ _ _ _ rfl ((hR.below hHeld.2).taker hk) (rns_one' _) (by simp only [maxLen]; omega) (by omega) hHeld.2.size ?_; intro A8 c8 w8 h8 own8 grow8 at8; simp only [Nat.zero_add, List.nil_append] at h8 own8 at8 ⊢; have V8 : Blk w8 (wx.heap.size) 41 r.cells := ((two_new wx.drew 41 r.cells []).1).grown grow8 (by simp [Value.ownBlock]); have hne8 : (Value.slice A8 k c8).ownBlock ≠ some (wx.heap.size) := fun e => by rcases at8 _ e with h | h <;> simp [Value.ownBlock] at h <;> omega)
            refine hK.out _ _ ?_ (fun hHeld => ?_)
            · (try dsimp only)
              exact ⟨hHeld.1.grown grow8 (fun e => by simp [Value.ownBlock] at e; omega), hHeld.2.grown grow8 hHeld.2.size (fun k hk => by simp [Value.ownBlock] at hk; omega)⟩
            clear hK K
            try simp only [Act.put, List.setIfInBounds_toArray, List.set_cons_zero, List.set_cons_succ]
            refine wpAnyH_ready (rs := [7]) (by kernel_rfl) (by simp) ?_
            refine AllReadyH.cons rfl (fun K hK => ?_) AllReadyH.nil
            have K8lt := hHeld.1.lt; first | (refine step_append_rd rfl _ _ 47 rfl w.heap.size 41 i0 (.agg #[.int .i64 0, .string ByteArray.empty, .string ByteArray.empty, .int .i64 0, .bool false, .int .i64 0]) 6 64 Tryz.underlying47 hi0 hz0 hz1 hz2 rfl (by decide) (.slice A8 k c8) k (rns (l.take k)) rfl (own8) _ _ _ _ _ rfl (V8.rd (size := 6) (n := 1) rfl) (rn_one r) (by simp only [maxLen]; omega) (by omega) hHeld.2.size ?_; intro A7 c7 w7 h7 own7 grow7 at7) | (refine step_append_rd rfl _ _ 47 rfl w.heap.size 41 i0 (.agg #[.int .i64 0, .string ByteArray.empty, .string ByteArray.empty, .int .i64 0, .bool false, .int .i64 0]) 6 64 Tryz.underlying47 hi0 hz0 hz1 hz2 rfl (by decide) (.slice A8 k c8) k (rns (l.take k)) rfl (own8.alloc _) _ _ _ _ _ rfl ((Blk.new w8 41 r.cells).rd (size := 6) (n := 1) rfl) (rn_one r) (by simp only [maxLen]; omega) (by omega) hHeld.2.size ?_; intro A7 c7 w7 h7 own7 grow7 at7)
            refine hK.out _ _ ?_ (fun hHeld => ?_)
            · (try dsimp only)
              exact ⟨hHeld.1.grown grow7 (fun e => by rcases at8 _ e.symm with h | h <;> simp [Value.ownBlock] at h <;> omega), hHeld.2.grown grow7 hHeld.2.size (fun k hk => (own8.lt k hk).1)⟩
            clear hK K
            try simp only [Act.put, List.setIfInBounds_toArray, List.set_cons_zero, List.set_cons_succ]
            refine wpAnyH_ready (rs := [11]) (by kernel_rfl) (by simp) ?_
            refine AllReadyH.cons rfl (fun K hK => ?_) AllReadyH.nil
            refine step_append_rd rfl _ _ 47 rfl w.heap.size 41 i0 (.agg #[.int .i64 0, .string ByteArray.empty, .string ByteArray.empty, .int .i64 0, .bool false, .int .i64 0]) 6 64 Tryz.underlying47 hi0 hz0 hz1 hz2 rfl (by decide) (.slice A7 (k + 1) c7) (k + 1) (rns (l.take k) ++ r.cells) rfl (own7) _ _ _ _ _ rfl ((hR.below hHeld.2).dropr hk) (rns_one' _) (by simp only [maxLen]; omega) (by omega) hHeld.2.size ?_; intro A9 c9 w9 h9 own9 grow9 at9; simp only [EK.out, Nat.add_zero, List.append_nil] at h9 own9 ⊢
            refine hK.out _ _ ?_ (fun hHeld => ?_)
            · (try dsimp only)
              exact ⟨hHeld.1.grown grow9 (fun e => by first | (rcases at7 _ e.symm with h | h; (rcases at8 _ h with h | h <;> simp [Value.ownBlock] at h <;> omega); (have h9 := K8lt; (try simp at h); (try simp at h9); omega))), hHeld.2.grown grow9 hHeld.2.size (fun k hk => (own7.lt k hk).1)⟩
            clear hK K
            try simp only [Act.put, List.setIfInBounds_toArray, List.set_cons_zero, List.set_cons_succ]
            refine rgTake (i := 12) (d := 7) (v := ?_) rfl rfl (by kernel_rfl) (by kernel_rfl) (by kernel_rfl) (fun _ _ _ h => h) (by rfl) ?_ (by assumption) ?_
            rotate_left
            · ((intro w hSw); (try dsimp only at hSw); go_simp; (try with_reducible rfl))
            try simp only [Act.put, List.setIfInBounds_toArray, List.set_cons_zero, List.set_cons_succ]
            refine wpAnyH_done (by kernel_rfl) ?_ _
            go_wp2_with fail
            go_meet
            exact ⟨A9, c9, rfl, h9, (by rw [HAT.out, ← HRI.out]; exact own9), hHeld.2⟩
          exact AllReadyH.nil
        case rest =>
          obtain ⟨A2, c2, rfl, hc2, OW, G⟩ := hcut
          cases hok2 : okRns (adL l r)
          · obtain ⟨e1, e2⟩ := HOK2.out _ hok2
            simp only [Bool.false_eq_true, if_false] at e2
            have HB := Lib.hid hok2
            have E1 := Lib.hid e1
            have E2 := Lib.hid e2
            clear hok2 e1 e2
            go_wp2_with fail
            refine (l5Good_any (Rd.of_own OW) (by omega) hc2 HSR.out).mono ?_
            rintro e w9 ⟨rfl, hb⟩
            replace G := G.trans (hb.mono G.size)
            clear hb OW
            rw [HB.out]
            go_wp2_with fail
            go_ret2
            rw [E1.out, E2.out]
            exact ⟨_, 0, rfl, World.ownsRow_lit _ #[] 0 G.size (by simp) rfl, G.alloc G.size _⟩
          · obtain ⟨e1, e2⟩ := HOK2.out _ hok2
            simp only [if_true] at e2
            have HB := Lib.hid hok2
            have E1 := Lib.hid e1
            have E2 := Lib.hid e2
            clear hok2 e1 e2
            go_wp2_with fail
            refine (l5Good_any (Rd.of_own OW) (by omega) hc2 HSR.out).mono ?_
            rintro e w9 ⟨rfl, hb⟩
            replace OW := own_below OW hb
            replace G := G.trans (hb.mono G.size)
            clear hb
            rw [HB.out]
            go_wp2_with fail
            go_ret2
            rw [E1.out, E2.out, HAL.out]
            exact ⟨A2, c2, rfl, OW, G⟩
    · have hkq : ¬ (k : Int) < (q : Int) := by omega
      have hkd : decide ((k : Int) < (q : Int)) = false := by simp; omega
      have HAT : Hid (adL l r = insL l k r) := by
        show _ = _
        unfold adL
        rw [insI_eq l r.id k (by rw [HQ.out]; exact hk) HN.out (fun h => by rw [HQ.out] at h; omega)]
      go_upto_region 4 with (fail)
      refine wp_region_held_drew (S := fun w' => Blk w' w.heap.size 41 r.cells ∧ Below w.heap.size w w') (by kernel_rfl) ?_ (fun hHeld => ?_)
      · (try dsimp only)
        exact ⟨K0.drew, G.drew⟩
      refine rgTake (i := 0) (d := 12) (v := ?_) rfl rfl (by kernel_rfl) (by kernel_rfl) (by kernel_rfl) (fun _ _ _ h => h) (by rfl) ?_ (by assumption) ?_
      rotate_left
      · ((intro w hSw); (try dsimp only at hSw); go_simp; (try with_reducible rfl))
      try simp only [Act.put, List.setIfInBounds_toArray, List.set_cons_zero, List.set_cons_succ]
      refine rgTake (i := 1) (d := 13) (v := ?_) rfl rfl (by kernel_rfl) (by kernel_rfl) (by kernel_rfl) (fun _ _ _ h => h) (by rfl) ?_ (by assumption) ?_
      rotate_left
      · ((intro w hSw); (try dsimp only at hSw); go_simp; (try with_reducible rfl))
      try simp only [Act.put, List.setIfInBounds_toArray, List.set_cons_zero, List.set_cons_succ]
      refine rgTake (i := 2) (d := 14) (v := ?_) rfl rfl (by kernel_rfl) (by kernel_rfl) (by kernel_rfl) (fun _ _ _ h => h) (by rfl) ?_ (by assumption) ?_
      rotate_left
      · ((intro w hSw); (try dsimp only at hSw); go_simp; (try with_reducible rfl))
      try simp only [Act.put, List.setIfInBounds_toArray, List.set_cons_zero, List.set_cons_succ]
      refine rgTake (i := 3) (d := 15) (v := ?_) rfl rfl (by kernel_rfl) (by kernel_rfl) (by kernel_rfl) (fun _ _ _ h => h) (by rfl) ?_ (by assumption) ?_
      rotate_left
      · ((intro w hSw); (try dsimp only at hSw); go_simp; (try with_reducible rfl))
      try simp only [Act.put, List.setIfInBounds_toArray, List.set_cons_zero, List.set_cons_succ]
      refine rgTake (i := 4) (d := 16) (v := ?_) rfl rfl (by kernel_rfl) (by kernel_rfl) (by kernel_rfl) (fun _ _ _ h => h) (by rfl) ?_ (by assumption) ?_
      rotate_left
      · ((intro w hSw); (try dsimp only at hSw); go_simp; (try with_reducible rfl))
      try simp only [Act.put, List.setIfInBounds_toArray, List.set_cons_zero, List.set_cons_succ]
      refine rgSkip (i := 5) (d := 17) rfl rfl (by kernel_rfl) (by kernel_rfl) (by kernel_rfl) (fun _ _ _ h => h) (by rfl) (by assumption) ?_
      try simp only [Act.put, List.setIfInBounds_toArray, List.set_cons_zero, List.set_cons_succ]
      refine rgSkip (i := 6) (d := 18) rfl rfl (by kernel_rfl) (by kernel_rfl) (by kernel_rfl) (fun _ _ _ h => h) (by rfl) (by assumption) ?_
      try simp only [Act.put, List.setIfInBounds_toArray, List.set_cons_zero, List.set_cons_succ]
      refine rgSkip (i := 7) (d := 19) rfl rfl (by kernel_rfl) (by kernel_rfl) (by kernel_rfl) (fun _ _ _ h => h) (by rfl) (by assumption) ?_
      try simp only [Act.put, List.setIfInBounds_toArray, List.set_cons_zero, List.set_cons_succ]
      refine rgSkip (i := 8) (d := 20) rfl rfl (by kernel_rfl) (by kernel_rfl) (by kernel_rfl) (fun _ _ _ h => h) (by rfl) (by assumption) ?_
      try simp only [Act.put, List.setIfInBounds_toArray, List.set_cons_zero, List.set_cons_succ]
      refine rgSkip (i := 9) (d := 21) rfl rfl (by kernel_rfl) (by kernel_rfl) (by kernel_rfl) (fun _ _ _ h => h) (by rfl) (by assumption) ?_
      try simp only [Act.put, List.setIfInBounds_toArray, List.set_cons_zero, List.set_cons_succ]
      refine rgSkip (i := 10) (d := 22) rfl rfl (by kernel_rfl) (by kernel_rfl) (by kernel_rfl) (fun _ _ _ h => h) (by rfl) (by assumption) ?_
      try simp only [Act.put, List.setIfInBounds_toArray, List.set_cons_zero, List.set_cons_succ]
      refine rgSkip (i := 11) (d := 23) rfl rfl (by kernel_rfl) (by kernel_rfl) (by kernel_rfl) (fun _ _ _ h => h) (by rfl) (by assumption) ?_
      try simp only [Act.put, List.setIfInBounds_toArray, List.set_cons_zero, List.set_cons_succ]
      refine rgSkip (i := 12) (d := 24) rfl rfl (by kernel_rfl) (by kernel_rfl) (by kernel_rfl) (fun _ _ _ h => h) (by rfl) (by assumption) ?_
      try simp only [Act.put, List.setIfInBounds_toArray, List.set_cons_zero, List.set_cons_succ]
      refine rgTake (i := 13) (d := 25) (v := ?_) rfl rfl (by kernel_rfl) (by kernel_rfl) (by kernel_rfl) (fun _ _ _ h => h) (by rfl) ?_ (by assumption) ?_
      rotate_left
      · ((intro w hSw); (try dsimp only at hSw); go_simp; (try with_reducible rfl))
      try simp only [Act.put, List.setIfInBounds_toArray, List.set_cons_zero, List.set_cons_succ]
      refine wpAnyH_done (by kernel_rfl) ?_ _
      replace K0 := hHeld.1
      replace G := hHeld.2
      clear HN hHeld
      generalize wr.drew = wx at *
      have hKl := K0.lt
      obtain rfl : k = q := by omega
      have EK := Lib.hid (show k + 1 + 0 = k + 1 by omega)
      have HRI := Lib.hid (show rns (l.take k) ++ r.cells = rns (insL l k r) by rw [← rns_app3, List.nil_append, List.drop_of_length_le (by rw [HQ.out]; exact Nat.le_refl _)]; simp [rns])
      by_cases hcq2 : cq = k
      · subst hcq2
        go_upto_region 6 with (fail)
        go_cut [7] (fun v wx => ∃ A' c', v = .slice A' (cq + 1) c' ∧ cq + 1 ≤ c' ∧ wx.ownsRow w.heap.size 41 6 (.slice A' (cq + 1) c') (cq + 1) (rns (adL l r)) ∧ Below w.heap.size w wx)
        case first =>
          refine wp_region_held_drew (S := fun w' => Blk w' w.heap.size 41 r.cells ∧ Below w.heap.size w w') (by kernel_rfl) ?_ (fun hHeld => ?_)
          · (try dsimp only)
            first | exact ⟨K0.drew, G.drew⟩ | exact ⟨hHeld.1.alloc _, hHeld.2.alloc hHeld.2.size _⟩
          refine rgTake (i := 1) (d := 29) (v := ?_) rfl rfl (by kernel_rfl) (by kernel_rfl) (by kernel_rfl) (fun _ _ _ h => h) (by rfl) ?_ (by assumption) ?_
          rotate_left
          · ((intro w hSw); (try dsimp only at hSw); go_simp; (try with_reducible rfl))
          try simp only [Act.put, List.setIfInBounds_toArray, List.set_cons_zero, List.set_cons_succ]
          refine rgTake (i := 2) (d := 30) (v := ?_) rfl rfl (by kernel_rfl) (by kernel_rfl) (by kernel_rfl) (fun _ _ _ h => h) (by rfl) ?_ (by assumption) ?_
          rotate_left
          · ((intro w hSw); (try dsimp only at hSw); go_simp; (try with_reducible rfl))
          try simp only [Act.put, List.setIfInBounds_toArray, List.set_cons_zero, List.set_cons_succ]
          refine rgTake (i := 3) (d := 31) (v := ?_) rfl rfl (by kernel_rfl) (by kernel_rfl) (by kernel_rfl) (fun _ _ _ h => h) (by rfl) ?_ (by assumption) ?_
          rotate_left
          · ((intro w hSw); (try dsimp only at hSw); go_simp; (try with_reducible rfl))
          try simp only [Act.put, List.setIfInBounds_toArray, List.set_cons_zero, List.set_cons_succ]
          refine rgTake (i := 5) (d := 33) (v := ?_) rfl rfl (by kernel_rfl) (by kernel_rfl) (by kernel_rfl) (fun _ _ _ h => h) (by rfl) ?_ (by assumption) ?_
          rotate_left
          · ((intro w hSw); (try dsimp only at hSw); (obtain ⟨z0, z1, z2, z3, z4, z5⟩ := blk6 hSw.1); go_simp; (try with_reducible rfl))
          try simp only [Act.put, List.setIfInBounds_toArray, List.set_cons_zero, List.set_cons_succ]
          refine rgTake (i := 8) (d := 36) (v := ?_) rfl rfl (by kernel_rfl) (by kernel_rfl) (by kernel_rfl) (fun _ _ _ h => h) (by rfl) ?_ (by assumption) ?_
          rotate_left
          · ((intro w hSw); (try dsimp only at hSw); go_simp; (try with_reducible rfl))
          try simp only [Act.put, List.setIfInBounds_toArray, List.set_cons_zero, List.set_cons_succ]
          refine rgTake (i := 9) (d := 37) (v := ?_) rfl rfl (by kernel_rfl) (by kernel_rfl) (by kernel_rfl) (fun _ _ _ h => h) (by rfl) ?_ (by assumption) ?_
          rotate_left
          · ((intro w hSw); (try dsimp only at hSw); go_simp; (try with_reducible rfl))
          try simp only [Act.put, List.setIfInBounds_toArray, List.set_cons_zero, List.set_cons_succ]
          refine rgTake (i := 10) (d := 38) (v := ?_) rfl rfl (by kernel_rfl) (by kernel_rfl) (by kernel_rfl) (fun _ _ _ h => h) (by rfl) ?_ (by assumption) ?_
          rotate_left
          · ((intro w hSw); (try dsimp only at hSw); go_simp; (try with_reducible rfl))
          try simp only [Act.put, List.setIfInBounds_toArray, List.set_cons_zero, List.set_cons_succ]
          refine wpAnyH_ready (rs := [0, 6]) (by kernel_rfl) (by simp) ?_
          refine AllReadyH.cons rfl (fun K hK => ?_) ?_
          ·
            go_simp
            refine hK.out _ _ ?_ (fun hHeld => ?_)
            · (try dsimp only)
              first | exact ⟨K0.drew, G.drew⟩ | exact ⟨hHeld.1.alloc _, hHeld.2.alloc hHeld.2.size _⟩
            clear hK K
            try simp only [Act.put, List.setIfInBounds_toArray, List.set_cons_zero, List.set_cons_succ]
            refine wpAnyH_ready (rs := [4, 6]) (by kernel_rfl) (by simp) ?_
            refine AllReadyH.cons rfl (fun K hK => ?_) ?_
            ·
              first | (refine step_append_rd rfl _ _ 47 rfl w.heap.size 41 i0 (.agg #[.int .i64 0, .string ByteArray.empty, .string ByteArray.empty, .int .i64 0, .bool false, .int .i64 0]) 6 64 Tryz.underlying47 hi0 hz0 hz1 hz2 rfl (by decide) (.slice (some ⟨wx.heap.size, 0, none⟩) 0 0) 0 [] rfl ((Blk.new wx.drew 41 []).own (size := 6) (n := 0) G.size rfl (Nat.zero_le _)) _ _ _ _ _ rfl ((hR.below hHeld.2).taker hk) (rns_one' _) (by simp only [maxLen]; omega) (by omega) hHeld.2.size ?_; intro A8 c8 w8 h8 own8 grow8 at8; simp only [Nat.zero_add, List.nil_append] at h8 own8 at8 ⊢; have hne8 := own8) | (refine step_append_rd rfl _ _ 47 rfl w.heap.size 41 i0 (.agg #[.int .i64 0, .string ByteArray.empty, .string ByteArray.empty, .int .i64 0, .bool false, .int .i64 0]) 6 64 Tryz.underlying47 hi0 hz0 hz1 hz2 rfl (by decide) (.slice (some ⟨wx.heap.size, 0, none⟩) 0 0) 0 [] rfl ((two_new wx.drew 41 [] r.cells).1.own (size := 6) (n := 0) G.size rfl (Nat.zero_le _)) _ _ _ _ _ rfl ((hR.below hHeld.2).taker hk) (rns_one' _) (by simp only [maxLen]; omega) (by omega) hHeld.2.size ?_; intro A8 c8 w8 h8 own8 grow8 at8; simp only [Nat.zero_add, List.nil_append] at h8 own8 at8 ⊢; have V8 : Blk w8 (wx.heap.size + 1) 41 r.cells := ((two_new wx.drew 41 [] r.cells).2).grown grow8 (by simp [Value.ownBlock]); have hne8 : (Value.slice A8 cq c8).ownBlock ≠ some (wx.heap.size + 1) := fun e => by rcases at8 _ e with h | h <;> simp [Value.ownBlock] at h <;> omega) | (refine step_append_rd rfl _ _ 47 rfl w.heap.size 41 i0 (.agg #[.int .i64 0, .string ByteArray.empty, .string ByteArray.empty, .int .i64 0, .bool false, .int .i64 0]) 6 64 Tryz.underlying47 hi0 hz0 hz1 hz2 rfl (by decide) (.slice (some ⟨wx.heap.size + 1, 0, none⟩) 0 0) 0 [] rfl ((two_new wx.drew 41 r.cells []).2.own (size := 6) (n := 0) (Nat.le_trans G.size (Nat.le_succ _)) rfl (Nat.zero_le _)) _ _ _ _ _ rfl ((hR.below hHeld.2).taker hk) (rns_one' _) (by simp only [maxLen]; omega) (by omega) hHeld.2.size ?_; intro A8 c8 w8 h8 own8 grow8 at8; simp only [Nat.zero_add, List.nil_append] at h8 own8 at8 ⊢; have V8 : Blk w8 (wx.heap.size) 41 r.cells := ((two_new wx.drew 41 r.cells []).1).grown grow8 (by simp [Value.ownBlock]); have hne8 : (Value.slice A8 cq c8).ownBlock ≠ some (wx.heap.size) := fun e => by rcases at8 _ e with h | h <;> simp [Value.ownBlock] at h <;> omega)
              refine hK.out _ _ ?_ (fun hHeld => ?_)
              · (try dsimp only)
                exact ⟨hHeld.1.grown grow8 (fun e => by simp [Value.ownBlock] at e; omega), hHeld.2.grown grow8 hHeld.2.size (fun k hk => by simp [Value.ownBlock] at hk; omega)⟩
              clear hK K
              try simp only [Act.put, List.setIfInBounds_toArray, List.set_cons_zero, List.set_cons_succ]
              refine wpAnyH_ready (rs := [6]) (by kernel_rfl) (by simp) ?_
              refine AllReadyH.cons rfl (fun K hK => ?_) AllReadyH.nil
              go_simp
              refine hK.out _ _ ?_ (fun hHeld => ?_)
              · (try dsimp only)
                first | exact ⟨K0.drew, G.drew⟩ | exact ⟨hHeld.1.alloc _, hHeld.2.alloc hHeld.2.size _⟩
              clear hK K
              try simp only [Act.put, List.setIfInBounds_toArray, List.set_cons_zero, List.set_cons_succ]
              refine wpAnyH_ready (rs := [7]) (by kernel_rfl) (by simp) ?_
              refine AllReadyH.cons rfl (fun K hK => ?_) AllReadyH.nil
              have K8lt := hHeld.1.lt; first | (refine step_append_rd rfl _ _ 47 rfl w.heap.size 41 i0 (.agg #[.int .i64 0, .string ByteArray.empty, .string ByteArray.empty, .int .i64 0, .bool false, .int .i64 0]) 6 64 Tryz.underlying47 hi0 hz0 hz1 hz2 rfl (by decide) (.slice A8 cq c8) cq (rns (l.take cq)) rfl (own8) _ _ _ _ _ rfl (V8.rd (size := 6) (n := 1) rfl) (rn_one r) (by simp only [maxLen]; omega) (by omega) hHeld.2.size ?_; intro A7 c7 w7 h7 own7 grow7 at7) | (refine step_append_rd rfl _ _ 47 rfl w.heap.size 41 i0 (.agg #[.int .i64 0, .string ByteArray.empty, .string ByteArray.empty, .int .i64 0, .bool false, .int .i64 0]) 6 64 Tryz.underlying47 hi0 hz0 hz1 hz2 rfl (by decide) (.slice A8 cq c8) cq (rns (l.take cq)) rfl (own8.alloc _) _ _ _ _ _ rfl ((Blk.new w8 41 r.cells).rd (size := 6) (n := 1) rfl) (rn_one r) (by simp only [maxLen]; omega) (by omega) hHeld.2.size ?_; intro A7 c7 w7 h7 own7 grow7 at7)
              refine hK.out _ _ ?_ (fun hHeld => ?_)
              · (try dsimp only)
                exact ⟨hHeld.1.grown grow7 (fun e => by rcases at8 _ e.symm with h | h <;> simp [Value.ownBlock] at h <;> omega), hHeld.2.grown grow7 hHeld.2.size (fun k hk => (own8.lt k hk).1)⟩
              clear hK K
              try simp only [Act.put, List.setIfInBounds_toArray, List.set_cons_zero, List.set_cons_succ]
              refine wpAnyH_ready (rs := [11]) (by kernel_rfl) (by simp) ?_
              refine AllReadyH.cons rfl (fun K hK => ?_) AllReadyH.nil
              refine step_append_rd rfl _ _ 47 rfl w.heap.size 41 i0 (.agg #[.int .i64 0, .string ByteArray.empty, .string ByteArray.empty, .int .i64 0, .bool false, .int .i64 0]) 6 64 Tryz.underlying47 hi0 hz0 hz1 hz2 rfl (by decide) (.slice A7 (cq + 1) c7) (cq + 1) (rns (l.take cq) ++ r.cells) rfl (own7) _ _ _ _ _ rfl ((Rd.none_ : Rd _ w.heap.size 6 _ 0 [])) (fun u hu => by cases hu) (by simp only [maxLen]; omega) (by omega) hHeld.2.size ?_; intro A9 c9 w9 h9 own9 grow9 at9; simp only [EK.out, Nat.add_zero, List.append_nil] at h9 own9 ⊢
              refine hK.out _ _ ?_ (fun hHeld => ?_)
              · (try dsimp only)
                exact ⟨hHeld.1.grown grow9 (fun e => by first | (rcases at7 _ e.symm with h | h; (rcases at8 _ h with h | h <;> simp [Value.ownBlock] at h <;> omega); (have h9 := K8lt; (try simp at h); (try simp at h9); omega))), hHeld.2.grown grow9 hHeld.2.size (fun k hk => (own7.lt k hk).1)⟩
              clear hK K
              try simp only [Act.put, List.setIfInBounds_toArray, List.set_cons_zero, List.set_cons_succ]
              refine rgTake (i := 12) (d := 7) (v := ?_) rfl rfl (by kernel_rfl) (by kernel_rfl) (by kernel_rfl) (fun _ _ _ h => h) (by rfl) ?_ (by assumption) ?_
              rotate_left
              · ((intro w hSw); (try dsimp only at hSw); go_simp; (try with_reducible rfl))
              try simp only [Act.put, List.setIfInBounds_toArray, List.set_cons_zero, List.set_cons_succ]
              refine wpAnyH_done (by kernel_rfl) ?_ _
              go_wp2_with fail
              go_meet
              exact ⟨A9, c9, rfl, h9, (by rw [HAT.out, ← HRI.out]; exact own9), hHeld.2⟩
            refine AllReadyH.cons rfl (fun K hK => ?_) ?_
            ·
              go_simp
              refine hK.out _ _ ?_ (fun hHeld => ?_)
              · (try dsimp only)
                first | exact ⟨K0.drew, G.drew⟩ | exact ⟨hHeld.1.alloc _, hHeld.2.alloc hHeld.2.size _⟩
              clear hK K
              try simp only [Act.put, List.setIfInBounds_toArray, List.set_cons_zero, List.set_cons_succ]
              refine wpAnyH_ready (rs := [4]) (by kernel_rfl) (by simp) ?_
              refine AllReadyH.cons rfl (fun K hK => ?_) AllReadyH.nil
              first | (refine step_append_rd rfl _ _ 47 rfl w.heap.size 41 i0 (.agg #[.int .i64 0, .string ByteArray.empty, .string ByteArray.empty, .int .i64 0, .bool false, .int .i64 0]) 6 64 Tryz.underlying47 hi0 hz0 hz1 hz2 rfl (by decide) (.slice (some ⟨wx.heap.size, 0, none⟩) 0 0) 0 [] rfl ((Blk.new wx.drew 41 []).own (size := 6) (n := 0) G.size rfl (Nat.zero_le _)) _ _ _ _ _ rfl ((hR.below hHeld.2).taker hk) (rns_one' _) (by simp only [maxLen]; omega) (by omega) hHeld.2.size ?_; intro A8 c8 w8 h8 own8 grow8 at8; simp only [Nat.zero_add, List.nil_append] at h8 own8 at8 ⊢; have hne8 := own8) | (refine step_append_rd rfl _ _ 47 rfl w.heap.size 41 i0 (.agg #[.int .i64 0, .string ByteArray.empty, .string ByteArray.empty, .int .i64 0, .bool false, .int .i64 0]) 6 64 Tryz.underlying47 hi0 hz0 hz1 hz2 rfl (by decide) (.slice (some ⟨wx.heap.size, 0, none⟩) 0 0) 0 [] rfl ((two_new wx.drew 41 [] r.cells).1.own (size := 6) (n := 0) G.size rfl (Nat.zero_le _)) _ _ _ _ _ rfl ((hR.below hHeld.2).taker hk) (rns_one' _) (by simp only [maxLen]; omega) (by omega) hHeld.2.size ?_; intro A8 c8 w8 h8 own8 grow8 at8; simp only [Nat.zero_add, List.nil_append] at h8 own8 at8 ⊢; have V8 : Blk w8 (wx.heap.size + 1) 41 r.cells := ((two_new wx.drew 41 [] r.cells).2).grown grow8 (by simp [Value.ownBlock]); have hne8 : (Value.slice A8 cq c8).ownBlock ≠ some (wx.heap.size + 1) := fun e => by rcases at8 _ e with h | h <;> simp [Value.ownBlock] at h <;> omega) | (refine step_append_rd rfl _ _ 47 rfl w.heap.size 41 i0 (.agg #[.int .i64 0, .string ByteArray.empty, .string ByteArray.empty, .int .i64 0, .bool false, .int .i64 0]) 6 64 Tryz.underlying47 hi0 hz0 hz1 hz2 rfl (by decide) (.slice (some ⟨wx.heap.size + 1, 0, none⟩) 0 0) 0 [] rfl ((two_new wx.drew 41 r.cells []).2.own (size := 6) (n := 0) (Nat.le_trans G.size (Nat.le_succ _)) rfl (Nat.zero_le _)) _ _ _ _ _ rfl ((hR.below hHeld.2).taker hk) (rns_one' _) (by simp only [maxLen]; omega) (by omega) hHeld.2.size ?_; intro A8 c8 w8 h8 own8 grow8 at8; simp only [Nat.zero_add, List.nil_append] at h8 own8 at8 ⊢; have V8 : Blk w8 (wx.heap.size) 41 r.cells := ((two_new wx.drew 41 r.cells []).1).grown grow8 (by simp [Value.ownBlock]); have hne8 : (Value.slice A8 cq c8).ownBlock ≠ some (wx.heap.size) := fun e => by rcases at8 _ e with h | h <;> simp [Value.ownBlock] at h <;> omega)
              refine hK.out _ _ ?_ (fun hHeld => ?_)
              · (try dsimp only)
                exact ⟨hHeld.1.grown grow8 (fun e => by simp [Value.ownBlock] at e; omega), hHeld.2.grown grow8 hHeld.2.size (fun k hk => by simp [Value.ownBlock] at hk; omega)⟩
              clear hK K
              try simp only [Act.put, List.setIfInBounds_toArray, List.set_cons_zero, List.set_cons_succ]
              refine wpAnyH_ready (rs := [7]) (by kernel_rfl) (by simp) ?_
              refine AllReadyH.cons rfl (fun K hK => ?_) AllReadyH.nil
              have K8lt := hHeld.1.lt; first | (refine step_append_rd rfl _ _ 47 rfl w.heap.size 41 i0 (.agg #[.int .i64 0, .string ByteArray.empty, .string ByteArray.empty, .int .i64 0, .bool false, .int .i64 0]) 6 64 Tryz.underlying47 hi0 hz0 hz1 hz2 rfl (by decide) (.slice A8 cq c8) cq (rns (l.take cq)) rfl (own8) _ _ _ _ _ rfl (V8.rd (size := 6) (n := 1) rfl) (rn_one r) (by simp only [maxLen]; omega) (by omega) hHeld.2.size ?_; intro A7 c7 w7 h7 own7 grow7 at7) | (refine step_append_rd rfl _ _ 47 rfl w.heap.size 41 i0 (.agg #[.int .i64 0, .string ByteArray.empty, .string ByteArray.empty, .int .i64 0, .bool false, .int .i64 0]) 6 64 Tryz.underlying47 hi0 hz0 hz1 hz2 rfl (by decide) (.slice A8 cq c8) cq (rns (l.take cq)) rfl (own8.alloc _) _ _ _ _ _ rfl ((Blk.new w8 41 r.cells).rd (size := 6) (n := 1) rfl) (rn_one r) (by simp only [maxLen]; omega) (by omega) hHeld.2.size ?_; intro A7 c7 w7 h7 own7 grow7 at7)
              refine hK.out _ _ ?_ (fun hHeld => ?_)
              · (try dsimp only)
                exact ⟨hHeld.1.grown grow7 (fun e => by rcases at8 _ e.symm with h | h <;> simp [Value.ownBlock] at h <;> omega), hHeld.2.grown grow7 hHeld.2.size (fun k hk => (own8.lt k hk).1)⟩
              clear hK K
              try simp only [Act.put, List.setIfInBounds_toArray, List.set_cons_zero, List.set_cons_succ]
              refine wpAnyH_ready (rs := [11]) (by kernel_rfl) (by simp) ?_
              refine AllReadyH.cons rfl (fun K hK => ?_) AllReadyH.nil
              refine step_append_rd rfl _ _ 47 rfl w.heap.size 41 i0 (.agg #[.int .i64 0, .string ByteArray.empty, .string ByteArray.empty, .int .i64 0, .bool false, .int .i64 0]) 6 64 Tryz.underlying47 hi0 hz0 hz1 hz2 rfl (by decide) (.slice A7 (cq + 1) c7) (cq + 1) (rns (l.take cq) ++ r.cells) rfl (own7) _ _ _ _ _ rfl ((Rd.none_ : Rd _ w.heap.size 6 _ 0 [])) (fun u hu => by cases hu) (by simp only [maxLen]; omega) (by omega) hHeld.2.size ?_; intro A9 c9 w9 h9 own9 grow9 at9; simp only [EK.out, Nat.add_zero, List.append_nil] at h9 own9 ⊢
              refine hK.out _ _ ?_ (fun hHeld => ?_)
              · (try dsimp only)
                exact ⟨hHeld.1.grown grow9 (fun e => by first | (rcases at7 _ e.symm with h | h; (rcases at8 _ h with h | h <;> simp [Value.ownBlock] at h <;> omega); (have h9 := K8lt; (try simp at h); (try simp at h9); omega))), hHeld.2.grown grow9 hHeld.2.size (fun k hk => (own7.lt k hk).1)⟩
              clear hK K
              try simp only [Act.put, List.setIfInBounds_toArray, List.set_cons_zero, List.set_cons_succ]
              refine rgTake (i := 12) (d := 7) (v := ?_) rfl rfl (by kernel_rfl) (by kernel_rfl) (by kernel_rfl) (fun _ _ _ h => h) (by rfl) ?_ (by assumption) ?_
              rotate_left
              · ((intro w hSw); (try dsimp only at hSw); go_simp; (try with_reducible rfl))
              try simp only [Act.put, List.setIfInBounds_toArray, List.set_cons_zero, List.set_cons_succ]
              refine wpAnyH_done (by kernel_rfl) ?_ _
              go_wp2_with fail
              go_meet
              exact ⟨A9, c9, rfl, h9, (by rw [HAT.out, ← HRI.out]; exact own9), hHeld.2⟩
            exact AllReadyH.nil
          refine AllReadyH.cons rfl (fun K hK => ?_) ?_
          ·
            go_simp
            refine hK.out _ _ ?_ (fun hHeld => ?_)
            · (try dsimp only)
              first | exact ⟨K0.drew, G.drew⟩ | exact ⟨hHeld.1.alloc _, hHeld.2.alloc hHeld.2.size _⟩
            clear hK K
            try simp only [Act.put, List.setIfInBounds_toArray, List.set_cons_zero, List.set_cons_succ]
            refine wpAnyH_ready (rs := [0]) (by kernel_rfl) (by simp) ?_
            refine AllReadyH.cons rfl (fun K hK => ?_) AllReadyH.nil
            go_simp
            refine hK.out _ _ ?_ (fun hHeld => ?_)
            · (try dsimp only)
              first | exact ⟨K0.drew, G.drew⟩ | exact ⟨hHeld.1.alloc _, hHeld.2.alloc hHeld.2.size _⟩
            clear hK K
            try simp only [Act.put, List.setIfInBounds_toArray, List.set_cons_zero, List.set_cons_succ]
            refine wpAnyH_ready (rs := [4]) (by kernel_rfl) (by simp) ?_
            refine AllReadyH.cons rfl (fun K hK => ?_) AllReadyH.nil
            first | (refine step_append_rd rfl _ _ 47 rfl w.heap.size 41 i0 (.agg #[.int .i64 0, .string ByteArray.empty, .string ByteArray.empty, .int .i64 0, .bool false, .int .i64 0]) 6 64 Tryz.underlying47 hi0 hz0 hz1 hz2 rfl (by decide) (.slice (some ⟨wx.heap.size, 0, none⟩) 0 0) 0 [] rfl ((Blk.new wx.drew 41 []).own (size := 6) (n := 0) G.size rfl (Nat.zero_le _)) _ _ _ _ _ rfl ((hR.below hHeld.2).taker hk) (rns_one' _) (by simp only [maxLen]; omega) (by omega) hHeld.2.size ?_; intro A8 c8 w8 h8 own8 grow8 at8; simp only [Nat.zero_add, List.nil_append] at h8 own8 at8 ⊢; have hne8 := own8) | (refine step_append_rd rfl _ _ 47 rfl w.heap.size 41 i0 (.agg #[.int .i64 0, .string ByteArray.empty, .string ByteArray.empty, .int .i64 0, .bool false, .int .i64 0]) 6 64 Tryz.underlying47 hi0 hz0 hz1 hz2 rfl (by decide) (.slice (some ⟨wx.heap.size, 0, none⟩) 0 0) 0 [] rfl ((two_new wx.drew 41 [] r.cells).1.own (size := 6) (n := 0) G.size rfl (Nat.zero_le _)) _ _ _ _ _ rfl ((hR.below hHeld.2).taker hk) (rns_one' _) (by simp only [maxLen]; omega) (by omega) hHeld.2.size ?_; intro A8 c8 w8 h8 own8 grow8 at8; simp only [Nat.zero_add, List.nil_append] at h8 own8 at8 ⊢; have V8 : Blk w8 (wx.heap.size + 1) 41 r.cells := ((two_new wx.drew 41 [] r.cells).2).grown grow8 (by simp [Value.ownBlock]); have hne8 : (Value.slice A8 cq c8).ownBlock ≠ some (wx.heap.size + 1) := fun e => by rcases at8 _ e with h | h <;> simp [Value.ownBlock] at h <;> omega) | (refine step_append_rd rfl _ _ 47 rfl w.heap.size 41 i0 (.agg #[.int .i64 0, .string ByteArray.empty, .string ByteArray.empty, .int .i64 0, .bool false, .int .i64 0]) 6 64 Tryz.underlying47 hi0 hz0 hz1 hz2 rfl (by decide) (.slice (some ⟨wx.heap.size + 1, 0, none⟩) 0 0) 0 [] rfl ((two_new wx.drew 41 r.cells []).2.own (size := 6) (n := 0) (Nat.le_trans G.size (Nat.le_succ _)) rfl (Nat.zero_le _)) _ _ _ _ _ rfl ((hR.below hHeld.2).taker hk) (rns_one' _) (by simp only [maxLen]; omega) (by omega) hHeld.2.size ?_; intro A8 c8 w8 h8 own8 grow8 at8; simp only [Nat.zero_add, List.nil_append] at h8 own8 at8 ⊢; have V8 : Blk w8 (wx.heap.size) 41 r.cells := ((two_new wx.drew 41 r.cells []).1).grown grow8 (by simp [Value.ownBlock]); have hne8 : (Value.slice A8 cq c8).ownBlock ≠ some (wx.heap.size) := fun e => by rcases at8 _ e with h | h <;> simp [Value.ownBlock] at h <;> omega)
            refine hK.out _ _ ?_ (fun hHeld => ?_)
            · (try dsimp only)
              exact ⟨hHeld.1.grown grow8 (fun e => by simp [Value.ownBlock] at e; omega), hHeld.2.grown grow8 hHeld.2.size (fun k hk => by simp [Value.ownBlock] at hk; omega)⟩
            clear hK K
            try simp only [Act.put, List.setIfInBounds_toArray, List.set_cons_zero, List.set_cons_succ]
            refine wpAnyH_ready (rs := [7]) (by kernel_rfl) (by simp) ?_
            refine AllReadyH.cons rfl (fun K hK => ?_) AllReadyH.nil
            have K8lt := hHeld.1.lt; first | (refine step_append_rd rfl _ _ 47 rfl w.heap.size 41 i0 (.agg #[.int .i64 0, .string ByteArray.empty, .string ByteArray.empty, .int .i64 0, .bool false, .int .i64 0]) 6 64 Tryz.underlying47 hi0 hz0 hz1 hz2 rfl (by decide) (.slice A8 cq c8) cq (rns (l.take cq)) rfl (own8) _ _ _ _ _ rfl (V8.rd (size := 6) (n := 1) rfl) (rn_one r) (by simp only [maxLen]; omega) (by omega) hHeld.2.size ?_; intro A7 c7 w7 h7 own7 grow7 at7) | (refine step_append_rd rfl _ _ 47 rfl w.heap.size 41 i0 (.agg #[.int .i64 0, .string ByteArray.empty, .string ByteArray.empty, .int .i64 0, .bool false, .int .i64 0]) 6 64 Tryz.underlying47 hi0 hz0 hz1 hz2 rfl (by decide) (.slice A8 cq c8) cq (rns (l.take cq)) rfl (own8.alloc _) _ _ _ _ _ rfl ((Blk.new w8 41 r.cells).rd (size := 6) (n := 1) rfl) (rn_one r) (by simp only [maxLen]; omega) (by omega) hHeld.2.size ?_; intro A7 c7 w7 h7 own7 grow7 at7)
            refine hK.out _ _ ?_ (fun hHeld => ?_)
            · (try dsimp only)
              exact ⟨hHeld.1.grown grow7 (fun e => by rcases at8 _ e.symm with h | h <;> simp [Value.ownBlock] at h <;> omega), hHeld.2.grown grow7 hHeld.2.size (fun k hk => (own8.lt k hk).1)⟩
            clear hK K
            try simp only [Act.put, List.setIfInBounds_toArray, List.set_cons_zero, List.set_cons_succ]
            refine wpAnyH_ready (rs := [11]) (by kernel_rfl) (by simp) ?_
            refine AllReadyH.cons rfl (fun K hK => ?_) AllReadyH.nil
            refine step_append_rd rfl _ _ 47 rfl w.heap.size 41 i0 (.agg #[.int .i64 0, .string ByteArray.empty, .string ByteArray.empty, .int .i64 0, .bool false, .int .i64 0]) 6 64 Tryz.underlying47 hi0 hz0 hz1 hz2 rfl (by decide) (.slice A7 (cq + 1) c7) (cq + 1) (rns (l.take cq) ++ r.cells) rfl (own7) _ _ _ _ _ rfl ((Rd.none_ : Rd _ w.heap.size 6 _ 0 [])) (fun u hu => by cases hu) (by simp only [maxLen]; omega) (by omega) hHeld.2.size ?_; intro A9 c9 w9 h9 own9 grow9 at9; simp only [EK.out, Nat.add_zero, List.append_nil] at h9 own9 ⊢
            refine hK.out _ _ ?_ (fun hHeld => ?_)
            · (try dsimp only)
              exact ⟨hHeld.1.grown grow9 (fun e => by first | (rcases at7 _ e.symm with h | h; (rcases at8 _ h with h | h <;> simp [Value.ownBlock] at h <;> omega); (have h9 := K8lt; (try simp at h); (try simp at h9); omega))), hHeld.2.grown grow9 hHeld.2.size (fun k hk => (own7.lt k hk).1)⟩
            clear hK K
            try simp only [Act.put, List.setIfInBounds_toArray, List.set_cons_zero, List.set_cons_succ]
            refine rgTake (i := 12) (d := 7) (v := ?_) rfl rfl (by kernel_rfl) (by kernel_rfl) (by kernel_rfl) (fun _ _ _ h => h) (by rfl) ?_ (by assumption) ?_
            rotate_left
            · ((intro w hSw); (try dsimp only at hSw); go_simp; (try with_reducible rfl))
            try simp only [Act.put, List.setIfInBounds_toArray, List.set_cons_zero, List.set_cons_succ]
            refine wpAnyH_done (by kernel_rfl) ?_ _
            go_wp2_with fail
            go_meet
            exact ⟨A9, c9, rfl, h9, (by rw [HAT.out, ← HRI.out]; exact own9), hHeld.2⟩
          exact AllReadyH.nil
        case rest =>
          obtain ⟨A2, c2, rfl, hc2, OW, G⟩ := hcut
          cases hok2 : okRns (adL l r)
          · obtain ⟨e1, e2⟩ := HOK2.out _ hok2
            simp only [Bool.false_eq_true, if_false] at e2
            have HB := Lib.hid hok2
            have E1 := Lib.hid e1
            have E2 := Lib.hid e2
            clear hok2 e1 e2
            go_wp2_with fail
            refine (l5Good_any (Rd.of_own OW) (by omega) hc2 HSR.out).mono ?_
            rintro e w9 ⟨rfl, hb⟩
            replace G := G.trans (hb.mono G.size)
            clear hb OW
            rw [HB.out]
            go_wp2_with fail
            go_ret2
            rw [E1.out, E2.out]
            exact ⟨_, 0, rfl, World.ownsRow_lit _ #[] 0 G.size (by simp) rfl, G.alloc G.size _⟩
          · obtain ⟨e1, e2⟩ := HOK2.out _ hok2
            simp only [if_true] at e2
            have HB := Lib.hid hok2
            have E1 := Lib.hid e1
            have E2 := Lib.hid e2
            clear hok2 e1 e2
            go_wp2_with fail
            refine (l5Good_any (Rd.of_own OW) (by omega) hc2 HSR.out).mono ?_
            rintro e w9 ⟨rfl, hb⟩
            replace OW := own_below OW hb
            replace G := G.trans (hb.mono G.size)
            clear hb
            rw [HB.out]
            go_wp2_with fail
            go_ret2
            rw [E1.out, E2.out, HAL.out]
            exact ⟨A2, c2, rfl, OW, G⟩
      · have hkc3 : (k : Int) ≤ (cq : Int) := by omega
        go_upto_region 6 with (fail)
        go_cut [7] (fun v wx => ∃ A' c', v = .slice A' (k + 1) c' ∧ k + 1 ≤ c' ∧ wx.ownsRow w.heap.size 41 6 (.slice A' (k + 1) c') (k + 1) (rns (adL l r)) ∧ Below w.heap.size w wx)
        case first =>
          refine wp_region_held_drew (S := fun w' => Blk w' w.heap.size 41 r.cells ∧ Below w.heap.size w w') (by kernel_rfl) ?_ (fun hHeld => ?_)
          · (try dsimp only)
            first | exact ⟨K0.drew, G.drew⟩ | exact ⟨hHeld.1.alloc _, hHeld.2.alloc hHeld.2.size _⟩
          refine rgTake (i := 1) (d := 29) (v := ?_) rfl rfl (by kernel_rfl) (by kernel_rfl) (by kernel_rfl) (fun _ _ _ h => h) (by rfl) ?_ (by assumption) ?_
          rotate_left
          · ((intro w hSw); (try dsimp only at hSw); go_simp; (try with_reducible rfl))
          try simp only [Act.put, List.setIfInBounds_toArray, List.set_cons_zero, List.set_cons_succ]
          refine rgTake (i := 2) (d := 30) (v := ?_) rfl rfl (by kernel_rfl) (by kernel_rfl) (by kernel_rfl) (fun _ _ _ h => h) (by rfl) ?_ (by assumption) ?_
          rotate_left
          · ((intro w hSw); (try dsimp only at hSw); go_simp; (try with_reducible rfl))
          try simp only [Act.put, List.setIfInBounds_toArray, List.set_cons_zero, List.set_cons_succ]
          refine rgTake (i := 3) (d := 31) (v := ?_) rfl rfl (by kernel_rfl) (by kernel_rfl) (by kernel_rfl) (fun _ _ _ h => h) (by rfl) ?_ (by assumption) ?_
          rotate_left
          · ((intro w hSw); (try dsimp only at hSw); go_simp; (try with_reducible rfl))
          try simp only [Act.put, List.setIfInBounds_toArray, List.set_cons_zero, List.set_cons_succ]
          refine rgTake (i := 5) (d := 33) (v := ?_) rfl rfl (by kernel_rfl) (by kernel_rfl) (by kernel_rfl) (fun _ _ _ h => h) (by rfl) ?_ (by assumption) ?_
          rotate_left
          · ((intro w hSw); (try dsimp only at hSw); (obtain ⟨z0, z1, z2, z3, z4, z5⟩ := blk6 hSw.1); go_simp; (try with_reducible rfl))
          try simp only [Act.put, List.setIfInBounds_toArray, List.set_cons_zero, List.set_cons_succ]
          refine rgTake (i := 8) (d := 36) (v := ?_) rfl rfl (by kernel_rfl) (by kernel_rfl) (by kernel_rfl) (fun _ _ _ h => h) (by rfl) ?_ (by assumption) ?_
          rotate_left
          · ((intro w hSw); (try dsimp only at hSw); go_simp; (try with_reducible rfl))
          try simp only [Act.put, List.setIfInBounds_toArray, List.set_cons_zero, List.set_cons_succ]
          refine rgTake (i := 9) (d := 37) (v := ?_) rfl rfl (by kernel_rfl) (by kernel_rfl) (by kernel_rfl) (fun _ _ _ h => h) (by rfl) ?_ (by assumption) ?_
          rotate_left
          · ((intro w hSw); (try dsimp only at hSw); go_simp; (try with_reducible rfl))
          try simp only [Act.put, List.setIfInBounds_toArray, List.set_cons_zero, List.set_cons_succ]
          refine rgTake (i := 10) (d := 38) (v := ?_) rfl rfl (by kernel_rfl) (by kernel_rfl) (by kernel_rfl) (fun _ _ _ h => h) (by rfl) ?_ (by assumption) ?_
          rotate_left
          · ((intro w hSw); (try dsimp only at hSw); go_simp; (try with_reducible rfl))
          try simp only [Act.put, List.setIfInBounds_toArray, List.set_cons_zero, List.set_cons_succ]
          refine wpAnyH_ready (rs := [0, 6]) (by kernel_rfl) (by simp) ?_
          refine AllReadyH.cons rfl (fun K hK => ?_) ?_
          ·
            go_simp
            refine hK.out _ _ ?_ (fun hHeld => ?_)
            · (try dsimp only)
              first | exact ⟨K0.drew, G.drew⟩ | exact ⟨hHeld.1.alloc _, hHeld.2.alloc hHeld.2.size _⟩
            clear hK K
            try simp only [Act.put, List.setIfInBounds_toArray, List.set_cons_zero, List.set_cons_succ]
            refine wpAnyH_ready (rs := [4, 6]) (by kernel_rfl) (by simp) ?_
            refine AllReadyH.cons rfl (fun K hK => ?_) ?_
            ·
              first | (refine step_append_rd rfl _ _ 47 rfl w.heap.size 41 i0 (.agg #[.int .i64 0, .string ByteArray.empty, .string ByteArray.empty, .int .i64 0, .bool false, .int .i64 0]) 6 64 Tryz.underlying47 hi0 hz0 hz1 hz2 rfl (by decide) (.slice (some ⟨wx.heap.size, 0, none⟩) 0 0) 0 [] rfl ((Blk.new wx.drew 41 []).own (size := 6) (n := 0) G.size rfl (Nat.zero_le _)) _ _ _ _ _ rfl ((hR.below hHeld.2).taker hk) (rns_one' _) (by simp only [maxLen]; omega) (by omega) hHeld.2.size ?_; intro A8 c8 w8 h8 own8 grow8 at8; simp only [Nat.zero_add, List.nil_append] at h8 own8 at8 ⊢; have hne8 := own8) | (refine step_append_rd rfl _ _ 47 rfl w.heap.size 41 i0 (.agg #[.int .i64 0, .string ByteArray.empty, .string ByteArray.empty, .int .i64 0, .bool false, .int .i64 0]) 6 64 Tryz.underlying47 hi0 hz0 hz1 hz2 rfl (by decide) (.slice (some ⟨wx.heap.size, 0, none⟩) 0 0) 0 [] rfl ((two_new wx.drew 41 [] r.cells).1.own (size := 6) (n := 0) G.size rfl (Nat.zero_le _)) _ _ _ _ _ rfl ((hR.below hHeld.2).taker hk) (rns_one' _) (by simp only [maxLen]; omega) (by omega) hHeld.2.size ?_; intro A8 c8 w8 h8 own8 grow8 at8; simp only [Nat.zero_add, List.nil_append] at h8 own8 at8 ⊢; have V8 : Blk w8 (wx.heap.size + 1) 41 r.cells := ((two_new wx.drew 41 [] r.cells).2).grown grow8 (by simp [Value.ownBlock]); have hne8 : (Value.slice A8 k c8).ownBlock ≠ some (wx.heap.size + 1) := fun e => by rcases at8 _ e with h | h <;> simp [Value.ownBlock] at h <;> omega) | (refine step_append_rd rfl _ _ 47 rfl w.heap.size 41 i0 (.agg #[.int .i64 0, .string ByteArray.empty, .string ByteArray.empty, .int .i64 0, .bool false, .int .i64 0]) 6 64 Tryz.underlying47 hi0 hz0 hz1 hz2 rfl (by decide) (.slice (some ⟨wx.heap.size + 1, 0, none⟩) 0 0) 0 [] rfl ((two_new wx.drew 41 r.cells []).2.own (size := 6) (n := 0) (Nat.le_trans G.size (Nat.le_succ _)) rfl (Nat.zero_le _)) _ _ _ _ _ rfl ((hR.below hHeld.2).taker hk) (rns_one' _) (by simp only [maxLen]; omega) (by omega) hHeld.2.size ?_; intro A8 c8 w8 h8 own8 grow8 at8; simp only [Nat.zero_add, List.nil_append] at h8 own8 at8 ⊢; have V8 : Blk w8 (wx.heap.size) 41 r.cells := ((two_new wx.drew 41 r.cells []).1).grown grow8 (by simp [Value.ownBlock]); have hne8 : (Value.slice A8 k c8).ownBlock ≠ some (wx.heap.size) := fun e => by rcases at8 _ e with h | h <;> simp [Value.ownBlock] at h <;> omega)
              refine hK.out _ _ ?_ (fun hHeld => ?_)
              · (try dsimp only)
                exact ⟨hHeld.1.grown grow8 (fun e => by simp [Value.ownBlock] at e; omega), hHeld.2.grown grow8 hHeld.2.size (fun k hk => by simp [Value.ownBlock] at hk; omega)⟩
              clear hK K
              try simp only [Act.put, List.setIfInBounds_toArray, List.set_cons_zero, List.set_cons_succ]
              refine wpAnyH_ready (rs := [6]) (by kernel_rfl) (by simp) ?_
              refine AllReadyH.cons rfl (fun K hK => ?_) AllReadyH.nil
              go_simp
              refine hK.out _ _ ?_ (fun hHeld => ?_)
              · (try dsimp only)
                first | exact ⟨K0.drew, G.drew⟩ | exact ⟨hHeld.1.alloc _, hHeld.2.alloc hHeld.2.size _⟩
              clear hK K
              try simp only [Act.put, List.setIfInBounds_toArray, List.set_cons_zero, List.set_cons_succ]
              refine wpAnyH_ready (rs := [7]) (by kernel_rfl) (by simp) ?_
              refine AllReadyH.cons rfl (fun K hK => ?_) AllReadyH.nil
              have K8lt := hHeld.1.lt; first | (refine step_append_rd rfl _ _ 47 rfl w.heap.size 41 i0 (.agg #[.int .i64 0, .string ByteArray.empty, .string ByteArray.empty, .int .i64 0, .bool false, .int .i64 0]) 6 64 Tryz.underlying47 hi0 hz0 hz1 hz2 rfl (by decide) (.slice A8 k c8) k (rns (l.take k)) rfl (own8) _ _ _ _ _ rfl (V8.rd (size := 6) (n := 1) rfl) (rn_one r) (by simp only [maxLen]; omega) (by omega) hHeld.2.size ?_; intro A7 c7 w7 h7 own7 grow7 at7) | (refine step_append_rd rfl _ _ 47 rfl w.heap.size 41 i0 (.agg #[.int .i64 0, .string ByteArray.empty, .string ByteArray.empty, .int .i64 0, .bool false, .int .i64 0]) 6 64 Tryz.underlying47 hi0 hz0 hz1 hz2 rfl (by decide) (.slice A8 k c8) k (rns (l.take k)) rfl (own8.alloc _) _ _ _ _ _ rfl ((Blk.new w8 41 r.cells).rd (size := 6) (n := 1) rfl) (rn_one r) (by simp only [maxLen]; omega) (by omega) hHeld.2.size ?_; intro A7 c7 w7 h7 own7 grow7 at7)
              refine hK.out _ _ ?_ (fun hHeld => ?_)
              · (try dsimp only)
                exact ⟨hHeld.1.grown grow7 (fun e => by rcases at8 _ e.symm with h | h <;> simp [Value.ownBlock] at h <;> omega), hHeld.2.grown grow7 hHeld.2.size (fun k hk => (own8.lt k hk).1)⟩
              clear hK K
              try simp only [Act.put, List.setIfInBounds_toArray, List.set_cons_zero, List.set_cons_succ]
              refine wpAnyH_ready (rs := [11]) (by kernel_rfl) (by simp) ?_
              refine AllReadyH.cons rfl (fun K hK => ?_) AllReadyH.nil
              refine step_append_rd rfl _ _ 47 rfl w.heap.size 41 i0 (.agg #[.int .i64 0, .string ByteArray.empty, .string ByteArray.empty, .int .i64 0, .bool false, .int .i64 0]) 6 64 Tryz.underlying47 hi0 hz0 hz1 hz2 rfl (by decide) (.slice A7 (k + 1) c7) (k + 1) (rns (l.take k) ++ r.cells) rfl (own7) _ _ _ _ _ rfl ((Rd.none_ : Rd _ w.heap.size 6 _ 0 [])) (fun u hu => by cases hu) (by simp only [maxLen]; omega) (by omega) hHeld.2.size ?_; intro A9 c9 w9 h9 own9 grow9 at9; simp only [EK.out, Nat.add_zero, List.append_nil] at h9 own9 ⊢
              refine hK.out _ _ ?_ (fun hHeld => ?_)
              · (try dsimp only)
                exact ⟨hHeld.1.grown grow9 (fun e => by first | (rcases at7 _ e.symm with h | h; (rcases at8 _ h with h | h <;> simp [Value.ownBlock] at h <;> omega); (have h9 := K8lt; (try simp at h); (try simp at h9); omega))), hHeld.2.grown grow9 hHeld.2.size (fun k hk => (own7.lt k hk).1)⟩
              clear hK K
              try simp only [Act.put, List.setIfInBounds_toArray, List.set_cons_zero, List.set_cons_succ]
              refine rgTake (i := 12) (d := 7) (v := ?_) rfl rfl (by kernel_rfl) (by kernel_rfl) (by kernel_rfl) (fun _ _ _ h => h) (by rfl) ?_ (by assumption) ?_
              rotate_left
              · ((intro w hSw); (try dsimp only at hSw); go_simp; (try with_reducible rfl))
              try simp only [Act.put, List.setIfInBounds_toArray, List.set_cons_zero, List.set_cons_succ]
              refine wpAnyH_done (by kernel_rfl) ?_ _
              go_wp2_with fail
              go_meet
              exact ⟨A9, c9, rfl, h9, (by rw [HAT.out, ← HRI.out]; exact own9), hHeld.2⟩
            refine AllReadyH.cons rfl (fun K hK => ?_) ?_
            ·
              go_simp
              refine hK.out _ _ ?_ (fun hHeld => ?_)
              · (try dsimp only)
                first | exact ⟨K0.drew, G.drew⟩ | exact ⟨hHeld.1.alloc _, hHeld.2.alloc hHeld.2.size _⟩
              clear hK K
              try simp only [Act.put, List.setIfInBounds_toArray, List.set_cons_zero, List.set_cons_succ]
              refine wpAnyH_ready (rs := [4]) (by kernel_rfl) (by simp) ?_
              refine AllReadyH.cons rfl (fun K hK => ?_) AllReadyH.nil
              first | (refine step_append_rd rfl _ _ 47 rfl w.heap.size 41 i0 (.agg #[.int .i64 0, .string ByteArray.empty, .string ByteArray.empty, .int .i64 0, .bool false, .int .i64 0]) 6 64 Tryz.underlying47 hi0 hz0 hz1 hz2 rfl (by decide) (.slice (some ⟨wx.heap.size, 0, none⟩) 0 0) 0 [] rfl ((Blk.new wx.drew 41 []).own (size := 6) (n := 0) G.size rfl (Nat.zero_le _)) _ _ _ _ _ rfl ((hR.below hHeld.2).taker hk) (rns_one' _) (by simp only [maxLen]; omega) (by omega) hHeld.2.size ?_; intro A8 c8 w8 h8 own8 grow8 at8; simp only [Nat.zero_add, List.nil_append] at h8 own8 at8 ⊢; have hne8 := own8) | (refine step_append_rd rfl _ _ 47 rfl w.heap.size 41 i0 (.agg #[.int .i64 0, .string ByteArray.empty, .string ByteArray.empty, .int .i64 0, .bool false, .int .i64 0]) 6 64 Tryz.underlying47 hi0 hz0 hz1 hz2 rfl (by decide) (.slice (some ⟨wx.heap.size, 0, none⟩) 0 0) 0 [] rfl ((two_new wx.drew 41 [] r.cells).1.own (size := 6) (n := 0) G.size rfl (Nat.zero_le _)) _ _ _ _ _ rfl ((hR.below hHeld.2).taker hk) (rns_one' _) (by simp only [maxLen]; omega) (by omega) hHeld.2.size ?_; intro A8 c8 w8 h8 own8 grow8 at8; simp only [Nat.zero_add, List.nil_append] at h8 own8 at8 ⊢; have V8 : Blk w8 (wx.heap.size + 1) 41 r.cells := ((two_new wx.drew 41 [] r.cells).2).grown grow8 (by simp [Value.ownBlock]); have hne8 : (Value.slice A8 k c8).ownBlock ≠ some (wx.heap.size + 1) := fun e => by rcases at8 _ e with h | h <;> simp [Value.ownBlock] at h <;> omega) | (refine step_append_rd rfl _ _ 47 rfl w.heap.size 41 i0 (.agg #[.int .i64 0, .string ByteArray.empty, .string ByteArray.empty, .int .i64 0, .bool false, .int .i64 0]) 6 64 Tryz.underlying47 hi0 hz0 hz1 hz2 rfl (by decide) (.slice (some ⟨wx.heap.size + 1, 0, none⟩) 0 0) 0 [] rfl ((two_new wx.drew 41 r.cells []).2.own (size := 6) (n := 0) (Nat.le_trans G.size (Nat.le_succ _)) rfl (Nat.zero_le _)) _ _ _ _ _ rfl ((hR.below hHeld.2).taker hk) (rns_one' _) (by simp only [maxLen]; omega) (by omega) hHeld.2.size ?_; intro A8 c8 w8 h8 own8 grow8 at8; simp only [Nat.zero_add, List.nil_append] at h8 own8 at8 ⊢; have V8 : Blk w8 (wx.heap.size) 41 r.cells := ((two_new wx.drew 41 r.cells []).1).grown grow8 (by simp [Value.ownBlock]); have hne8 : (Value.slice A8 k c8).ownBlock ≠ some (wx.heap.size) := fun e => by rcases at8 _ e with h | h <;> simp [Value.ownBlock] at h <;> omega)
              refine hK.out _ _ ?_ (fun hHeld => ?_)
              · (try dsimp only)
                exact ⟨hHeld.1.grown grow8 (fun e => by simp [Value.ownBlock] at e; omega), hHeld.2.grown grow8 hHeld.2.size (fun k hk => by simp [Value.ownBlock] at hk; omega)⟩
              clear hK K
              try simp only [Act.put, List.setIfInBounds_toArray, List.set_cons_zero, List.set_cons_succ]
              refine wpAnyH_ready (rs := [7]) (by kernel_rfl) (by simp) ?_
              refine AllReadyH.cons rfl (fun K hK => ?_) AllReadyH.nil
              have K8lt := hHeld.1.lt; first | (refine step_append_rd rfl _ _ 47 rfl w.heap.size 41 i0 (.agg #[.int .i64 0, .string ByteArray.empty, .string ByteArray.empty, .int .i64 0, .bool false, .int .i64 0]) 6 64 Tryz.underlying47 hi0 hz0 hz1 hz2 rfl (by decide) (.slice A8 k c8) k (rns (l.take k)) rfl (own8) _ _ _ _ _ rfl (V8.rd (size := 6) (n := 1) rfl) (rn_one r) (by simp only [maxLen]; omega) (by omega) hHeld.2.size ?_; intro A7 c7 w7 h7 own7 grow7 at7) | (refine step_append_rd rfl _ _ 47 rfl w.heap.size 41 i0 (.agg #[.int .i64 0, .string ByteArray.empty, .string ByteArray.empty, .int .i64 0, .bool false, .int .i64 0]) 6 64 Tryz.underlying47 hi0 hz0 hz1 hz2 rfl (by decide) (.slice A8 k c8) k (rns (l.take k)) rfl (own8.alloc _) _ _ _ _ _ rfl ((Blk.new w8 41 r.cells).rd (size := 6) (n := 1) rfl) (rn_one r) (by simp only [maxLen]; omega) (by omega) hHeld.2.size ?_; intro A7 c7 w7 h7 own7 grow7 at7)
              refine hK.out _ _ ?_ (fun hHeld => ?_)
              · (try dsimp only)
                exact ⟨hHeld.1.grown grow7 (fun e => by rcases at8 _ e.symm with h | h <;> simp [Value.ownBlock] at h <;> omega), hHeld.2.grown grow7 hHeld.2.size (fun k hk => (own8.lt k hk).1)⟩
              clear hK K
              try simp only [Act.put, List.setIfInBounds_toArray, List.set_cons_zero, List.set_cons_succ]
              refine wpAnyH_ready (rs := [11]) (by kernel_rfl) (by simp) ?_
              refine AllReadyH.cons rfl (fun K hK => ?_) AllReadyH.nil
              refine step_append_rd rfl _ _ 47 rfl w.heap.size 41 i0 (.agg #[.int .i64 0, .string ByteArray.empty, .string ByteArray.empty, .int .i64 0, .bool false, .int .i64 0]) 6 64 Tryz.underlying47 hi0 hz0 hz1 hz2 rfl (by decide) (.slice A7 (k + 1) c7) (k + 1) (rns (l.take k) ++ r.cells) rfl (own7) _ _ _ _ _ rfl ((Rd.none_ : Rd _ w.heap.size 6 _ 0 [])) (fun u hu => by cases hu) (by simp only [maxLen]; omega) (by omega) hHeld.2.size ?_; intro A9 c9 w9 h9 own9 grow9 at9; simp only [EK.out, Nat.add_zero, List.append_nil] at h9 own9 ⊢
              refine hK.out _ _ ?_ (fun hHeld => ?_)
              · (try dsimp only)
                exact ⟨hHeld.1.grown grow9 (fun e => by first | (rcases at7 _ e.symm with h | h; (rcases at8 _ h with h | h <;> simp [Value.ownBlock] at h <;> omega); (have h9 := K8lt; (try simp at h); (try simp at h9); omega))), hHeld.2.grown grow9 hHeld.2.size (fun k hk => (own7.lt k hk).1)⟩
              clear hK K
              try simp only [Act.put, List.setIfInBounds_toArray, List.set_cons_zero, List.set_cons_succ]
              refine rgTake (i := 12) (d := 7) (v := ?_) rfl rfl (by kernel_rfl) (by kernel_rfl) (by kernel_rfl) (fun _ _ _ h => h) (by rfl) ?_ (by assumption) ?_
              rotate_left
              · ((intro w hSw); (try dsimp only at hSw); go_simp; (try with_reducible rfl))
              try simp only [Act.put, List.setIfInBounds_toArray, List.set_cons_zero, List.set_cons_succ]
              refine wpAnyH_done (by kernel_rfl) ?_ _
              go_wp2_with fail
              go_meet
              exact ⟨A9, c9, rfl, h9, (by rw [HAT.out, ← HRI.out]; exact own9), hHeld.2⟩
            exact AllReadyH.nil
          refine AllReadyH.cons rfl (fun K hK => ?_) ?_
          ·
            go_simp
            refine hK.out _ _ ?_ (fun hHeld => ?_)
            · (try dsimp only)
              first | exact ⟨K0.drew, G.drew⟩ | exact ⟨hHeld.1.alloc _, hHeld.2.alloc hHeld.2.size _⟩
            clear hK K
            try simp only [Act.put, List.setIfInBounds_toArray, List.set_cons_zero, List.set_cons_succ]
            refine wpAnyH_ready (rs := [0]) (by kernel_rfl) (by simp) ?_
            refine AllReadyH.cons rfl (fun K hK => ?_) AllReadyH.nil
            go_simp
            refine hK.out _ _ ?_ (fun hHeld => ?_)
            · (try dsimp only)
              first | exact ⟨K0.drew, G.drew⟩ | exact ⟨hHeld.1.alloc _, hHeld.2.alloc hHeld.2.size _⟩
            clear hK K
            try simp only [Act.put, List.setIfInBounds_toArray, List.set_cons_zero, List.set_cons_succ]
            refine wpAnyH_ready (rs := [4]) (by kernel_rfl) (by simp) ?_
            refine AllReadyH.cons rfl (fun K hK => ?_) AllReadyH.nil
            first | (refine step_append_rd rfl _ _ 47 rfl w.heap.size 41 i0 (.agg #[.int .i64 0, .string ByteArray.empty, .string ByteArray.empty, .int .i64 0, .bool false, .int .i64 0]) 6 64 Tryz.underlying47 hi0 hz0 hz1 hz2 rfl (by decide) (.slice (some ⟨wx.heap.size, 0, none⟩) 0 0) 0 [] rfl ((Blk.new wx.drew 41 []).own (size := 6) (n := 0) G.size rfl (Nat.zero_le _)) _ _ _ _ _ rfl ((hR.below hHeld.2).taker hk) (rns_one' _) (by simp only [maxLen]; omega) (by omega) hHeld.2.size ?_; intro A8 c8 w8 h8 own8 grow8 at8; simp only [Nat.zero_add, List.nil_append] at h8 own8 at8 ⊢; have hne8 := own8) | (refine step_append_rd rfl _ _ 47 rfl w.heap.size 41 i0 (.agg #[.int .i64 0, .string ByteArray.empty, .string ByteArray.empty, .int .i64 0, .bool false, .int .i64 0]) 6 64 Tryz.underlying47 hi0 hz0 hz1 hz2 rfl (by decide) (.slice (some ⟨wx.heap.size, 0, none⟩) 0 0) 0 [] rfl ((two_new wx.drew 41 [] r.cells).1.own (size := 6) (n := 0) G.size rfl (Nat.zero_le _)) _ _ _ _ _ rfl ((hR.below hHeld.2).taker hk) (rns_one' _) (by simp only [maxLen]; omega) (by omega) hHeld.2.size ?_; intro A8 c8 w8 h8 own8 grow8 at8; simp only [Nat.zero_add, List.nil_append] at h8 own8 at8 ⊢; have V8 : Blk w8 (wx.heap.size + 1) 41 r.cells := ((two_new wx.drew 41 [] r.cells).2).grown grow8 (by simp [Value.ownBlock]); have hne8 : (Value.slice A8 k c8).ownBlock ≠ some (wx.heap.size + 1) := fun e => by rcases at8 _ e with h | h <;> simp [Value.ownBlock] at h <;> omega) | (refine step_append_rd rfl _ _ 47 rfl w.heap.size 41 i0 (.agg #[.int .i64 0, .string ByteArray.empty, .string ByteArray.empty, .int .i64 0, .bool false, .int .i64 0]) 6 64 Tryz.underlying47 hi0 hz0 hz1 hz2 rfl (by decide) (.slice (some ⟨wx.heap.size + 1, 0, none⟩) 0 0) 0 [] rfl ((two_new wx.drew 41 r.cells []).2.own (size := 6) (n := 0) (Nat.le_trans G.size (Nat.le_succ _)) rfl (Nat.zero_le _)) _ _ _ _ _ rfl ((hR.below hHeld.2).taker hk) (rns_one' _) (by simp only [maxLen]; omega) (by omega) hHeld.2.size ?_; intro A8 c8 w8 h8 own8 grow8 at8; simp only [Nat.zero_add, List.nil_append] at h8 own8 at8 ⊢; have V8 : Blk w8 (wx.heap.size) 41 r.cells := ((two_new wx.drew 41 r.cells []).1).grown grow8 (by simp [Value.ownBlock]); have hne8 : (Value.slice A8 k c8).ownBlock ≠ some (wx.heap.size) := fun e => by rcases at8 _ e with h | h <;> simp [Value.ownBlock] at h <;> omega)
            refine hK.out _ _ ?_ (fun hHeld => ?_)
            · (try dsimp only)
              exact ⟨hHeld.1.grown grow8 (fun e => by simp [Value.ownBlock] at e; omega), hHeld.2.grown grow8 hHeld.2.size (fun k hk => by simp [Value.ownBlock] at hk; omega)⟩
            clear hK K
            try simp only [Act.put, List.setIfInBounds_toArray, List.set_cons_zero, List.set_cons_succ]
            refine wpAnyH_ready (rs := [7]) (by kernel_rfl) (by simp) ?_
            refine AllReadyH.cons rfl (fun K hK => ?_) AllReadyH.nil
            have K8lt := hHeld.1.lt; first | (refine step_append_rd rfl _ _ 47 rfl w.heap.size 41 i0 (.agg #[.int .i64 0, .string ByteArray.empty, .string ByteArray.empty, .int .i64 0, .bool false, .int .i64 0]) 6 64 Tryz.underlying47 hi0 hz0 hz1 hz2 rfl (by decide) (.slice A8 k c8) k (rns (l.take k)) rfl (own8) _ _ _ _ _ rfl (V8.rd (size := 6) (n := 1) rfl) (rn_one r) (by simp only [maxLen]; omega) (by omega) hHeld.2.size ?_; intro A7 c7 w7 h7 own7 grow7 at7) | (refine step_append_rd rfl _ _ 47 rfl w.heap.size 41 i0 (.agg #[.int .i64 0, .string ByteArray.empty, .string ByteArray.empty, .int .i64 0, .bool false, .int .i64 0]) 6 64 Tryz.underlying47 hi0 hz0 hz1 hz2 rfl (by decide) (.slice A8 k c8) k (rns (l.take k)) rfl (own8.alloc _) _ _ _ _ _ rfl ((Blk.new w8 41 r.cells).rd (size := 6) (n := 1) rfl) (rn_one r) (by simp only [maxLen]; omega) (by omega) hHeld.2.size ?_; intro A7 c7 w7 h7 own7 grow7 at7)
            refine hK.out _ _ ?_ (fun hHeld => ?_)
            · (try dsimp only)
              exact ⟨hHeld.1.grown grow7 (fun e => by rcases at8 _ e.symm with h | h <;> simp [Value.ownBlock] at h <;> omega), hHeld.2.grown grow7 hHeld.2.size (fun k hk => (own8.lt k hk).1)⟩
            clear hK K
            try simp only [Act.put, List.setIfInBounds_toArray, List.set_cons_zero, List.set_cons_succ]
            refine wpAnyH_ready (rs := [11]) (by kernel_rfl) (by simp) ?_
            refine AllReadyH.cons rfl (fun K hK => ?_) AllReadyH.nil
            refine step_append_rd rfl _ _ 47 rfl w.heap.size 41 i0 (.agg #[.int .i64 0, .string ByteArray.empty, .string ByteArray.empty, .int .i64 0, .bool false, .int .i64 0]) 6 64 Tryz.underlying47 hi0 hz0 hz1 hz2 rfl (by decide) (.slice A7 (k + 1) c7) (k + 1) (rns (l.take k) ++ r.cells) rfl (own7) _ _ _ _ _ rfl ((Rd.none_ : Rd _ w.heap.size 6 _ 0 [])) (fun u hu => by cases hu) (by simp only [maxLen]; omega) (by omega) hHeld.2.size ?_; intro A9 c9 w9 h9 own9 grow9 at9; simp only [EK.out, Nat.add_zero, List.append_nil] at h9 own9 ⊢
            refine hK.out _ _ ?_ (fun hHeld => ?_)
            · (try dsimp only)
              exact ⟨hHeld.1.grown grow9 (fun e => by first | (rcases at7 _ e.symm with h | h; (rcases at8 _ h with h | h <;> simp [Value.ownBlock] at h <;> omega); (have h9 := K8lt; (try simp at h); (try simp at h9); omega))), hHeld.2.grown grow9 hHeld.2.size (fun k hk => (own7.lt k hk).1)⟩
            clear hK K
            try simp only [Act.put, List.setIfInBounds_toArray, List.set_cons_zero, List.set_cons_succ]
            refine rgTake (i := 12) (d := 7) (v := ?_) rfl rfl (by kernel_rfl) (by kernel_rfl) (by kernel_rfl) (fun _ _ _ h => h) (by rfl) ?_ (by assumption) ?_
            rotate_left
            · ((intro w hSw); (try dsimp only at hSw); go_simp; (try with_reducible rfl))
            try simp only [Act.put, List.setIfInBounds_toArray, List.set_cons_zero, List.set_cons_succ]
            refine wpAnyH_done (by kernel_rfl) ?_ _
            go_wp2_with fail
            go_meet
            exact ⟨A9, c9, rfl, h9, (by rw [HAT.out, ← HRI.out]; exact own9), hHeld.2⟩
          exact AllReadyH.nil
        case rest =>
          obtain ⟨A2, c2, rfl, hc2, OW, G⟩ := hcut
          cases hok2 : okRns (adL l r)
          · obtain ⟨e1, e2⟩ := HOK2.out _ hok2
            simp only [Bool.false_eq_true, if_false] at e2
            have HB := Lib.hid hok2
            have E1 := Lib.hid e1
            have E2 := Lib.hid e2
            clear hok2 e1 e2
            go_wp2_with fail
            refine (l5Good_any (Rd.of_own OW) (by omega) hc2 HSR.out).mono ?_
            rintro e w9 ⟨rfl, hb⟩
            replace G := G.trans (hb.mono G.size)
            clear hb OW
            rw [HB.out]
            go_wp2_with fail
            go_ret2
            rw [E1.out, E2.out]
            exact ⟨_, 0, rfl, World.ownsRow_lit _ #[] 0 G.size (by simp) rfl, G.alloc G.size _⟩
          · obtain ⟨e1, e2⟩ := HOK2.out _ hok2
            simp only [if_true] at e2
            have HB := Lib.hid hok2
            have E1 := Lib.hid e1
            have E2 := Lib.hid e2
            clear hok2 e1 e2
            go_wp2_with fail
            refine (l5Good_any (Rd.of_own OW) (by omega) hc2 HSR.out).mono ?_
            rintro e w9 ⟨rfl, hb⟩
            replace OW := own_below OW hb
            replace G := G.trans (hb.mono G.size)
            clear hb
            rw [HB.out]
            go_wp2_with fail
            go_ret2
            rw [E1.out, E2.out, HAL.out]
            exact ⟨A2, c2, rfl, OW, G⟩
end Go.Proofs.YtmmpcchjalgokaaGreatDoor
