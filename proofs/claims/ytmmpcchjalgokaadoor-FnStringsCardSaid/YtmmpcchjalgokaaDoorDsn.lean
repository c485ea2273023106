/- The reference's draws of numbers and their texts. -/
import Derived.Test.YtmmpcchjalgokaaDoorDst
import Derived.Test.YtmmpcchjalgokaaDoorNum
namespace Go.Proofs.YtmmpcchjalgokaaDoor
set_option linter.unusedVariables false
set_option linter.unusedSimpArgs false
open Go.RowKit
set_option maxHeartbeats 1000000 in
theorem DrawFormatInt_any {C : Option Addr} {n c : Nat} {l : List Int} {w : World} (hR : Rd w w.heap.size 1 C n (bys l)) (hl : ∀ x ∈ l, 0 ≤ x ∧ x ≤ 255) (hn : n ≤ 65536) :
    Calls Tryd.prog 33 #[.slice C n c] w fun e w' => ∃ z, e = .returned (.int .i64 z) ∧ -1000000 ≤ z ∧ z ≤ 1000000 ∧ Below w.heap.size w w' := by
  have K := cur_new (c := c) hR hl hn
  clear hR hl
  go_enter Tryd.func33, Tryd.ntmps33
  go_wp2_with fail
  refine (pick_any K (by omega) (by omega) (by omega)).mono ?_
  rintro e w1 ⟨x, rfl, hx0, hx1, K1, hc1⟩
  have G := below_new hc1
  have hg1 := K1.lt.1
  have hw : IntKind.i64.wrap (x - 500) = x - 500 := IntWalk.i64_in _ (by omega)
  clear K hc1
  go_wp2_with fail
  refine (among_any (xs := [0, 1, -1, 10, 999999, -999999, 1000000, -1000000, x - 500]) (n := 9) (K1.alloc _) (by omega) (Blk.new w1 _ _) (by omega) rfl (by omega) (by omega)).mono ?_
  rintro e w2 ⟨z, hz, rfl, K2, hc2⟩
  have G2 := Below.ch (G.alloc G.size _) hc2 (by have := G.size; simp; omega) (fun k h => by omega)
  have hb : -1000000 ≤ z ∧ z ≤ 1000000 := by
    simp only [List.mem_cons, List.not_mem_nil, or_false] at hz
    omega
  clear hz
  go_wp2_with fail
  go_ret
  exact ⟨z, rfl, hb.1, hb.2, G2⟩
def piL : List ByteArray := [bsn [], bsn [45], bsn [45, 48], bsn [48, 48], bsn [48, 49], bsn [45, 45, 49], bsn [49, 120], bsn [57, 57, 57, 57, 57, 57], bsn [49, 48, 48, 48, 48, 48, 48], bsn [45, 57, 57, 57, 57, 57, 57], bsn [49, 56, 52, 52, 54, 55, 52, 52, 48, 55, 51, 55, 48, 57, 53, 53, 49, 54, 49, 55]]
theorem piL_sz : ∀ s ∈ piL, s.size ≤ 20 := by decide
set_option maxHeartbeats 1000000 in
theorem DrawParseInt_any {C : Option Addr} {n c : Nat} {l : List Int} {w : World} (hR : Rd w w.heap.size 1 C n (bys l)) (hl : ∀ x ∈ l, 0 ≤ x ∧ x ≤ 255) (hn : n ≤ 65536) :
    Calls Tryd.prog 36 #[.slice C n c] w fun e w' => ∃ s : ByteArray, s.size ≤ 100 ∧ e = .returned (.string s) ∧ Below w.heap.size w w' := by
  have K := cur_new (c := c) hR hl hn
  clear hR hl
  go_enter Tryd.func36, Tryd.ntmps36
  go_wp2_with fail
  refine (one_any K (by omega) (by omega) (by omega)).mono ?_
  rintro e w1 ⟨q, rfl, K1, hc1⟩
  have G := below_new hc1
  have hg1 := K1.lt.1
  clear K hc1
  cases q
  · go_wp2_with fail
    refine (pick_any K1 (by omega) (by omega) (by omega)).mono ?_
    rintro e w2 ⟨x, rfl, hx0, hx1, K2, hc2⟩
    have hw : IntKind.i64.wrap (x - 1000) = x - 1000 := IntWalk.i64_in _ (by omega)
    have G2 := Below.ch G hc2 G.size (fun k h => by omega)
    have hsz := itoaB_size (n := x - 1000) (by omega) (by omega)
    clear hc2
    go_wp2_with fail
    refine (l1Num_any (n := x - 1000) (by omega) (by omega)).mono ?_
    rintro e w3 ⟨rfl, hb⟩
    have G3 := G2.trans (hb.mono G2.size)
    go_wp2_with fail
    go_ret
    exact ⟨_, by omega, rfl, G3⟩
  · go_wp2_with fail
    refine (of_any (xs := piL) (n := 11) (K1.alloc _) (by omega) (Blk.new w1 _ _) (by omega) rfl (by omega) (by omega)).mono ?_
    rintro e w2 ⟨s, hs, rfl, K2, hc2⟩
    have hsz := piL_sz s hs
    have G2 := Below.ch (G.alloc G.size _) hc2 (by have := G.size; simp; omega) (fun k h => by omega)
    clear hs
    go_wp2_with fail
    go_ret
    exact ⟨s, by omega, rfl, G2⟩
set_option maxHeartbeats 1000000 in
theorem DrawAppendChecksum_any {C : Option Addr} {n c : Nat} {l : List Int} {w : World} (hR : Rd w w.heap.size 1 C n (bys l)) (hl : ∀ x ∈ l, 0 ≤ x ∧ x ≤ 255) (hn : n ≤ 65536) :
    Calls Tryd.prog 39 #[.slice C n c] w fun e w' => ∃ s : ByteArray, s.size ≤ 5000 ∧ e = .returned (.string s) ∧ Below w.heap.size w w' := by
  have K := cur_new (c := c) hR hl hn
  clear hR hl
  go_enter Tryd.func39, Tryd.ntmps39
  go_wp2_with fail
  refine (one_any K (by omega) (by omega) (by omega)).mono ?_
  rintro e w1 ⟨q, rfl, K1, hc1⟩
  have G := below_new hc1
  clear K hc1
  cases q
  · go_wp2_with fail
    refine (any1_any K1 (by omega)).mono ?_
    rintro e w2 ⟨s, hs, rfl, K2, hc2⟩
    have G2 := Below.ch G hc2 G.size (fun k h => by omega)
    go_wp2_with fail
    go_ret
    exact ⟨s, by omega, rfl, G2⟩
  · go_wp2_with fail
    refine (pick_any K1 (by omega) (by omega) (by omega)).mono ?_
    rintro e w3 ⟨y, rfl, hy0, hy1, K3, hc3⟩
    obtain ⟨y9, rfl⟩ := Int.eq_ofNat_of_zero_le hy0
    have hy20 : y9 ≤ 20 := by omega
    have hyw : IntKind.i64.wrap (3990 + (y9 : Int)) = ((3990 + y9 : Nat) : Int) := by rw [IntWalk.i64_in _ (by omega)]; omega
    replace G := Below.ch G hc3 G.size (fun k h => by omega)
    obtain ⟨N9, hN⟩ : ∃ N9, 3990 + y9 = N9 := ⟨_, rfl⟩
    rw [hN] at hyw
    have hN5 : N9 ≤ 5000 := by omega
    obtain ⟨hmk, hcv⟩ := made_string hN5 w3
    have hss := made_size N9
    generalize strOfNums (List.replicate N9 0) = s at *
    obtain ⟨ob, hob⟩ : ∃ ob, Obj.cells (madeCells #[.int .u8 0] N9) 5 = ob := ⟨_, rfl⟩
    rw [hob] at hmk hcv
    clear hob hc3 K1 K3 hy0 hy1
    have G4 := G.alloc G.size ob
    go_wp2_with fail
    go_ret
    exact ⟨s, by omega, rfl, G4⟩
end Go.Proofs.YtmmpcchjalgokaaDoor
