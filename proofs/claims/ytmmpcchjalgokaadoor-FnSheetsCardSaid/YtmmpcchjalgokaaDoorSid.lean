/- Contracts: the reference's family of a word; SidesFor, the program's and the reference's. -/
import Derived.Test.YtmmpcchjalgokaaDoorFam
namespace Go.Proofs.YtmmpcchjalgokaaDoor
set_option linter.unusedVariables false
set_option linter.unusedSimpArgs false
open Go.RowKit
theorem WL_len {k : Nat} (h : k < 5) : (WL k).length ≤ 3 := by
  rcases (show k = 0 ∨ k = 1 ∨ k = 2 ∨ k = 3 ∨ k = 4 by omega) with rfl | rfl | rfl | rfl | rfl <;> simp [WL]
theorem six_new (w : World) (o0 o1 o2 o3 o4 o5 : Obj) : ((((((w.alloc o0).alloc o1).alloc o2).alloc o3).alloc o4).alloc o5).heap[w.heap.size + 0]? = some o0 ∧ ((((((w.alloc o0).alloc o1).alloc o2).alloc o3).alloc o4).alloc o5).heap[w.heap.size + 1]? = some o1 ∧ ((((((w.alloc o0).alloc o1).alloc o2).alloc o3).alloc o4).alloc o5).heap[w.heap.size + 2]? = some o2 ∧ ((((((w.alloc o0).alloc o1).alloc o2).alloc o3).alloc o4).alloc o5).heap[w.heap.size + 3]? = some o3 ∧ ((((((w.alloc o0).alloc o1).alloc o2).alloc o3).alloc o4).alloc o5).heap[w.heap.size + 4]? = some o4 ∧ ((((((w.alloc o0).alloc o1).alloc o2).alloc o3).alloc o4).alloc o5).heap[w.heap.size + 5]? = some o5 := by
  have s0 : w.heap.size = w.heap.size + 0 := by simp
  have s1 : (w.alloc o0).heap.size = w.heap.size + 1 := by simp
  have s2 : ((w.alloc o0).alloc o1).heap.size = w.heap.size + 2 := by simp
  have s3 : (((w.alloc o0).alloc o1).alloc o2).heap.size = w.heap.size + 3 := by simp
  have s4 : ((((w.alloc o0).alloc o1).alloc o2).alloc o3).heap.size = w.heap.size + 4 := by simp
  have s5 : (((((w.alloc o0).alloc o1).alloc o2).alloc o3).alloc o4).heap.size = w.heap.size + 5 := by simp
  have s6 : ((((((w.alloc o0).alloc o1).alloc o2).alloc o3).alloc o4).alloc o5).heap.size = w.heap.size + 6 := by simp
  refine ⟨?_, ?_, ?_, ?_, ?_, ?_⟩
  · have h := heap_alloc_new w o0
    rw [s0] at h
    rw [← Below.heap_alloc (w.alloc o0) o1 (w.heap.size + 0) (by rw [s1]; omega)] at h
    rw [← Below.heap_alloc ((w.alloc o0).alloc o1) o2 (w.heap.size + 0) (by rw [s2]; omega)] at h
    rw [← Below.heap_alloc (((w.alloc o0).alloc o1).alloc o2) o3 (w.heap.size + 0) (by rw [s3]; omega)] at h
    rw [← Below.heap_alloc ((((w.alloc o0).alloc o1).alloc o2).alloc o3) o4 (w.heap.size + 0) (by rw [s4]; omega)] at h
    rw [← Below.heap_alloc (((((w.alloc o0).alloc o1).alloc o2).alloc o3).alloc o4) o5 (w.heap.size + 0) (by rw [s5]; omega)] at h
    exact h
  · have h := heap_alloc_new (w.alloc o0) o1
    rw [s1] at h
    rw [← Below.heap_alloc ((w.alloc o0).alloc o1) o2 (w.heap.size + 1) (by rw [s2]; omega)] at h
    rw [← Below.heap_alloc (((w.alloc o0).alloc o1).alloc o2) o3 (w.heap.size + 1) (by rw [s3]; omega)] at h
    rw [← Below.heap_alloc ((((w.alloc o0).alloc o1).alloc o2).alloc o3) o4 (w.heap.size + 1) (by rw [s4]; omega)] at h
    rw [← Below.heap_alloc (((((w.alloc o0).alloc o1).alloc o2).alloc o3).alloc o4) o5 (w.heap.size + 1) (by rw [s5]; omega)] at h
    exact h
  · have h := heap_alloc_new ((w.alloc o0).alloc o1) o2
    rw [s2] at h
    rw [← Below.heap_alloc (((w.alloc o0).alloc o1).alloc o2) o3 (w.heap.size + 2) (by rw [s3]; omega)] at h
    rw [← Below.heap_alloc ((((w.alloc o0).alloc o1).alloc o2).alloc o3) o4 (w.heap.size + 2) (by rw [s4]; omega)] at h
    rw [← Below.heap_alloc (((((w.alloc o0).alloc o1).alloc o2).alloc o3).alloc o4) o5 (w.heap.size + 2) (by rw [s5]; omega)] at h
    exact h
  · have h := heap_alloc_new (((w.alloc o0).alloc o1).alloc o2) o3
    rw [s3] at h
    rw [← Below.heap_alloc ((((w.alloc o0).alloc o1).alloc o2).alloc o3) o4 (w.heap.size + 3) (by rw [s4]; omega)] at h
    rw [← Below.heap_alloc (((((w.alloc o0).alloc o1).alloc o2).alloc o3).alloc o4) o5 (w.heap.size + 3) (by rw [s5]; omega)] at h
    exact h
  · have h := heap_alloc_new ((((w.alloc o0).alloc o1).alloc o2).alloc o3) o4
    rw [s4] at h
    rw [← Below.heap_alloc (((((w.alloc o0).alloc o1).alloc o2).alloc o3).alloc o4) o5 (w.heap.size + 4) (by rw [s5]; omega)] at h
    exact h
  · have h := heap_alloc_new (((((w.alloc o0).alloc o1).alloc o2).alloc o3).alloc o4) o5
    rw [s5] at h
    exact h
set_option maxHeartbeats 2000000 in
theorem l3Whats_any (w : World) : Calls Tryd.prog 116 #[] w fun e w' => ∃ (g : Nat) (gs : Nat → Nat), e = .returned (.slice (some ⟨g, 0, none⟩) 5 5) ∧ (∀ k, k < 5 → w'.cell? ⟨g, k, none⟩ = some (.slice (some ⟨gs k, 0, none⟩) (WL k).length (WL k).length) ∧ Blk w' (gs k) 9 (strs ((WL k).map mk)) ∧ gs k < w'.heap.size) ∧ Below w.heap.size w w' := by
  go_enter Tryd.func116, Tryd.ntmps116
  go_wp2_with fail
  go_ret
  refine ⟨_, fun k => w.heap.size + k, rfl, fun k hk => ?_, (by repeat (first | exact Below.refl _ _ | refine below_drewN ?_ _ | refine Below.drew ?_ | refine Below.alloc ?_ (by first | omega | (simp; done) | (simp; omega)) _ | refine Below.setCell ?_ (by first | omega | (simp; done) | (simp; omega)) _))⟩
  obtain ⟨b0, b1, b2, b3, b4, b5⟩ := six_new w _ _ _ _ _ _
  have B5 := b5
  refine ⟨?_, ?_, ?_⟩
  · refine (Blk.cell (t := 40) (cs := [_, _, _, _, _]) B5 k).trans ?_
    rcases (show k = 0 ∨ k = 1 ∨ k = 2 ∨ k = 3 ∨ k = 4 by omega) with rfl | rfl | rfl | rfl | rfl <;> rfl
  · rcases (show k = 0 ∨ k = 1 ∨ k = 2 ∨ k = 3 ∨ k = 4 by omega) with rfl | rfl | rfl | rfl | rfl
    · exact b0
    · exact b1
    · exact b2
    · exact b3
    · exact b4
  · simp; omega
set_option maxHeartbeats 4000000 in
theorem l3Family_any (s : ByteArray) (w : World) : Calls Tryd.prog 60 #[.string s] w fun e w' => e = .returned (.int .i64 (famI s)) ∧ Below w.heap.size w w' := by
  go_enter Tryd.func60, Tryd.ntmps60
  go_wp2_with fail
  refine (l3Whats_any _).mono ?_
  rintro e w1 ⟨g, gs, rfl, hc, hb⟩
  have HC := Lib.hid hc
  clear hc
  go_wp2_with fail
  go_loop [4] (fun i => ∃ k : Nat, k ≤ 5 ∧ i = .int .i64 k ∧ Hid (∀ e, e < k → inB (WL e) s = false)) (fun i => 5 - (intOf i).toNat)
  case atStart => exact ⟨0, Nat.zero_le _, rfl, (fun j h => absurd h (by omega))⟩
  case round =>
    obtain ⟨k, hk, rfl, HN⟩ := hrel
    by_cases hlt : k < 5
    · obtain ⟨cell, B, hgl⟩ := HC.out k hlt
      have hwl := WL_len hlt
      have R := B.rd2 (n := (WL k).length) (by rw [strs_len, List.length_map]) hgl
      have HR := Lib.hid R
      have HX := Lib.hid (inB_idx (WL k) s)
      clear R B
      have HW := Lib.hid hwl
      generalize hn : (WL k).length = n at cell HR HW
      clear hn hwl
      go_wp2_with fail
      refine (l3At_any HR.out (by have := HW.out; omega)).mono ?_
      rintro e w2 ⟨rfl, rfl⟩
      cases hin : inB (WL k) s
      · have HI := Lib.hid hin
        have hlo : ¬ 0 ≤ Lib.idxOfS ((WL k).map mk) s := by
          have := HX.out
          rw [hin] at this
          simpa using this
        have hld : decide (0 ≤ Lib.idxOfS ((WL k).map mk) s) = false := by simpa using hlo
        generalize Lib.idxOfS ((WL k).map mk) s = ix at *
        clear HX hin
        go_wp2_with fail
        go_round
        case rel => exact ⟨k + 1, by omega, by go_num, (show ∀ e, e < k + 1 → inB (WL e) s = false from fun e he => by
          by_cases ee : e = k
          · subst ee; exact HI.out
          · exact HN.out e (by omega))⟩
        case measure => simp [intOf]; omega
      · have HI := Lib.hid hin
        have hlo : 0 ≤ Lib.idxOfS ((WL k).map mk) s := by
          have := HX.out
          rw [hin] at this
          simpa using this
        generalize Lib.idxOfS ((WL k).map mk) s = ix at *
        have HF := Lib.hid (famI_hit hlt HN.out HI.out)
        clear HX hin
        go_wp2_with fail
        go_ret
        exact ⟨ret_int HF.out.symm, hb⟩
    · obtain rfl : k = 5 := by omega
      have HF := Lib.hid (famI_miss HN.out)
      go_wp2_with fail
      go_ret
      exact ⟨ret_int HF.out.symm, hb⟩
def sfOk (s : ByteArray) : Bool := decide (0 ≤ famI s)
def sfR (s : ByteArray) : List ByteArray := if sfOk s = true then (sidL (famI s)).map mk else []
theorem sfR_b (s : ByteArray) : (sfR s).length ≤ 1000 := by
  unfold sfR
  split
  · have := (sidL_len (famI s)).1; rw [List.length_map]; omega
  · simp
set_option maxRecDepth 100000 in
set_option maxHeartbeats 2000000 in
theorem SidesFor_impl (s : ByteArray) (w : World) : Calls Tryd.prog 21 #[.string s] w fun e w' => ∃ A cp, e = .returned (.tuple #[.slice A (sfR s).length cp, .bool (sfOk s)]) ∧ w'.ownsRow w.heap.size 9 1 (.slice A (sfR s).length cp) (sfR s).length (strs (sfR s)) ∧ Below w.heap.size w w' := by
  by_cases h : 0 ≤ famI s
  · have e1 : sfOk s = true := by unfold sfOk; simpa using h
    have e2 : sfR s = (sidL (famI s)).map mk := by unfold sfR; rw [e1]; rfl
    have hn : ¬ famI s < 0 := by omega
    have hnd : decide (famI s < 0) = false := by simp; omega
    rw [e1, e2, List.length_map]
    clear e1 e2
    generalize hf : famI s = f at *
    have HF := Lib.hid hf
    clear hf
    go_enter Tryd.func21, Tryd.ntmps21
    go_wp2_with fail
    refine (familyOf_any s _).mono ?_
    rintro e w1 ⟨rfl, rfl⟩
    rw [HF.out]
    go_wp2_with fail
    refine (sidesFor_any f _).mono ?_
    rintro e w9 ⟨A, cp, rfl, O9, hb⟩
    have O8 := O9
    have G := hb
    clear O9 hb
    go_wp2_with fail
    go_ret2
    exact ⟨A, cp, rfl, O8, G⟩
  · have e1 : sfOk s = false := by unfold sfOk; simpa using h
    have e2 : sfR s = [] := by unfold sfR; rw [e1]; rfl
    have hn : famI s < 0 := by omega
    rw [e1, e2]
    clear e1 e2
    generalize hf : famI s = f at *
    have HF := Lib.hid hf
    clear hf
    go_enter Tryd.func21, Tryd.ntmps21
    go_wp2_with fail
    refine (familyOf_any s _).mono ?_
    rintro e w1 ⟨rfl, rfl⟩
    rw [HF.out]
    go_wp2_with fail
    go_ret2
    exact ⟨none, 0, rfl, World.ownsRow_nil _ _ _ _, Below.refl _ _⟩
set_option maxRecDepth 100000 in
set_option maxHeartbeats 2000000 in
theorem SidesFor_spec (s : ByteArray) (w : World) : Calls Tryd.prog 22 #[.string s] w fun e w' => ∃ A cp, e = .returned (.tuple #[.slice A (sfR s).length cp, .bool (sfOk s)]) ∧ w'.ownsRow w.heap.size 9 1 (.slice A (sfR s).length cp) (sfR s).length (strs (sfR s)) ∧ Below w.heap.size w w' := by
  by_cases h : 0 ≤ famI s
  · have e1 : sfOk s = true := by unfold sfOk; simpa using h
    have e2 : sfR s = (sidL (famI s)).map mk := by unfold sfR; rw [e1]; rfl
    have hn : ¬ famI s < 0 := by omega
    have hnd : decide (famI s < 0) = false := by simp; omega
    rw [e1, e2, List.length_map]
    clear e1 e2
    generalize hf : famI s = f at *
    have HF := Lib.hid hf
    clear hf
    go_enter Tryd.func22, Tryd.ntmps22
    go_wp2_with fail
    refine (l3Family_any s _).mono ?_
    rintro e w1 ⟨rfl, hb1⟩
    rw [HF.out]
    go_wp2_with fail
    refine (l3Family_any s _).mono ?_
    rintro e w2 ⟨rfl, hb2⟩
    rw [HF.out]
    go_wp2_with fail
    refine (l3Sides_any f _).mono ?_
    rintro e w9 ⟨A, cp, rfl, O9, hb⟩
    have O8 := own_le O9 (Nat.le_trans hb1.size hb2.size)
    have G := (hb1.trans (hb2.mono hb1.size)).trans (hb.mono (Nat.le_trans hb1.size hb2.size))
    clear O9 hb
    go_wp2_with fail
    go_ret2
    exact ⟨A, cp, rfl, O8, G⟩
  · have e1 : sfOk s = false := by unfold sfOk; simpa using h
    have e2 : sfR s = [] := by unfold sfR; rw [e1]; rfl
    have hn : famI s < 0 := by omega
    rw [e1, e2]
    clear e1 e2
    generalize hf : famI s = f at *
    have HF := Lib.hid hf
    clear hf
    go_enter Tryd.func22, Tryd.ntmps22
    go_wp2_with fail
    refine (l3Family_any s _).mono ?_
    rintro e w1 ⟨rfl, hb1⟩
    rw [HF.out]
    go_wp2_with fail
    go_ret2
    exact ⟨_, 0, rfl, World.ownsRow_lit _ #[] 0 hb1.size (by simp) rfl, hb1.alloc hb1.size _⟩
end Go.Proofs.YtmmpcchjalgokaaDoor
