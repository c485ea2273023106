/- The walk of FnExactSplitString. -/
import Derived.Test.YtcdkclcoagadnaaSplitString
import Derived.Test.YtcdkclcoagadnaaMark
namespace Go.Proofs.Ytcdkclcoagadnaa
set_option linter.unusedVariables false
set_option linter.unusedSimpArgs false
open Go.RowKit
set_option maxHeartbeats 2000000 in
theorem law_SplitString (w : World) {s sep : ByteArray} (hs : s.size ≤ maxLen) (hp : sep.size ≤ maxLen) :
    Calls Try.prog 7 #[.string s, .string sep] w fun e w' => e = .returned (.bool true) ∧ Below w.heap.size w w' := by
  have hs' := hs
  have hp' := hp
  unfold maxLen at hs' hp'
  by_cases q1 : (1048576 : Int) < (s.size : Int)
  · go_enter Try.func7, Try.ntmps7
    go_wp2
    go_ret
    exact ⟨rfl, Below.refl _ _⟩
  by_cases q2 : (1048576 : Int) < (sep.size : Int)
  · go_enter Try.func7, Try.ntmps7
    go_wp2
    go_ret
    exact ⟨rfl, Below.refl _ _⟩
  have hn : (splitR s sep).length ≤ 1048577 := by
    unfold splitR; split
    · have := (cuts_len s (sepB sep)).1; omega
    · simp
  generalize hR : splitR s sep = R at hn
  have HR := Lib.hid hR
  clear hR
  have hne : (splitOk s sep != splitOk s sep) = false := by simp
  go_enter Try.func7, Try.ntmps7
  go_wp2_with fail
  refine (SplitString_spec s sep _ hs hp).mono ?_
  rintro e w1 ⟨A0, c0, rfl, O1, b1⟩
  rw [HR.out] at O1 ⊢
  have G1 := b1
  go_wp2_with fail
  refine (SplitString_impl s sep _ hs hp).mono ?_
  rintro e w2 ⟨A1, c1, rfl, P2, b2⟩
  rw [HR.out] at P2 ⊢
  have O2 := own_below O1 b2
  have G2 := G1.trans (b2.mono G1.size)
  have sep1 : Value.ownBlock (.slice A0 R.length c0) = none ∨ Value.ownBlock (.slice A0 R.length c0) ≠ Value.ownBlock (.slice A1 R.length c1) := by
    cases h : Value.ownBlock (.slice A0 R.length c0) with
    | none => exact .inl rfl
    | some k =>
      right; intro h'
      have l1 := (O1.lt k h).2
      have l2 := (P2.lt k h'.symm).1
      omega
  have SEP := Lib.hid sep1
  have BP := Lib.hid (fun k hk => Nat.le_trans G1.size (P2.lt k hk).1)
  clear O1 b1 b2 sep1
  have hl2 : R.length ≤ maxLen := by simp only [maxLen]; omega
  go_wp2_with fail
  refine (eqStringS_same (Rd.of_own P2) (Rd.of_own O2) hl2).mono ?_
  rintro e w3 ⟨rfl, k3, rfl⟩
  go_wp2_with fail
  refine (markStringS_any (k := 1) (base := w1.heap.size) (show (w2.drewN k3).ownsRow _ _ _ _ _ _ from P2) (by omega) (by omega) (by omega)).mono ?_
  rintro e w4 ⟨rfl, P4, g4⟩
  have O4 := (show (w2.drewN k3).ownsRow _ _ _ _ _ _ from O2).kept g4 SEP.out
  have G4 := (below_drewN G2 k3).grown g4 (by simpa using G2.size) BP.out
  clear O2 P2 g4 G1 G2
  go_wp2_with fail
  refine (heldStringS_any (k := 1) (Rd.of_own P4) (by omega) (by omega) (by omega)).mono ?_
  rintro e w5 ⟨rfl, b5⟩
  have P5 := own_below P4 b5
  have O5 := own_below O4 b5
  have G5 := G4.trans (b5.mono G4.size)
  clear P4 O4 b5 G4
  have r1 : ((((1 : Nat) : Int) + (R.length : Int)) != (((1 : Nat) : Int) + (R.length : Int))) = false := by simp
  go_wp2_with fail
  refine (SplitString_impl s sep _ hs hp).mono ?_
  rintro e w6 ⟨A2, c2, rfl, Q6, b6⟩
  rw [HR.out] at Q6 ⊢
  have P6 := own_below P5 b6
  have O6 := own_below O5 b6
  have G6 := G5.trans (b6.mono G5.size)
  clear P5 O5 b6 G5
  go_wp2_with fail
  refine (eqStringS_same (Rd.of_own Q6) (Rd.of_own O6) hl2).mono ?_
  rintro e w7 ⟨rfl, k7, rfl⟩
  go_wp2_with fail
  refine (heldStringS_any (k := 1) (Rd.of_own (show (w6.drewN k7).ownsRow _ _ _ _ _ _ from P6)) (by omega) (by omega) (by omega)).mono ?_
  rintro e w8 ⟨rfl, b8⟩
  go_wp2_with fail
  go_ret
  exact ⟨rfl, (below_drewN G6 k7).trans (b8.mono (by simpa using G6.size))⟩
end Go.Proofs.Ytcdkclcoagadnaa
