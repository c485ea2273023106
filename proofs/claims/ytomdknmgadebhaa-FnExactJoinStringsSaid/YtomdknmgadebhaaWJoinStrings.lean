/- The walk of FnExactJoinStrings. -/
import Derived.Test.YtomdknmgadebhaaJoin
namespace Go.Proofs.Ytomdknmgadebhaa
set_option linter.unusedVariables false
set_option linter.unusedSimpArgs false
open Go.RowKit
theorem flat_strs : ∀ l : List ByteArray, (l.flatMap fun s => [Value.string s]) = strs l
  | [] => rfl
  | s :: l => by rw [List.flatMap_cons, flat_strs l]; rfl
set_option maxRecDepth 100000 in
set_option maxHeartbeats 2000000 in
theorem law_JoinStrings {R0 : Option Addr} {q0 c0 : Nat} {a0 : List ByteArray} {a1 : ByteArray} (w : World)
    (ha0 : q0 ≤ maxLen ∧ c0 ≤ maxLen ∧ a0.length = q0 ∧ Rd w w.heap.size 1 R0 q0 (a0.flatMap fun s => [Value.string s]) ∧ ∀ x ∈ a0, x.size ≤ maxLen) (hs : a1.size ≤ maxLen) :
    Calls Try.prog 3 #[.slice R0 q0 c0, .string a1] w fun e w' => e = .returned (.bool true) ∧ Below w.heap.size w w' := by
  obtain ⟨m0, _, hl0, hR9, hz0⟩ := ha0
  have e0 : (a0.flatMap fun s => [Value.string s]) = strs a0 := flat_strs a0
  rw [e0] at hR9
  have hR : Rd w w.heap.size 1 R0 q0 (strs a0) := hR9
  have HZ := Lib.hid hz0
  have HL := Lib.hid hl0
  clear hR9 e0 hz0 hl0
  unfold maxLen at hs
  by_cases hb1 : (1048576 : Int) < (a1.size : Int)
  · go_enter Try.func3, Try.ntmps3
    go_wp2_with fail
    go_ret
    exact ⟨rfl, Below.refl _ _⟩
  by_cases hbig : 1048576 < q0 + ssz a0
  · have hz9 : szT q0 (ssz a0) = -1 := by unfold szT; rw [if_pos hbig]
    go_enter Try.func3, Try.ntmps3
    go_wp2_with fail
    refine (szStringS_any hR m0 HZ.out).mono ?_
    rintro e w1 ⟨rfl, G⟩
    rw [hz9]
    go_wp2_with fail
    go_ret
    exact ⟨rfl, G⟩
  have hq : q0 ≤ 1048576 := by omega
  have hz9 : szT q0 (ssz a0) = 1048576 - (q0 : Int) - (ssz a0 : Int) := by unfold szT; rw [if_neg hbig]
  have hn9 : ¬ (1048576 - (q0 : Int) - (ssz a0 : Int)) < 0 := by omega
  have hd9 : decide ((1048576 - (q0 : Int) - (ssz a0 : Int)) < 0) = false := by simp; omega
  have v1 : ((joV a0 a1).toList != (joV a0 a1).toList) = false := by simp
  have v2 : (joOk a0 a1 != joOk a0 a1) = false := by simp
  generalize hv : joV a0 a1 = jv at *
  generalize ho : joOk a0 a1 = jo at *
  have HV := Lib.hid hv
  have HO := Lib.hid ho
  clear hv ho
  go_enter Try.func3, Try.ntmps3
  go_wp2_with fail
  refine (szStringS_any hR m0 HZ.out).mono ?_
  rintro e w1 ⟨rfl, G⟩
  rw [hz9]
  have hR1 := hR.on G
  go_wp2_with fail
  refine (toStringS_any hR1 (Nat.le_refl _) hq).mono ?_
  rintro e w2 ⟨rfl, rfl⟩
  have Sp := Blk.new w1 9 (strs a0)
  have G2 := G.alloc G.size (.cells (strs a0).toArray 9)
  generalize hw2 : w1.alloc (.cells (strs a0).toArray 9) = w2 at *
  have ltS := Sp.lt
  have hsl : (strs a0).length = q0 * 1 := by rw [strs_len, HL.out, Nat.mul_one]
  clear hw2
  go_wp2_with fail
  refine (JoinStrings_spec (Sp.rd (size := 1) hsl) hq (by omega) (by omega)).mono ?_
  rintro e w3 ⟨rfl, hb⟩
  rw [HV.out, HO.out]
  replace G2 := G2.trans (hb.mono G2.size)
  clear Sp ltS hb
  go_wp2_with fail
  refine (toStringS_any (hR.on G2) (Nat.le_refl _) hq).mono ?_
  rintro e w4 ⟨rfl, rfl⟩
  have Y := Blk.new w3 9 (strs a0)
  have G4 := G2.alloc G2.size (.cells (strs a0).toArray 9)
  generalize hw4 : w3.alloc (.cells (strs a0).toArray 9) = w4 at *
  clear hw4
  go_wp2_with fail
  refine (JoinStrings_impl (Y.rd (size := 1) hsl) hq (Nat.le_refl _) (by omega) (by omega)).mono ?_
  rintro e w5 ⟨rfl, hb⟩
  rw [HV.out, HO.out]
  replace Y := Y.on hb
  replace G4 := G4.trans (hb.mono G4.size)
  clear hb
  go_wp2_with fail
  refine (toStringS_any (hR.on G4) (Nat.le_refl _) hq).mono ?_
  rintro e w6 ⟨rfl, rfl⟩
  have X := Blk.new w5 9 (strs a0)
  have Y6 := Y.alloc (.cells (strs a0).toArray 9)
  have G6 := G4.alloc G4.size (.cells (strs a0).toArray 9)
  generalize hw6 : w5.alloc (.cells (strs a0).toArray 9) = w6 at *
  clear hw6
  go_wp2_with fail
  refine (eqStringS_one (Y6.rd (size := 1) hsl) (X.rd (size := 1) hsl) (by simp only [maxLen]; omega)).mono ?_
  rintro e w7 ⟨rfl, hb⟩
  replace G6 := G6.trans (hb.mono G6.size)
  go_wp2_with fail
  go_ret
  exact ⟨rfl, G6⟩
end Go.Proofs.Ytomdknmgadebhaa
