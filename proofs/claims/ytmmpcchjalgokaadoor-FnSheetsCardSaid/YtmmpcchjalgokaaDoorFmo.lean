/- Contracts: FamilyOf, the program's and the reference's; what the variable 'families' holds. -/
import Derived.Test.YtmmpcchjalgokaaDoorSid
namespace Go.Proofs.YtmmpcchjalgokaaDoor
set_option linter.unusedVariables false
set_option linter.unusedSimpArgs false
open Go.RowKit
def FN : Nat → Bs
  | 0 => [114, 105, 115, 101]
  | 1 => [104, 111, 108, 101]
  | 2 => [114, 111, 99, 107]
  | 3 => [119, 97, 116, 101, 114]
  | _ => [108, 105, 110, 101]
def fmOk (s : ByteArray) : Bool := decide (0 ≤ famI s)
def fmV (s : ByteArray) : ByteArray := if 0 ≤ famI s then mk (FN (famI s).toNat) else ⟨#[]⟩
theorem fm_not {s : ByteArray} (h : famI s = -1) : fmOk s = false ∧ fmV s = ⟨#[]⟩ := by unfold fmOk fmV; rw [h]; exact ⟨rfl, rfl⟩
theorem fm_at {s : ByteArray} {k : Nat} (h : famI s = k) : fmOk s = true ∧ fmV s = mk (FN k) := by unfold fmOk fmV; rw [h, if_pos (by omega)]; exact ⟨by simp, rfl⟩
theorem famI_all (s : ByteArray) : famI s = -1 ∨ famI s = (0 : Nat) ∨ famI s = (1 : Nat) ∨ famI s = (2 : Nat) ∨ famI s = (3 : Nat) ∨ famI s = (4 : Nat) := by have := famI_bd s; omega
/-- The variable 'families' holds the families' words. -/
def Fams (w : World) : Prop := w.cell? ⟨0, 0, none⟩ = some (.string (mk (FN 0))) ∧ w.cell? ⟨0, 1, none⟩ = some (.string (mk (FN 1))) ∧ w.cell? ⟨0, 2, none⟩ = some (.string (mk (FN 2))) ∧ w.cell? ⟨0, 3, none⟩ = some (.string (mk (FN 3))) ∧ w.cell? ⟨0, 4, none⟩ = some (.string (mk (FN 4)))
theorem cell_lt {w : World} {g i : Nat} {v : Value} (h : w.cell? ⟨g, i, none⟩ = some v) : g < w.heap.size := by
  rcases Nat.lt_or_ge g w.heap.size with h1 | h1
  · exact h1
  · exfalso
    unfold World.cell? at h
    rw [Array.getElem?_eq_none h1] at h
    simp at h
theorem Fams.on {w w' : World} (h : Fams w) (hb : Below w.heap.size w w') : Fams w' := by
  obtain ⟨h0, h1, h2, h3, h4⟩ := h
  exact ⟨(hb.cell (p := ⟨_, _, _⟩) (cell_lt h0)).trans h0, (hb.cell (p := ⟨_, _, _⟩) (cell_lt h1)).trans h1, (hb.cell (p := ⟨_, _, _⟩) (cell_lt h2)).trans h2, (hb.cell (p := ⟨_, _, _⟩) (cell_lt h3)).trans h3, (hb.cell (p := ⟨_, _, _⟩) (cell_lt h4)).trans h4⟩
set_option maxRecDepth 100000 in
set_option maxHeartbeats 2000000 in
theorem FamilyOf_impl {s : ByteArray} {w : World} (V : Fams w) : Calls Tryd.prog 25 #[.string s] w fun e w' => e = .returned (.tuple #[.string (fmV s), .bool (fmOk s)]) ∧ Below w.heap.size w w' := by
  obtain ⟨c0, c1, c2, c3, c4⟩ := V
  rcases famI_all s with h | h | h | h | h | h
  · obtain ⟨e1, e2⟩ := fm_not h
    rw [e1, e2]
    have HF := Lib.hid h
    clear e1 e2 h
    go_enter Tryd.func25, Tryd.ntmps25
    go_wp2_with fail
    refine (familyOf_any s _).mono ?_
    rintro e w1 ⟨rfl, hb⟩
    rw [HF.out]
    subst hb
    go_wp2_with fail
    go_ret2
    exact ⟨rfl, Below.refl _ _⟩
  · obtain ⟨e1, e2⟩ := fm_at h
    rw [e1, e2]
    have HF := Lib.hid h
    clear e1 e2 h
    go_enter Tryd.func25, Tryd.ntmps25
    go_wp2_with fail
    refine (familyOf_any s _).mono ?_
    rintro e w1 ⟨rfl, hb⟩
    rw [HF.out]
    subst hb
    go_wp2_with fail
    go_ret2
    exact ⟨rfl, Below.refl _ _⟩
  · obtain ⟨e1, e2⟩ := fm_at h
    rw [e1, e2]
    have HF := Lib.hid h
    clear e1 e2 h
    go_enter Tryd.func25, Tryd.ntmps25
    go_wp2_with fail
    refine (familyOf_any s _).mono ?_
    rintro e w1 ⟨rfl, hb⟩
    rw [HF.out]
    subst hb
    go_wp2_with fail
    go_ret2
    exact ⟨rfl, Below.refl _ _⟩
  · obtain ⟨e1, e2⟩ := fm_at h
    rw [e1, e2]
    have HF := Lib.hid h
    clear e1 e2 h
    go_enter Tryd.func25, Tryd.ntmps25
    go_wp2_with fail
    refine (familyOf_any s _).mono ?_
    rintro e w1 ⟨rfl, hb⟩
    rw [HF.out]
    subst hb
    go_wp2_with fail
    go_ret2
    exact ⟨rfl, Below.refl _ _⟩
  · obtain ⟨e1, e2⟩ := fm_at h
    rw [e1, e2]
    have HF := Lib.hid h
    clear e1 e2 h
    go_enter Tryd.func25, Tryd.ntmps25
    go_wp2_with fail
    refine (familyOf_any s _).mono ?_
    rintro e w1 ⟨rfl, hb⟩
    rw [HF.out]
    subst hb
    go_wp2_with fail
    go_ret2
    exact ⟨rfl, Below.refl _ _⟩
  · obtain ⟨e1, e2⟩ := fm_at h
    rw [e1, e2]
    have HF := Lib.hid h
    clear e1 e2 h
    go_enter Tryd.func25, Tryd.ntmps25
    go_wp2_with fail
    refine (familyOf_any s _).mono ?_
    rintro e w1 ⟨rfl, hb⟩
    rw [HF.out]
    subst hb
    go_wp2_with fail
    go_ret2
    exact ⟨rfl, Below.refl _ _⟩
set_option maxRecDepth 100000 in
set_option maxHeartbeats 2000000 in
theorem FamilyOf_spec {s : ByteArray} {w : World} : Calls Tryd.prog 26 #[.string s] w fun e w' => e = .returned (.tuple #[.string (fmV s), .bool (fmOk s)]) ∧ Below w.heap.size w w' := by
  rcases famI_all s with h | h | h | h | h | h
  · obtain ⟨e1, e2⟩ := fm_not h
    rw [e1, e2]
    have HF := Lib.hid h
    clear e1 e2 h
    go_enter Tryd.func26, Tryd.ntmps26
    go_wp2_with fail
    refine (l3Family_any s _).mono ?_
    rintro e w1 ⟨rfl, hb⟩
    rw [HF.out]
    go_wp2_with fail
    go_ret2
    exact ⟨rfl, hb⟩
  · obtain ⟨e1, e2⟩ := fm_at h
    rw [e1, e2]
    have HF := Lib.hid h
    clear e1 e2 h
    go_enter Tryd.func26, Tryd.ntmps26
    go_wp2_with fail
    refine (l3Family_any s _).mono ?_
    rintro e w1 ⟨rfl, hb⟩
    rw [HF.out]
    have G0 := hb.alloc hb.size (.cells #[.string (mk (FN 0)), .string (mk (FN 1)), .string (mk (FN 2)), .string (mk (FN 3)), .string (mk (FN 4))] 9)
    have K0 := Blk.new w1 9 [.string (mk (FN 0)), .string (mk (FN 1)), .string (mk (FN 2)), .string (mk (FN 3)), .string (mk (FN 4))]
    go_wp2_with fail
    refine (l3Family_any s _).mono ?_
    rintro e w2 ⟨rfl, hb2⟩
    rw [HF.out]
    have G9 := G0.trans (hb2.mono G0.size)
    have K := K0.on hb2
    obtain ⟨x0, x1, x2, x3, x4⟩ := blk5 K
    clear hb hb2
    go_wp2_with fail
    go_ret2
    exact ⟨rfl, G9⟩
  · obtain ⟨e1, e2⟩ := fm_at h
    rw [e1, e2]
    have HF := Lib.hid h
    clear e1 e2 h
    go_enter Tryd.func26, Tryd.ntmps26
    go_wp2_with fail
    refine (l3Family_any s _).mono ?_
    rintro e w1 ⟨rfl, hb⟩
    rw [HF.out]
    have G0 := hb.alloc hb.size (.cells #[.string (mk (FN 0)), .string (mk (FN 1)), .string (mk (FN 2)), .string (mk (FN 3)), .string (mk (FN 4))] 9)
    have K0 := Blk.new w1 9 [.string (mk (FN 0)), .string (mk (FN 1)), .string (mk (FN 2)), .string (mk (FN 3)), .string (mk (FN 4))]
    go_wp2_with fail
    refine (l3Family_any s _).mono ?_
    rintro e w2 ⟨rfl, hb2⟩
    rw [HF.out]
    have G9 := G0.trans (hb2.mono G0.size)
    have K := K0.on hb2
    obtain ⟨x0, x1, x2, x3, x4⟩ := blk5 K
    clear hb hb2
    go_wp2_with fail
    go_ret2
    exact ⟨rfl, G9⟩
  · obtain ⟨e1, e2⟩ := fm_at h
    rw [e1, e2]
    have HF := Lib.hid h
    clear e1 e2 h
    go_enter Tryd.func26, Tryd.ntmps26
    go_wp2_with fail
    refine (l3Family_any s _).mono ?_
    rintro e w1 ⟨rfl, hb⟩
    rw [HF.out]
    have G0 := hb.alloc hb.size (.cells #[.string (mk (FN 0)), .string (mk (FN 1)), .string (mk (FN 2)), .string (mk (FN 3)), .string (mk (FN 4))] 9)
    have K0 := Blk.new w1 9 [.string (mk (FN 0)), .string (mk (FN 1)), .string (mk (FN 2)), .string (mk (FN 3)), .string (mk (FN 4))]
    go_wp2_with fail
    refine (l3Family_any s _).mono ?_
    rintro e w2 ⟨rfl, hb2⟩
    rw [HF.out]
    have G9 := G0.trans (hb2.mono G0.size)
    have K := K0.on hb2
    obtain ⟨x0, x1, x2, x3, x4⟩ := blk5 K
    clear hb hb2
    go_wp2_with fail
    go_ret2
    exact ⟨rfl, G9⟩
  · obtain ⟨e1, e2⟩ := fm_at h
    rw [e1, e2]
    have HF := Lib.hid h
    clear e1 e2 h
    go_enter Tryd.func26, Tryd.ntmps26
    go_wp2_with fail
    refine (l3Family_any s _).mono ?_
    rintro e w1 ⟨rfl, hb⟩
    rw [HF.out]
    have G0 := hb.alloc hb.size (.cells #[.string (mk (FN 0)), .string (mk (FN 1)), .string (mk (FN 2)), .string (mk (FN 3)), .string (mk (FN 4))] 9)
    have K0 := Blk.new w1 9 [.string (mk (FN 0)), .string (mk (FN 1)), .string (mk (FN 2)), .string (mk (FN 3)), .string (mk (FN 4))]
    go_wp2_with fail
    refine (l3Family_any s _).mono ?_
    rintro e w2 ⟨rfl, hb2⟩
    rw [HF.out]
    have G9 := G0.trans (hb2.mono G0.size)
    have K := K0.on hb2
    obtain ⟨x0, x1, x2, x3, x4⟩ := blk5 K
    clear hb hb2
    go_wp2_with fail
    go_ret2
    exact ⟨rfl, G9⟩
  · obtain ⟨e1, e2⟩ := fm_at h
    rw [e1, e2]
    have HF := Lib.hid h
    clear e1 e2 h
    go_enter Tryd.func26, Tryd.ntmps26
    go_wp2_with fail
    refine (l3Family_any s _).mono ?_
    rintro e w1 ⟨rfl, hb⟩
    rw [HF.out]
    have G0 := hb.alloc hb.size (.cells #[.string (mk (FN 0)), .string (mk (FN 1)), .string (mk (FN 2)), .string (mk (FN 3)), .string (mk (FN 4))] 9)
    have K0 := Blk.new w1 9 [.string (mk (FN 0)), .string (mk (FN 1)), .string (mk (FN 2)), .string (mk (FN 3)), .string (mk (FN 4))]
    go_wp2_with fail
    refine (l3Family_any s _).mono ?_
    rintro e w2 ⟨rfl, hb2⟩
    rw [HF.out]
    have G9 := G0.trans (hb2.mono G0.size)
    have K := K0.on hb2
    obtain ⟨x0, x1, x2, x3, x4⟩ := blk5 K
    clear hb hb2
    go_wp2_with fail
    go_ret2
    exact ⟨rfl, G9⟩
end Go.Proofs.YtmmpcchjalgokaaDoor
