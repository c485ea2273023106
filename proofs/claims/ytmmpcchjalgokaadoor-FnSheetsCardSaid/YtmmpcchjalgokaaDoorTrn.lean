/- Contracts: TurnSides, the program's and the reference's. -/
import Derived.Test.YtmmpcchjalgokaaDoorFtl
namespace Go.Proofs.YtmmpcchjalgokaaDoor
set_option linter.unusedVariables false
set_option linter.unusedSimpArgs false
open Go.RowKit
def w4 : List Bs := [[110, 111, 114, 116, 104], [101, 97, 115, 116], [115, 111, 117, 116, 104], [119, 101, 115, 116]]
def w4B : List ByteArray := w4.map mk
def turnS (s : ByteArray) (q : Int) : ByteArray := if Lib.idxOfS w4B s < 0 then s else w4B.getD ((Lib.idxOfS w4B s + q) % 4).toNat ByteArray.empty
theorem idx_lt (s : ByteArray) : Lib.idxOfS w4B s < 4 ∧ -1 ≤ Lib.idxOfS w4B s := by
  by_cases h : inB w4 s = true
  · have hp := (idx_pos h).2.1
    have hm : s ∈ w4B := (Lib.idxOfS_nonneg_iff _ _).1 hp
    have h4 : w4B.length = 4 := rfl
    have hq : ∃ k, k < w4B.length ∧ w4B.getD k ByteArray.empty = s ∧ ∀ j, j < k → w4B.getD j ByteArray.empty ≠ s := by
      have hex : ∃ k, k < w4B.length ∧ w4B.getD k ByteArray.empty = s := by
        obtain ⟨k, hk, e⟩ := List.mem_iff_getElem.1 hm
        exact ⟨k, hk, by simp [List.getD, List.getElem?_eq_getElem hk, e]⟩
      by_cases h0 : w4B.getD 0 ByteArray.empty = s
      · exact ⟨0, by omega, h0, fun j hj => absurd hj (by omega)⟩
      by_cases h1 : w4B.getD 1 ByteArray.empty = s
      · exact ⟨1, by omega, h1, fun j hj => by obtain rfl : j = 0 := by omega
                                               exact h0⟩
      by_cases h2 : w4B.getD 2 ByteArray.empty = s
      · exact ⟨2, by omega, h2, fun j hj => by rcases (show j = 0 ∨ j = 1 by omega) with rfl | rfl <;> assumption⟩
      by_cases h3 : w4B.getD 3 ByteArray.empty = s
      · exact ⟨3, by omega, h3, fun j hj => by rcases (show j = 0 ∨ j = 1 ∨ j = 2 by omega) with rfl | rfl | rfl <;> assumption⟩
      · obtain ⟨k, hk, e⟩ := hex
        rcases (show k = 0 ∨ k = 1 ∨ k = 2 ∨ k = 3 by omega) with rfl | rfl | rfl | rfl <;> contradiction
    obtain ⟨k, hk, e, hn⟩ := hq
    have := Lib.idxFromS_hit s w4B k 0 hk e hn
    unfold Lib.idxOfS
    omega
  · have h' : inB w4 s = false := by simpa using h
    have hn := (idx_neg h').1
    have hmiss : Lib.idxOfS w4B s = -1 := by
      unfold Lib.idxOfS
      refine Lib.idxFromS_miss s w4B 0 fun j hj e => ?_
      have : s ∈ w4B := by
        rw [← e]
        simp only [List.getD, List.getElem?_eq_getElem hj, Option.getD_some]
        exact List.getElem_mem hj
      have := (Lib.idxOfS_nonneg_iff w4B s).2 this
      have hn' : Lib.idxOfS w4B s < 0 := hn
      omega
    omega
def ftZ : Ft := ⟨0, ⟨#[]⟩, ⟨#[]⟩, ⟨#[]⟩, ⟨#[]⟩⟩
def tsOk (f : Ft) (q : Int) : Bool := okFt f && insideB q 0 3
def tsF (f : Ft) (q : Int) : Ft := { f with which := turnS f.which q, side := turnS f.side q }
def tsR (f : Ft) (q : Int) : Ft := if tsOk f q = true then tsF f q else ftZ
def put5 (cs : List Value) (f : Ft) : List Value := ((((cs.set 0 (.int .i64 f.code)).set 1 (.string f.which)).set 2 (.string f.what)).set 3 (.string f.look)).set 4 (.string f.side)
theorem Blk.put5 {w : World} {g : Nat} {t : TypeId} {cs : List Value} (h : Blk w g t cs) (f : Ft) : Blk (World.setCell (World.setCell (World.setCell (World.setCell (World.setCell w ⟨g, 0, none⟩ (.int .i64 f.code)) ⟨g, 1, none⟩ (.string f.which)) ⟨g, 2, none⟩ (.string f.what)) ⟨g, 3, none⟩ (.string f.look)) ⟨g, 4, none⟩ (.string f.side)) g t (put5 cs f) := ((((h.set_ 0 _).set_ 1 _).set_ 2 _).set_ 3 _).set_ 4 _
theorem below_put5 {B g : Nat} {w0 w : World} (h : Below B w0 w) (hg : B ≤ g) (f : Ft) : Below B w0 (World.setCell (World.setCell (World.setCell (World.setCell (World.setCell w ⟨g, 0, none⟩ (.int .i64 f.code)) ⟨g, 1, none⟩ (.string f.which)) ⟨g, 2, none⟩ (.string f.what)) ⟨g, 3, none⟩ (.string f.look)) ⟨g, 4, none⟩ (.string f.side)) :=
  Below.setCell (Below.setCell (Below.setCell (Below.setCell (Below.setCell h hg _) hg _) hg _) hg _) hg _
theorem put5_cells (f g : Ft) : put5 f.cells g = g.cells := rfl
end Go.Proofs.YtmmpcchjalgokaaDoor
