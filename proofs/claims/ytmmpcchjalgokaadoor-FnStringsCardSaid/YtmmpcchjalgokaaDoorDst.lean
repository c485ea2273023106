/- The reference's draws of strings. -/
import Derived.Test.YtmmpcchjalgokaaDoorCux
import Derived.Test.YtmmpcchjalgokaaDoorApp
import Derived.Test.YtmmpcchjalgokaaDoorSstr
import Derived.Laws.BytesArg
import Derived.Deep.OwnRows
namespace Go.Proofs.YtmmpcchjalgokaaDoor
set_option linter.unusedVariables false
set_option linter.unusedSimpArgs false
open Go.RowKit
def anyL : List ByteArray := [bsn [], bsn [97], bsn [97, 44, 98], bsn [115, 111, 109, 101, 32, 119, 111, 114, 100, 115], bsn [120, 35, 121], bsn [45, 49, 50], bsn [0, 255], bsn [44, 44], bsn [48]]
theorem anyL_sz : ∀ s ∈ anyL, s.size ≤ 20 := by decide
theorem ssz_snoc (l : List ByteArray) (s : ByteArray) : ssz (l ++ [s]) = ssz l + s.size := by simp [ssz]
theorem strs_snoc (l : List ByteArray) (s : ByteArray) : strs l ++ [Value.string s] = strs (l ++ [s]) := by simp [strs]
set_option maxHeartbeats 1000000 in
theorem any1_any {b g : Nat} {k : Int} {w : World} (K : Cur w b g k) (hk : k ≤ 800000) :
    Calls Tryd.prog 95 #[.pointer (some ⟨g, 0, none⟩)] w fun e w' => ∃ s : ByteArray, s.size ≤ 20 ∧ e = .returned (.string s) ∧ Cur w' b g (k + 2) ∧ Ch (fun j => j = g) w w' := by
  have hg := K.lt.1
  go_enter Tryd.func95, Tryd.ntmps95
  go_wp2_with fail
  refine (of_any (xs := anyL) (n := 9) (K.alloc _) (by omega) (Blk.new w _ _) (by omega) rfl (by omega) (by omega)).mono ?_
  rintro e w1 ⟨s, hs, rfl, K1, hc1⟩
  have hsz := anyL_sz s hs
  go_wp2_with fail
  go_ret
  exact ⟨s, hsz, rfl, K1, (ch_alloc (ch_refl w) _).trans hc1⟩
theorem byte_info : (Tryd.prog.info? 5).map (fun i => (i.zero, i.size, i.bytes)) = some (some (.int .u8 0), 1, 1) := by kernel_rfl
theorem made_string {n : Nat} (hn : n ≤ 5000) (w : World) :
    (Instr.makeSlice 28 (.int .i64 (n : Int)) (.int .i64 (n : Int))).run Tryd.prog w = .ok (.slice (some ⟨w.heap.size, 0, none⟩) n n) (w.alloc (.cells (madeCells #[.int .u8 0] n) 5)) ∧
    (convert 28 9 (.slice (some ⟨w.heap.size, 0, none⟩) n n)).run Tryd.prog (w.alloc (.cells (madeCells #[.int .u8 0] n) 5)) = .ok (.string (strOfNums (List.replicate n 0))) (w.alloc (.cells (madeCells #[.int .u8 0] n) 5)) := by
  constructor
  · exact run_make_row' (P := Tryd.prog) 28 5 (.int .u8 0) 1 (by kernel_rfl) byte_info rfl .i64 .i64 n (by omega) (by omega) w
  · refine run_convert_bytes_arg _ 28 5 (by kernel_rfl) (by kernel_rfl) w.heap.size 0 n n (List.replicate n 0) (by simp) ?_ 9 (by kernel_rfl)
    intro i hi
    rw [World.cell?_alloc_mark]
    simp [madeCells, List.getD, hi, Nat.mod_one]
theorem made_size (n : Nat) : (strOfNums (List.replicate n 0)).size = n := by rw [strOfNums_size]; simp
end Go.Proofs.YtmmpcchjalgokaaDoor
