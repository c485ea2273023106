/- Plain laws for FnSplitJoin: a split text is joined again. -/
import Derived.Test.YtmmpcchjalgokaaCutJ
import Derived.Test.YtmmpcchjalgokaaJoin
namespace Go.Proofs.Ytmmpcchjalgokaa
set_option linter.unusedVariables false
set_option linter.unusedSimpArgs false
open Go.RowKit
theorem noB_hasB {s : ByteArray} {b : UInt8} (h : NoB s b) : hasB s b = false := hasB_no fun k _ => h k
theorem jo_cuts {s sep : ByteArray} (h1 : sep.size = 1) (hs : s.size ≤ 4000) : joOk (cuts s (sep.data.toList.getD 0 0)) sep = true ∧ joV (cuts s (sep.data.toList.getD 0 0)) sep = s := by
  generalize hb : sep.data.toList.getD 0 0 = b
  obtain ⟨c1, c2⟩ := cuts_clean b s.size s (Nat.le_refl _)
  have hl := (cuts_len s b).2
  have h9 : joOk (cuts s b) sep = true := by
    unfold joOk
    rw [hb, decide_eq_true h1]
    refine jo_yes (by omega) (fun j hj => noB_hasB (c1 _ (List.getElem_mem hj))) ?_
    unfold ssz
    omega
  refine ⟨h9, ?_⟩
  unfold joV
  rw [if_pos h9, hb]
  apply ByteArray.ext
  apply Array.ext'
  rw [jnK_join _ (Nat.le_refl _), List.take_length]
  have := congrArg (fun x : ByteArray => x.data.toList) (jnB_cuts b s.size s (Nat.le_refl _))
  unfold jnB at this
  simpa using this
end Go.Proofs.Ytmmpcchjalgokaa
