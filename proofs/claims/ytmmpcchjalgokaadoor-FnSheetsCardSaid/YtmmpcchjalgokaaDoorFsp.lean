/- Plain laws for FnSheets: a line for each feature, families counted whole, every side can be used. -/
import Derived.Test.YtmmpcchjalgokaaDoorPfp
import Derived.Test.YtmmpcchjalgokaaDoorSht
namespace Go.Proofs.YtmmpcchjalgokaaDoor
set_option linter.unusedVariables false
set_option linter.unusedSimpArgs false
open Go.RowKit
def cnt10 (s : ByteArray) : Nat := s.data.toList.count 10
theorem cnt_app (a b : ByteArray) : cnt10 (a ++ b) = cnt10 a + cnt10 b := by
  unfold cnt10
  rw [ByteArray.data_append, Array.toList_append, List.count_append]
theorem cnt_no {s : ByteArray} (h : NoB s 10) : cnt10 s = 0 := by
  unfold cnt10
  rw [List.count_eq_zero]
  intro hm
  obtain ⟨k, hk⟩ := List.mem_iff_getElem?.1 hm
  exact h k hk
theorem noB10 {ws : List Bs} (h : (ws.all fun l => decide ((10 : UInt8) ∉ l)) = true) {x : ByteArray} (hx : inB ws x = true) : NoB x 10 := by
  obtain ⟨l, hl, rfl⟩ := inB_mem hx
  rw [List.all_eq_true] at h
  have h1 := h l hl
  rw [decide_eq_true_eq] at h1
  exact NoB.mem fun y hy e => h1 (e ▸ (by simpa [mk] using hy))
theorem noB_nil {s : ByteArray} {b : UInt8} (h : nonB s = true) : NoB s b := by rw [nonB_iff.1 h]; exact NoB.nil b
theorem ftB_line {f : Ft} (h : okFt f = true) : NoB (ftB f) 10 := by
  have h0 := h
  unfold okFt at h
  rw [Bool.and_eq_true] at h
  obtain ⟨hA, hS⟩ := h
  obtain ⟨h1, h2, h3, h4⟩ := bigS hA
  have c : NoB (itoaB f.code) 10 := NoB.low45 _ (by decide)
  have sp : NoB (⟨#[32]⟩ : ByteArray) 10 := NoB.mem (by decide)
  have sd : NoB (⟨#[32, 115, 105, 100, 101, 32]⟩ : ByteArray) 10 := NoB.mem (by decide)
  have nl : NoB (⟨#[]⟩ : ByteArray) 10 := NoB.nil 10
  have wh : NoB f.which 10 := by
    rcases h3 with h9 | h9
    · exact noB_nil h9
    · exact noB10 (ws := whichL) (by decide) h9
  have lo : NoB f.look 10 := by
    rcases h4 with h9 | h9
    · exact noB_nil h9
    · exact noB10 (ws := lookL) (by decide) h9
  have wt : NoB f.what 10 := by
    obtain ⟨k, hk, h⟩ := famI_word h2
    rcases (show k = 0 ∨ k = 1 ∨ k = 2 ∨ k = 3 ∨ k = 4 by omega) with rfl | rfl | rfl | rfl | rfl <;> exact noB10 (by decide) h
  have si : NoB f.side 10 := by
    unfold okS at hS
    rw [Bool.or_eq_true] at hS
    rcases hS with h9 | h9
    · exact noB_nil h9
    · rw [Bool.and_eq_true] at h9
      obtain ⟨l, hl, e⟩ := inB_mem h9.1
      refine noB10 (ws := allSL) (by decide) ?_
      unfold inB
      rw [List.any_eq_true]
      exact ⟨l, sidL_all _ l hl, by rw [beq_mk, e]; simp⟩
  have a1 : NoB (t1 f) 10 := by
    unfold t1; split
    · exact nl
    · exact (nl.app sp).app wh
  have a2 : NoB (t2 f) 10 := by
    unfold t2; split
    · exact a1
    · exact (a1.app sp).app lo
  unfold ftB l3T
  split
  · exact c.app ((a2.app sp).app wt)
  · exact c.app ((((a2.app sp).app wt).app sd).app si)
theorem shK_lines {l : List Ft} : ∀ k, (∀ j, j < k → okFt (ftA l j) = true) → cnt10 (shK l k) = k
  | 0, _ => rfl
  | k + 1, hok => by
    have ih := shK_lines (l := l) k (fun j hj => hok j (by omega))
    have e1 : cnt10 (itoaB ((k : Int) + 1)) = 0 := cnt_no (NoB.low45 _ (by decide))
    have e2 : cnt10 (⟨#[46, 32]⟩ : ByteArray) = 0 := by decide
    have e3 : cnt10 (ftB (ftA l k)) = 0 := cnt_no (ftB_line (hok k (by omega)))
    have e4 : cnt10 (⟨#[10]⟩ : ByteArray) = 1 := by decide
    rw [shK, cnt_app, cnt_app, cnt_app, cnt_app, ih, e1, e2, e3, e4]
theorem sh_ok {l : List Ft} (h : shOk l = true) : okFts l = true := by
  unfold shOk at h
  rw [Bool.and_eq_true] at h
  exact h.1
theorem sh_lines {l : List Ft} (h : shOk l = true) : cnt10 (shV l) = l.length := by
  have h1 := okFts_iff.1 (sh_ok h)
  rw [sh_v h]
  refine shK_lines _ fun j hj => ?_
  rw [ftA_get hj]
  exact h1.2 _ (List.getElem_mem hj)
theorem cf_sum : ∀ l : List Ft, (∀ f ∈ l, famN f < 5) → cfE l 0 + cfE l 1 + cfE l 2 + cfE l 3 + cfE l 4 = (l.length : Int)
  | [], _ => rfl
  | f :: l, h => by
    have ih := cf_sum l (fun g hg => h g (List.mem_cons_of_mem _ hg))
    have h5 := h f (List.mem_cons_self ..)
    have hc : ∀ e, cfE (f :: l) e = cfE l e + (if famN f = e then 1 else 0) := by
      intro e
      unfold cfE
      rw [List.filter_cons]
      by_cases h9 : famN f = e
      · simp [h9]
      · have : (famN f == e) = false := by simpa using h9
        simp [this, h9]
    simp only [hc, List.length_cons]
    rcases (show famN f = 0 ∨ famN f = 1 ∨ famN f = 2 ∨ famN f = 3 ∨ famN f = 4 by omega) with e | e | e | e | e <;> simp [e] <;> omega
theorem ct_sum {l : List Ft} (h : okFts l = true) : ctR l = cfL l ∧ cfE l 0 + cfE l 1 + cfE l 2 + cfE l 3 + cfE l 4 = (l.length : Int) := by
  constructor
  · unfold ctR; rw [if_pos h]
  · exact cf_sum l fun f hf => (famN_int ((okFts_iff.1 h).2 f hf)).2
theorem side_used {s : ByteArray} {i : Nat} (h : i < (sfR s).length) : okFt ⟨50, ⟨#[]⟩, s, ⟨#[]⟩, (sfR s)[i]⟩ = true := by
  have hk : sfOk s = true := by
    cases h9 : sfOk s
    · unfold sfR at h; rw [h9] at h; simp at h
    · rfl
  have e : sfR s = (sidL (famI s)).map mk := by unfold sfR; rw [if_pos hk]
  have hm0 := List.getElem_mem h
  generalize (sfR s)[i] = x at *
  have hm : inB (sidL (famI s)) x = true := by
    rw [e] at hm0
    obtain ⟨l, hl, e2⟩ := List.mem_map.1 hm0
    unfold inB
    rw [List.any_eq_true]
    exact ⟨l, hl, by rw [beq_mk, e2]; simp⟩
  unfold okFt okA okS
  have n0 : nonB (⟨#[]⟩ : ByteArray) = true := nonB_iff.2 rfl
  unfold sfOk at hk
  simp only [hm, n0, hk, Bool.true_or, Bool.and_true, Bool.or_true, Bool.true_and]
  decide
end Go.Proofs.YtmmpcchjalgokaaDoor
