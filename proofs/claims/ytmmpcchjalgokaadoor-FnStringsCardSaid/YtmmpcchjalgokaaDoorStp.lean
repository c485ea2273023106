/- Plain laws for FnStrings: a sealed text is opened again, and a changed byte is found. -/
import Derived.Test.YtmmpcchjalgokaaDoorCutJ
import Derived.Test.YtmmpcchjalgokaaDoorVer
namespace Go.Proofs.YtmmpcchjalgokaaDoor
set_option linter.unusedVariables false
set_option linter.unusedSimpArgs false
open Go.RowKit
theorem noB_has {s : ByteArray} {b : UInt8} (h : hasB s b = false) : NoB s b := by
  intro k hk
  rw [hasB_yes hk] at h
  cases h
theorem step_inj {h1 h2 : Int} (a1 : 0 ≤ h1 ∧ h1 < 999979) (a2 : 0 ≤ h2 ∧ h2 < 999979) (hne : h1 ≠ h2) (c : UInt8) : ckStep h1 c ≠ ckStep h2 c ∧ (0 ≤ ckStep h1 c ∧ ckStep h1 c < 999979) ∧ 0 ≤ ckStep h2 c ∧ ckStep h2 c < 999979 := by
  unfold ckStep
  omega
theorem fold_inj : ∀ (l : List UInt8) {h1 h2 : Int}, (0 ≤ h1 ∧ h1 < 999979) → (0 ≤ h2 ∧ h2 < 999979) → h1 ≠ h2 → l.foldl ckStep h1 ≠ l.foldl ckStep h2
  | [], _, _, _, _, h => h
  | c :: l, h1, h2, a1, a2, h => by
    obtain ⟨b1, b2, b3⟩ := step_inj a1 a2 h c
    exact fold_inj l b2 b3 b1
theorem byte_inj {c d : UInt8} (h : c ≠ d) {z : Int} : ckStep z c ≠ ckStep z d := by
  have h1 : c.toNat ≠ d.toNat := fun e => h (UInt8.toNat_inj.1 e)
  have h2 := c.toNat_lt
  have h3 := d.toNat_lt
  unfold ckStep
  omega
theorem step_bd (h : Int) (c : UInt8) : 0 ≤ ckStep h c ∧ ckStep h c < 999979 := by unfold ckStep; omega
theorem ck_change {A B : List UInt8} {c d : UInt8} (h : c ≠ d) : ck (A ++ c :: B) ≠ ck (A ++ d :: B) := by
  unfold ck
  rw [List.foldl_append, List.foldl_append, List.foldl_cons, List.foldl_cons]
  exact fold_inj B (step_bd _ _) (step_bd _ _) (byte_inj h)
theorem itoa_inj {a b : Int} (h : Lib.itoa a = Lib.itoa b) : a = b := by
  have h1 := atoi_itoa a
  rw [h, atoi_itoa b] at h1
  exact (Option.some.inj h1).symm
theorem seal_list (x : ByteArray) : (sealB x).data.toList = x.data.toList ++ 35 :: Lib.itoa (ck x.data.toList) := by
  unfold sealB
  rw [ByteArray.data_append, ByteArray.data_append, Array.toList_append, Array.toList_append, itoa_list]
  simp
theorem not_mem {s : ByteArray} {b : UInt8} (h : NoB s b) : b ∉ s.data.toList := by
  intro hm
  obtain ⟨k, hk⟩ := List.mem_iff_getElem?.1 hm
  exact h k hk
theorem cuts_seal {x : ByteArray} (h : NoB x 35) : cuts (sealB x) 35 = [x, itoaB (ck x.data.toList)] := by
  unfold sealB
  rw [cuts_word h, cuts_no (NoB.low45 _ (by decide))]
theorem ac_imp {x : ByteArray} (h : acOk x = true) : NoB x 35 ∧ (sealB x).size ≤ 4000 ∧ x.size ≤ 4000 := by
  unfold acOk at h
  simp only [Bool.and_eq_true, decide_eq_true_eq, Bool.not_eq_true'] at h
  exact ⟨noB_has h.2.1, h.2.2, h.1⟩
theorem vc_seal {x : ByteArray} (h : acOk x = true) : vcOk (sealB x) = true ∧ vcV (sealB x) = x := by
  obtain ⟨h1, h2, h3⟩ := ac_imp h
  have e : preB (sealB x) 35 = x := by
    have := cuts_head (sealB x) 35
    rw [cuts_seal h1] at this
    exact (Option.some.inj this).symm
  have h9 : vcOk (sealB x) = true := by
    unfold vcOk
    rw [e, decide_eq_true h2, decide_eq_true rfl]; rfl
  refine ⟨h9, ?_⟩
  unfold vcV
  rw [if_pos h9, e]
theorem vc_flip {x y : ByteArray} {k : Nat} {v : UInt8} (h : acOk x = true) (hk : k < (sealB x).data.toList.length) (hv : (sealB x).data.toList[k]? ≠ some v) (hy : y.data.toList = (sealB x).data.toList.set k v) : vcOk y = false := by
  cases hc : vcOk y
  · rfl
  · exfalso
    obtain ⟨_, hac, hse, _⟩ := vc_imp hc
    obtain ⟨n1, _, _⟩ := ac_imp h
    obtain ⟨n2, _, _⟩ := ac_imp hac
    generalize preB y 35 = x' at *
    rw [← hse, seal_list, seal_list] at hy
    rw [seal_list] at hv hk
    have m1 := not_mem n1
    have m2 := not_mem n2
    have d1 : (35 : UInt8) ∉ Lib.itoa (ck x.data.toList) := by
      have := not_mem (NoB.low45 (ck x.data.toList) (b := 35) (by decide))
      rwa [itoa_list] at this
    have d2 : (35 : UInt8) ∉ Lib.itoa (ck x'.data.toList) := by
      have := not_mem (NoB.low45 (ck x'.data.toList) (b := 35) (by decide))
      rwa [itoa_list] at this
    generalize x.data.toList = X at *
    generalize x'.data.toList = X' at *
    rcases Nat.lt_trichotomy k X.length with hlt | heq | hgt
    · rw [List.set_append_left _ _ hlt] at hy
      obtain ⟨e1, e2⟩ := mid_apart hy.symm m2 d2
      have e3 := itoa_inj e2
      rw [← e1, List.set_eq_take_append_cons_drop, if_pos hlt] at e3
      have e4 : X = X.take k ++ X[k] :: X.drop (k + 1) := by rw [← List.drop_eq_getElem_cons hlt, List.take_append_drop]
      have hne : X[k] ≠ v := by
        intro e9
        apply hv
        rw [List.getElem?_append_left hlt, List.getElem?_eq_getElem hlt, e9]
      have e5 := ck_change (A := X.take k) (B := X.drop (k + 1)) hne
      rw [← e4] at e5
      exact e5 e3
    · subst heq
      have e0 : (X ++ 35 :: Lib.itoa (ck X)).set X.length v = X ++ v :: Lib.itoa (ck X) := by
        rw [List.set_append_right _ _ (Nat.le_refl _), Nat.sub_self]; rfl
      rw [e0] at hy
      have hm : (35 : UInt8) ∈ X ++ v :: Lib.itoa (ck X) := by rw [← hy]; simp
      have hne : v ≠ 35 := by
        intro e9
        apply hv
        rw [List.getElem?_append_right (Nat.le_refl _), Nat.sub_self, e9]; rfl
      rcases List.mem_append.1 hm with h1 | h1
      · exact m1 h1
      · rcases List.mem_cons.1 h1 with h1 | h1
        · exact hne h1.symm
        · exact d1 h1
    · obtain ⟨j, hj⟩ : ∃ j, k = X.length + (j + 1) := ⟨k - X.length - 1, by omega⟩
      subst hj
      have e0 : (X ++ 35 :: Lib.itoa (ck X)).set (X.length + (j + 1)) v = X ++ 35 :: (Lib.itoa (ck X)).set j v := by
        rw [List.set_append_right _ _ (by omega), Nat.add_sub_cancel_left]; rfl
      rw [e0] at hy
      obtain ⟨e1, e2⟩ := mid_apart hy.symm m2 d2
      subst e1
      apply hv
      have hjl : j < (Lib.itoa (ck X)).length := by simp at hk; omega
      rw [List.getElem?_append_right (by omega), Nat.add_sub_cancel_left, List.getElem?_cons_succ, ← e2, List.getElem?_set_self hjl]
end Go.Proofs.YtmmpcchjalgokaaDoor
