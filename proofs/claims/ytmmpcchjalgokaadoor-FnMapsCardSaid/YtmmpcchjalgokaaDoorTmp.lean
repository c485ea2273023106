/- Plain laws for FnMaps: four quarter turns and two mirrors are no change. -/
import Derived.Test.YtmmpcchjalgokaaDoorMirFn
import Derived.Test.YtmmpcchjalgokaaDoorPmp
namespace Go.Proofs.YtmmpcchjalgokaaDoor
set_option linter.unusedVariables false
set_option linter.unusedSimpArgs false
open Go.RowKit
theorem rowL_get {l : List Int} {I : Nat → Nat → Int} {y wd x : Nat} (hx : x < wd) : (rowL l I y wd).getD x 0 = l.getD (I x y).toNat 0 := by
  unfold rowL
  rw [List.getD_eq_getElem?_getD, List.getElem?_map, List.getElem?_range hx]
  rfl
theorem allL_get {l : List Int} {I : Nat → Nat → Int} {wd x y : Nat} (hx : x < wd) : ∀ ht, y < ht → (allL l I wd ht).getD (y * wd + x) 0 = l.getD (I x y).toNat 0
  | ht + 1, hy => by
    show (allL l I wd ht ++ rowL l I ht wd).getD (y * wd + x) 0 = _
    rcases Nat.lt_or_ge y ht with h | h
    · have hb := idx_bd hx h
      rw [List.getD_eq_getElem?_getD, List.getElem?_append_left (by rw [allL_len]; exact hb), ← List.getD_eq_getElem?_getD]
      exact allL_get hx ht h
    · have e : y = ht := by omega
      subst e
      rw [List.getD_eq_getElem?_getD, List.getElem?_append_right (by rw [allL_len]; omega), allL_len, Nat.add_sub_cancel_left, ← List.getD_eq_getElem?_getD]
      exact rowL_get hx
theorem cells_ext {a b : List Int} {W H : Nat} (ha : a.length = H * W) (hb : b.length = H * W) (h : ∀ x y, x < W → y < H → a.getD (y * W + x) 0 = b.getD (y * W + x) 0) : a = b := by
  apply List.ext_getElem (by rw [ha, hb])
  intro c h1 h2
  have hW : 0 < W := by
    rcases Nat.eq_zero_or_pos W with h0 | h0
    · subst h0; rw [Nat.mul_zero] at ha; omega
    · exact h0
  have hc : c / W < H := Nat.div_lt_of_lt_mul (by rw [Nat.mul_comm]; omega)
  have h3 := h (c % W) (c / W) (Nat.mod_lt _ hW) hc
  have e : c / W * W + c % W = c := by rw [Nat.mul_comm]; exact Nat.div_add_mod c W
  rw [e, List.getD_eq_getElem?_getD, List.getD_eq_getElem?_getD, List.getElem?_eq_getElem h1, List.getElem?_eq_getElem h2] at h3
  exact h3
theorem mirI_nat {m : Mp} {W x y : Nat} (hW : m.wd = (W : Int)) (hx : x < W) : (mirI m x y).toNat = y * W + (W - 1 - x) := by
  unfold mirI
  rw [hW, show (y : Int) * (W : Int) = ((y * W : Nat) : Int) by simp]
  omega
theorem trnI_nat {m : Mp} {W H x y : Nat} (hW : m.wd = (W : Int)) (hH : m.ht = (H : Int)) (hx : x < H) : (trnI m x y).toNat = (H - 1 - x) * W + y := by
  unfold trnI
  rw [hW, hH, show ((H : Int) - 1 - (x : Int)) = ((H - 1 - x : Nat) : Int) by omega, show ((H - 1 - x : Nat) : Int) * (W : Int) = (((H - 1 - x) * W : Nat) : Int) by simp]
  omega
theorem mir_twice {l : List Int} {m m' : Mp} {W H : Nat} (hm : m.wd = (W : Int)) (hm' : m'.wd = (W : Int)) (hl : l.length = H * W) : allL (allL l (mirI m) W H) (mirI m') W H = l :=
  cells_ext (allL_len _ _ _ _) hl fun x y hx hy => by
    rw [allL_get hx H hy, mirI_nat hm' hx, allL_get (by omega) H hy, mirI_nat hm (by omega), show W - 1 - (W - 1 - x) = x by omega]
theorem trn_get {l : List Int} {m : Mp} {W H x y : Nat} (hW : m.wd = (W : Int)) (hH : m.ht = (H : Int)) (hx : x < H) (hy : y < W) : (allL l (trnI m) H W).getD (y * H + x) 0 = l.getD ((H - 1 - x) * W + y) 0 := by
  rw [allL_get hx W hy, trnI_nat hW hH hx]
theorem trn_four {l : List Int} {m1 m2 m3 m4 : Mp} {W H : Nat} (w1 : m1.wd = (W : Int)) (h1 : m1.ht = (H : Int)) (w2 : m2.wd = (H : Int)) (h2 : m2.ht = (W : Int)) (w3 : m3.wd = (W : Int)) (h3 : m3.ht = (H : Int)) (w4 : m4.wd = (H : Int)) (h4 : m4.ht = (W : Int)) (hl : l.length = H * W) :
    allL (allL (allL (allL l (trnI m1) H W) (trnI m2) W H) (trnI m3) H W) (trnI m4) W H = l :=
  cells_ext (allL_len _ _ _ _) hl fun x y hx hy => by
    rw [trn_get w4 h4 hx hy, trn_get w3 h3 hy (by omega), trn_get w2 h2 (by omega) (by omega), trn_get w1 h1 (by omega) (by omega), show H - 1 - (H - 1 - y) = y by omega, show W - 1 - (W - 1 - x) = x by omega]
theorem getD_bd {l : List Int} (h : ∀ x ∈ l, 0 ≤ x ∧ x ≤ 9) (i : Nat) : 0 ≤ l.getD i 0 ∧ l.getD i 0 ≤ 9 := by
  rw [List.getD_eq_getElem?_getD]
  rcases Nat.lt_or_ge i l.length with h1 | h1
  · rw [List.getElem?_eq_getElem h1]; exact h _ (List.getElem_mem h1)
  · rw [List.getElem?_eq_none h1]; decide
theorem allL_bd {l : List Int} {I : Nat → Nat → Int} {wd : Nat} (h : ∀ x ∈ l, 0 ≤ x ∧ x ≤ 9) : ∀ y, ∀ v ∈ allL l I wd y, 0 ≤ v ∧ v ≤ 9
  | 0, v, hv => by cases hv
  | y + 1, v, hv => by
    rcases List.mem_append.1 hv with h1 | h1
    · exact allL_bd h y v h1
    · unfold rowL at h1
      obtain ⟨k, _, rfl⟩ := List.mem_map.1 h1
      exact getD_bd h _
theorem side_of {m : Mp} (V : Valid m) : ∃ W H : Nat, m.wd = (W : Int) ∧ m.ht = (H : Int) ∧ m.ri.length = H * W ∧ m.co.length = H * W ∧ 1 ≤ W ∧ W ≤ 6 ∧ 1 ≤ H ∧ H ≤ 6 := by
  obtain ⟨W, hW⟩ := Int.eq_ofNat_of_zero_le (show 0 ≤ m.wd by have := V.w1; omega)
  obtain ⟨H, hH⟩ := Int.eq_ofNat_of_zero_le (show 0 ≤ m.ht by have := V.h1; omega)
  have h1 := V.lr
  rw [hW, hH] at h1
  have e2 : (W : Int) * (H : Int) = ((H * W : Nat) : Int) := by rw [Nat.mul_comm]; simp
  rw [e2] at h1
  have a1 := V.w1
  have a2 := V.w6
  have a3 := V.h1
  have a4 := V.h6
  have a5 := V.lc
  exact ⟨W, H, hW, hH, by omega, by omega, by omega, by omega, by omega, by omega⟩
theorem mr_eq {m : Mp} {W H : Nat} (h : okM m = true) (hW : m.wd = (W : Int)) (hH : m.ht = (H : Int)) : mrM m = ⟨(W : Int), (H : Int), allL m.ri (mirI m) W H, allL m.co (mirI m) W H⟩ := by
  unfold mrM
  rw [if_pos h, hW, hH]
  rfl
theorem tn_eq {m : Mp} {W H : Nat} (h : okM m = true) (hW : m.wd = (W : Int)) (hH : m.ht = (H : Int)) : tnM m = ⟨(H : Int), (W : Int), allL m.ri (trnI m) H W, allL m.co (trnI m) H W⟩ := by
  unfold tnM
  rw [if_pos h, hW, hH]
  rfl
theorem mr_valid {m : Mp} (h : okM m = true) : okM (mrM m) = true := by
  have V := valid_iff.1 h
  obtain ⟨W, H, hW, hH, l1, l2, a1, a2, a3, a4⟩ := side_of V
  rw [mr_eq h hW hH]
  refine valid_iff.2 ⟨by dsimp only; omega, by dsimp only; omega, by dsimp only; omega, by dsimp only; omega, ?_, ?_, allL_bd V.ro _, allL_bd V.cs _⟩
  · show ((allL m.ri (mirI m) W H).length : Int) = (W : Int) * (H : Int)
    rw [allL_len, Nat.mul_comm]; simp
  · show (allL m.co (mirI m) W H).length = (allL m.ri (mirI m) W H).length
    rw [allL_len, allL_len]
theorem tn_valid {m : Mp} (h : okM m = true) : okM (tnM m) = true := by
  have V := valid_iff.1 h
  obtain ⟨W, H, hW, hH, l1, l2, a1, a2, a3, a4⟩ := side_of V
  rw [tn_eq h hW hH]
  refine valid_iff.2 ⟨by dsimp only; omega, by dsimp only; omega, by dsimp only; omega, by dsimp only; omega, ?_, ?_, allL_bd V.ro _, allL_bd V.cs _⟩
  · show ((allL m.ri (trnI m) H W).length : Int) = (H : Int) * (W : Int)
    rw [allL_len, Nat.mul_comm]; simp
  · show (allL m.co (trnI m) H W).length = (allL m.ri (trnI m) H W).length
    rw [allL_len, allL_len]
theorem mr_two {m : Mp} (h : okM m = true) : okM (mrM m) = true ∧ mrM (mrM m) = m := by
  have v1 := mr_valid h
  obtain ⟨W, H, hW, hH, l1, l2, _⟩ := side_of (valid_iff.1 h)
  have e1 := mr_eq h hW hH
  have e2 := mr_eq (W := W) (H := H) v1 (by rw [e1]) (by rw [e1])
  have f1 : (mrM m).ri = allL m.ri (mirI m) W H := by rw [e1]
  have f2 : (mrM m).co = allL m.co (mirI m) W H := by rw [e1]
  have f3 : (mrM m).wd = (W : Int) := by rw [e1]
  refine ⟨v1, ?_⟩
  rw [e2]
  apply mp_ext
  · exact hW.symm
  · exact hH.symm
  · show allL (mrM m).ri (mirI (mrM m)) W H = m.ri
    rw [f1]; exact mir_twice hW f3 l1
  · show allL (mrM m).co (mirI (mrM m)) W H = m.co
    rw [f2]; exact mir_twice hW f3 l2
theorem tn_four {m : Mp} (h : okM m = true) : okM (tnM m) = true ∧ okM (tnM (tnM m)) = true ∧ okM (tnM (tnM (tnM m))) = true ∧ tnM (tnM (tnM (tnM m))) = m := by
  have v1 := tn_valid h
  have v2 := tn_valid v1
  have v3 := tn_valid v2
  obtain ⟨W, H, hW, hH, l1, l2, _⟩ := side_of (valid_iff.1 h)
  have e1 := tn_eq h hW hH
  have w1 : (tnM m).wd = (H : Int) := by rw [e1]
  have h1 : (tnM m).ht = (W : Int) := by rw [e1]
  have r1 : (tnM m).ri = allL m.ri (trnI m) H W := by rw [e1]
  have c1 : (tnM m).co = allL m.co (trnI m) H W := by rw [e1]
  have e2 := tn_eq v1 w1 h1
  have w2 : (tnM (tnM m)).wd = (W : Int) := by rw [e2]
  have h2 : (tnM (tnM m)).ht = (H : Int) := by rw [e2]
  have r2 : (tnM (tnM m)).ri = allL (tnM m).ri (trnI (tnM m)) W H := by rw [e2]
  have c2 : (tnM (tnM m)).co = allL (tnM m).co (trnI (tnM m)) W H := by rw [e2]
  have e3 := tn_eq v2 w2 h2
  have w3 : (tnM (tnM (tnM m))).wd = (H : Int) := by rw [e3]
  have h3 : (tnM (tnM (tnM m))).ht = (W : Int) := by rw [e3]
  have r3 : (tnM (tnM (tnM m))).ri = allL (tnM (tnM m)).ri (trnI (tnM (tnM m))) H W := by rw [e3]
  have c3 : (tnM (tnM (tnM m))).co = allL (tnM (tnM m)).co (trnI (tnM (tnM m))) H W := by rw [e3]
  have e4 := tn_eq v3 w3 h3
  refine ⟨v1, v2, v3, ?_⟩
  rw [e4]
  apply mp_ext
  · exact hW.symm
  · exact hH.symm
  · show allL (tnM (tnM (tnM m))).ri (trnI (tnM (tnM (tnM m)))) W H = m.ri
    rw [r3, r2, r1]; exact trn_four hW hH w1 h1 w2 h2 w3 h3 l1
  · show allL (tnM (tnM (tnM m))).co (trnI (tnM (tnM (tnM m)))) W H = m.co
    rw [c3, c2, c1]; exact trn_four hW hH w1 h1 w2 h2 w3 h3 l2
theorem mt_back {m : Mp} (h : mtOk m = true) : pmOk (mtV m) = true ∧ pmV (mtV m) = m := pm_some h rfl
end Go.Proofs.YtmmpcchjalgokaaDoor
