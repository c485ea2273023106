/- Plain laws: the feature that a text is. -/
import Derived.Test.YtmmpcchjalgokaaDoorCutJ
import Derived.Test.YtmmpcchjalgokaaDoorFtx
namespace Go.Proofs.YtmmpcchjalgokaaDoor
set_option linter.unusedVariables false
set_option linter.unusedSimpArgs false
open Go.RowKit
theorem inB_mem {ws : List Bs} {s : ByteArray} (h : inB ws s = true) : ∃ l ∈ ws, s = mk l := by
  obtain ⟨l, hl, e⟩ := List.any_eq_true.1 h
  rw [beq_mk, decide_eq_true_eq] at e
  exact ⟨l, hl, e.symm⟩
theorem inB_no {ws : List Bs} {s : ByteArray} (h : ∀ l ∈ ws, mk l ≠ s) : inB ws s = false := by
  unfold inB
  rw [List.any_eq_false]
  intro l hl
  rw [beq_mk]
  simpa using h l hl
def sideS : ByteArray := ⟨#[32, 115, 105, 100, 101, 32]⟩
theorem sideS_eq : sideS = (⟨#[32]⟩ : ByteArray) ++ sideW ++ (⟨#[32]⟩ : ByteArray) := rfl
/-- All words of all families. -/
def allWL : List Bs := WL 0 ++ WL 1 ++ WL 2 ++ WL 3 ++ WL 4
def allSL : List Bs := sidL 0 ++ sidL 1 ++ sidL 2 ++ sidL 3
def NoS (l : Bs) : Bool := decide (32 ∉ l) && decide (l ≠ [115, 105, 100, 101])
theorem allWL_ok : (allWL.all NoS && allWL.all fun l => decide (1 ≤ l.length) && decide (l.length ≤ 7)) = true := by decide
theorem allSL_ok : (allSL.all NoS && allSL.all fun l => decide (1 ≤ l.length) && decide (l.length ≤ 7)) = true := by decide
theorem whichL_ok : (whichL.all NoS && whichL.all fun l => decide (1 ≤ l.length) && decide (l.length ≤ 6)) = true := by decide
theorem lookL_ok : (lookL.all NoS && lookL.all fun l => decide (1 ≤ l.length) && decide (l.length ≤ 9)) = true := by decide
theorem whichL_fam : ∀ l ∈ whichL, l ∉ allWL := by decide
theorem lookL_fam : ∀ l ∈ lookL, l ∉ allWL ∧ l ∉ whichL := by decide
theorem side_fam : ([115, 105, 100, 101] : Bs) ∉ allWL ∧ ([115, 105, 100, 101] : Bs) ∉ whichL ∧ ([115, 105, 100, 101] : Bs) ∉ lookL := by decide
theorem mk_inj {l m : Bs} (h : mk l = mk m) : l = m := by
  have := congrArg (fun x : ByteArray => x.data.toList) h
  simpa [mk] using this
theorem inB_mk {ws : List Bs} {l : Bs} (h : l ∉ ws) : inB ws (mk l) = false := inB_no fun m hm e => h (mk_inj e ▸ hm)
theorem fam_mk {l : Bs} (h : l ∉ allWL) : famI (mk l) = -1 := by
  refine famI_miss fun e he => inB_mk fun hm => h ?_
  unfold allWL
  simp only [List.mem_append]
  rcases (show e = 0 ∨ e = 1 ∨ e = 2 ∨ e = 3 ∨ e = 4 by omega) with rfl | rfl | rfl | rfl | rfl <;> simp [hm]
theorem sidL_all (f : Int) : ∀ l ∈ sidL f, l ∈ allSL := by
  intro l hl
  unfold allSL
  simp only [List.mem_append]
  by_cases h0 : f = 0
  · subst h0; simp [hl]
  · by_cases h1 : f = 1
    · subst h1; simp [hl]
    · by_cases h2 : f = 2
      · subst h2; simp [hl]
      · have : sidL f = sidL 3 := by unfold sidL; rw [if_neg h0, if_neg h1, if_neg h2]; rfl
        rw [this] at hl
        simp [hl]
/-- What is to be known of a word of a feature's text. -/
def Fw (x : ByteArray) (n : Nat) : Prop := NoB x 32 ∧ x ≠ sideW ∧ 1 ≤ x.size ∧ x.size ≤ n
theorem fw_of {ws : List Bs} {n : Nat} (h : (ws.all NoS && ws.all fun l => decide (1 ≤ l.length) && decide (l.length ≤ n)) = true) {x : ByteArray} (hx : inB ws x = true) : Fw x n := by
  obtain ⟨l, hl, rfl⟩ := inB_mem hx
  rw [Bool.and_eq_true, List.all_eq_true, List.all_eq_true] at h
  have h1 := h.1 l hl
  have h2 := h.2 l hl
  unfold NoS at h1
  simp only [Bool.and_eq_true, decide_eq_true_eq] at h1 h2
  refine ⟨NoB.mem fun y hy e => h1.1 (e ▸ (by simpa [mk] using hy)), fun e => h1.2 (mk_inj e), ?_, ?_⟩ <;> rw [mk_size] <;> omega
theorem num_side {z : Int} (h0 : -999999 ≤ z) (h1 : z ≤ 999999) : itoaB z ≠ sideW := by
  intro e
  have h2 := (rd_itoa h0 h1).1
  rw [e] at h2
  have h3 : rdM sideW = none := by
    unfold rdM
    have e : rdT sideW = sideW := by decide
    rw [e]
    split
    · exact decFrom_bad _ _ 0 115 rfl rfl
    · rfl
  rw [(rd_none h3).1] at h2
  cases h2
structure FtWords (f : Ft) : Prop where
  code : NoB (itoaB f.code) 32 ∧ itoaB f.code ≠ sideW ∧ (itoaB f.code).size ≤ 2 ∧ rdOk (itoaB f.code) = true ∧ rdV (itoaB f.code) = f.code
  which : nonB f.which = true ∨ (Fw f.which 6 ∧ famI f.which = -1 ∧ inB whichL f.which = true)
  look : nonB f.look = true ∨ (Fw f.look 9 ∧ famI f.look = -1 ∧ inB whichL f.look = false ∧ inB lookL f.look = true)
  what : Fw f.what 7 ∧ 0 ≤ famI f.what
  side : nonB f.side = true ∨ Fw f.side 7
theorem ft_words {f : Ft} (h : okFt f = true) : FtWords f := by
  unfold okFt at h
  rw [Bool.and_eq_true] at h
  obtain ⟨hA, hS⟩ := h
  obtain ⟨h1, h2, h3, h4⟩ := bigS hA
  obtain ⟨c0, c1⟩ := insideB_iff.1 h1
  obtain ⟨u, hu⟩ : ∃ u : Nat, f.code = u := ⟨f.code.toNat, by omega⟩
  have hlen : (itoaB f.code).size ≤ 2 := by
    have e : (itoaB (u : Int)).size = (itoaB (u : Int)).data.toList.length := by simp
    rw [hu, e, itoa_list, Lib.itoa_nonneg]
    exact digits_len 1 u (by omega)
  have hrd := rd_itoa (z := f.code) (by omega) (by omega)
  refine ⟨⟨NoB.nmb _, num_side (by omega) (by omega), hlen, hrd.1, hrd.2⟩, h3.imp id fun h => ?_, h4.imp id fun h => ?_, ?_, ?_⟩
  · obtain ⟨l, hl, e⟩ := inB_mem h
    exact ⟨fw_of whichL_ok h, by rw [e]; exact fam_mk (whichL_fam l hl), h⟩
  · obtain ⟨l, hl, e⟩ := inB_mem h
    have := lookL_fam l hl
    exact ⟨fw_of lookL_ok h, by rw [e]; exact fam_mk this.1, by rw [e]; exact inB_mk this.2, h⟩
  · obtain ⟨k, hk, h⟩ := famI_word h2
    refine ⟨?_, h2⟩
    obtain ⟨l, hl, e⟩ := inB_mem h
    refine fw_of (ws := allWL) allWL_ok ?_
    unfold inB
    rw [List.any_eq_true]
    refine ⟨l, ?_, by rw [beq_mk, e]; simp⟩
    unfold allWL
    simp only [List.mem_append]
    rcases (show k = 0 ∨ k = 1 ∨ k = 2 ∨ k = 3 ∨ k = 4 by omega) with rfl | rfl | rfl | rfl | rfl <;> simp [hl]
  · unfold okS at hS
    rw [Bool.or_eq_true] at hS
    refine hS.imp id fun h => ?_
    rw [Bool.and_eq_true] at h
    obtain ⟨l, hl, e⟩ := inB_mem h.1
    refine fw_of (ws := allSL) allSL_ok ?_
    unfold inB
    rw [List.any_eq_true]
    exact ⟨l, sidL_all _ l hl, by rw [beq_mk, e]; simp⟩
theorem ftB_jn {f : Ft} (h : okFt f = true) : ftB f = jnS (wsF f) := by
  unfold jnS jnB
  rw [join_ft h]
/- the candidates -/
def stI (p : ByteArray × ByteArray) (w : ByteArray) : ByteArray × ByteArray := if inB whichL w = true then (w, p.2) else (p.1, w)
/-- What the program has read behind k words between the first and the last. -/
def gI (ws : List ByteArray) : Nat → ByteArray × ByteArray
  | 0 => (⟨#[]⟩, ⟨#[]⟩)
  | k + 1 => stI (gI ws k) (ws.getD (k + 1) ⟨#[]⟩)
def firB (s : ByteArray) : ByteArray := if 0 ≤ Lib.indexB s sideS then s.extract 0 (Lib.indexB s sideS).toNat else s
def sidB (s : ByteArray) : ByteArray := if 0 ≤ Lib.indexB s sideS then s.extract ((Lib.indexB s sideS).toNat + 6) s.size else ⟨#[]⟩
def wsI (s : ByteArray) : List ByteArray := cuts (firB s) 32
def cfI (s : ByteArray) : Ft := ⟨rdV ((wsI s).getD 0 ⟨#[]⟩), (gI (wsI s) ((wsI s).length - 2)).1, (wsI s).getD ((wsI s).length - 1) ⟨#[]⟩, (gI (wsI s) ((wsI s).length - 2)).2, sidB s⟩
def stS (p : ByteArray) (f : Ft) (w : ByteArray) : Ft :=
  if p = sideW then ⟨f.code, f.which, f.what, f.look, w⟩
  else if 0 ≤ famI w then ⟨f.code, f.which, w, f.look, f.side⟩
  else if inB whichL w = true then ⟨f.code, w, f.what, f.look, f.side⟩
  else if inB lookL w = true then ⟨f.code, f.which, f.what, w, f.side⟩ else f
def gS (ws : List ByteArray) : Nat → Ft
  | 0 => ⟨rdV (ws.getD 0 ⟨#[]⟩), ⟨#[]⟩, ⟨#[]⟩, ⟨#[]⟩, ⟨#[]⟩⟩
  | k + 1 => stS (ws.getD k ⟨#[]⟩) (gS ws k) (ws.getD (k + 1) ⟨#[]⟩)
def cfS (s : ByteArray) : Ft := gS (cuts s 32) ((cuts s 32).length - 1)
theorem ft_ext {f g : Ft} (h1 : f.code = g.code) (h2 : f.which = g.which) (h3 : f.what = g.what) (h4 : f.look = g.look) (h5 : f.side = g.side) : f = g := by
  cases f; cases g
  simp only [Ft.mk.injEq]
  exact ⟨h1, h2, h3, h4, h5⟩
theorem wsF_eq (f : Ft) (hw : nonB f.what = false) : wsF f = itoaB f.code :: ((if nonB f.which = true then [] else [f.which]) ++ (if nonB f.look = true then [] else [f.look]) ++ [f.what]) ++ (if nonB f.side = true then [] else [sideW, f.side]) := by
  unfold wsF wsK wd3
  cases h1 : nonB f.which <;> cases h2 : nonB f.look <;> simp [h1, h2, hw]
theorem sub_parts {s sub : ByteArray} {i : Nat} (h : Lib.indexB s sub = (i : Int)) : s = s.extract 0 i ++ sub ++ s.extract (i + sub.size) s.size := by
  rcases Lib.index_spec s.data.toList sub.data.toList with ⟨h1, _⟩ | ⟨k, h1, h2, h3, _⟩
  · rw [show Lib.indexB s sub = -1 from h1] at h; omega
  · rw [show Lib.indexB s sub = (k : Int) from h1] at h
    have : k = i := by omega
    subst this
    have h4 : sub.data.toList <+: s.data.toList.drop k := List.isPrefixOf_iff_prefix.1 h3
    obtain ⟨t, ht⟩ := h4
    have hz : s.data.toList.length = s.size := by simp
    have hz2 : sub.data.toList.length = sub.size := by simp
    apply ByteArray.ext
    apply Array.ext'
    simp only [ByteArray.data_append, ByteArray.data_extract, Array.toList_append, Array.toList_extract, List.extract_eq_take_drop, List.drop_zero, Nat.sub_zero]
    have e1 : s.data.toList.drop (k + sub.size) = t := by
      rw [← List.drop_drop, ← ht, ← hz2, List.drop_left]
    rw [e1]
    have e2 : t.length = s.size - (k + sub.size) := by rw [← e1, List.length_drop, hz]
    rw [← e2, List.take_length, List.append_assoc, ht, List.take_append_drop]
theorem sub_none {s sub : ByteArray} (h : Lib.indexB s sub = -1) (a b : ByteArray) : s ≠ a ++ sub ++ b := by
  rcases Lib.index_spec s.data.toList sub.data.toList with ⟨_, h1⟩ | ⟨k, h1, _⟩
  · intro e
    have h2 := h1 a.data.toList.length (by rw [e, ByteArray.data_append, ByteArray.data_append, Array.toList_append, Array.toList_append]; simp)
    have h3 : Lib.occAt s.data.toList sub.data.toList a.data.toList.length = true := by
      unfold Lib.occAt
      rw [e, ByteArray.data_append, ByteArray.data_append, Array.toList_append, Array.toList_append, List.append_assoc, List.drop_left]
      exact List.isPrefixOf_iff_prefix.2 (List.prefix_append _ _)
    rw [h3] at h2; cases h2
  · rw [show Lib.indexB s sub = (k : Int) from h1] at h; omega
structure PfKey (s : ByteArray) (f : Ft) : Prop where
  size : s.size ≤ 60
  num : rdOk ((wsI s).getD 0 ⟨#[]⟩) = true
  candI : cfI s = f
  candS : cfS s = f
theorem pf_key {f : Ft} {s : ByteArray} (h : okFt f = true) (hs : ftB f = s) : PfKey s f := by
  obtain ⟨⟨c1, c2, c3, c4, c5⟩, hwh, hlo, ⟨⟨w1, w2, w3, w4⟩, w5⟩, hsi⟩ := ft_words h
  have hwn := what_non h
  have eW := wsF_eq f hwn
  have hsp : (⟨#[32]⟩ : ByteArray).size = 1 := rfl
  have hsw : sideW.size = 4 := rfl
  -- every word
  have hno : ∀ x ∈ wsF f, NoB x 32 := by
    intro x hx
    rw [eW] at hx
    simp only [List.cons_append, List.mem_cons, List.mem_append] at hx
    rcases hx with rfl | ((hx | hx) | hx) | hx
    · exact c1
    · rcases hwh with h9 | h9
      · rw [if_pos h9] at hx; cases hx
      · split at hx
        · cases hx
        · rw [List.mem_singleton.1 hx]; exact h9.1.1
    · rcases hlo with h9 | h9
      · rw [if_pos h9] at hx; cases hx
      · split at hx
        · cases hx
        · rw [List.mem_singleton.1 hx]; exact h9.1.1
    · rcases hx with rfl | hx
      · exact w1
      · cases hx
    · rcases hsi with h9 | h9
      · rw [if_pos h9] at hx; cases hx
      · split at hx
        · cases hx
        · simp only [List.mem_cons, List.not_mem_nil, or_false] at hx
          rcases hx with rfl | rfl
          · exact NoB.mem (by decide)
          · exact h9.1
  have hcut : cuts s 32 = wsF f := by
    rw [← hs, ftB_jn h]
    exact cuts_jnS _ (by rw [eW]; simp) hno
  have hnoK : sideW ∉ wsK f 3 := by
    intro hx
    have e9 : wsK f 3 = itoaB f.code :: ((if nonB f.which = true then [] else [f.which]) ++ (if nonB f.look = true then [] else [f.look]) ++ [f.what]) := by
      unfold wsK wd3
      cases h1 : nonB f.which <;> cases h2 : nonB f.look <;> simp [h1, h2, hwn]
    rw [e9] at hx
    simp only [List.mem_cons, List.mem_append] at hx
    rcases hx with hx | (hx | hx) | hx
    · exact c2 hx.symm
    · rcases hwh with h9 | h9
      · rw [if_pos h9] at hx; cases hx
      · split at hx
        · cases hx
        · exact h9.1.2.1 (List.mem_singleton.1 hx).symm
    · rcases hlo with h9 | h9
      · rw [if_pos h9] at hx; cases hx
      · split at hx
        · cases hx
        · exact h9.1.2.1 (List.mem_singleton.1 hx).symm
    · rcases hx with hx | hx
      · exact w2 hx.symm
      · cases hx
  have happ : ∀ a b : ByteArray, cuts (a ++ sideS ++ b) 32 = cuts a 32 ++ sideW :: cuts b 32 := by
    intro a b
    have e : a ++ sideS ++ b = a ++ (⟨#[32]⟩ : ByteArray) ++ (sideW ++ (⟨#[32]⟩ : ByteArray) ++ b) := by
      rw [sideS_eq]; simp only [ByteArray.append_assoc]
    rw [e, cuts_app 32 _ _ a (Nat.le_refl _), cuts_word (NoB.mem (by decide))]
  -- where it is cut
  have hparts : wsI s = wsK f 3 ∧ sidB s = f.side := by
    unfold wsI firB sidB
    rcases Lib.index_spec s.data.toList sideS.data.toList with ⟨h1, _⟩ | ⟨k, h1, _⟩
    · have h1 : Lib.indexB s sideS = -1 := h1
      rw [h1, if_neg (by decide), if_neg (by decide), hcut]
      have hn : nonB f.side = true := by
        cases h9 : nonB f.side
        · exfalso
          refine sub_none h1 (jnS (wsK f 3)) f.side ?_
          have e : wsF f = wsK f 3 ++ sideW :: [f.side] := by unfold wsF; rw [h9]; rfl
          have hK : wsK f 3 ≠ [] := by unfold wsK; simp
          have e2 : cuts (jnS (wsK f 3) ++ sideS ++ f.side) 32 = wsF f := by
            rw [happ, cuts_jnS _ hK (fun x hx => hno x (by rw [e]; exact List.mem_append_left _ hx)), cuts_no (hno f.side (by rw [e]; simp)), e]
          rw [← jnS_cuts _ s (Nat.le_refl _), ← jnS_cuts _ (jnS (wsK f 3) ++ sideS ++ f.side) (Nat.le_refl _), hcut, e2]
        · rfl
      constructor
      · unfold wsF; rw [if_pos hn, List.append_nil]
      · exact (nonB_iff.1 hn).symm
    · have h1 : Lib.indexB s sideS = (k : Int) := h1
      rw [h1, if_pos (by omega), if_pos (by omega), Int.toNat_natCast]
      have hp := sub_parts h1
      have hc2 := happ (s.extract 0 k) (s.extract (k + 6) s.size)
      have e6 : sideS.size = 6 := rfl
      rw [e6] at hp
      rw [← hp, hcut] at hc2
      unfold wsF at hc2
      split at hc2
      · rw [List.append_nil] at hc2
        exact absurd (by rw [hc2]; simp) hnoK
      · next h9 =>
        have hs9 := hsi.resolve_left h9
        have := mid_apart hc2.symm hnoK (by simpa using fun e => hs9.2.1 e.symm)
        refine ⟨this.1, ?_⟩
        rw [← jnS_cuts _ (s.extract (k + 6) s.size) (Nat.le_refl _), this.2, jnS_one]
  have e9 : wsK f 3 = itoaB f.code :: ((if nonB f.which = true then [] else [f.which]) ++ (if nonB f.look = true then [] else [f.look]) ++ [f.what]) := by
    unfold wsK wd3
    cases h1 : nonB f.which <;> cases h2 : nonB f.look <;> simp [h1, h2, hwn]
  have hsd : famI sideW = -1 ∧ inB whichL sideW = false ∧ inB lookL sideW = false := ⟨fam_mk side_fam.1, inB_mk side_fam.2.1, inB_mk side_fam.2.2⟩
  have hI : cfI s = f := by
    unfold cfI
    rw [hparts.1, hparts.2, e9]
    rcases hwh with a | ⟨a1, a2, a3⟩ <;> rcases hlo with b | ⟨b1, b2, b3, b4⟩
    · have ea := nonB_iff.1 a
      have eb := nonB_iff.1 b
      rw [if_pos a, if_pos b]
      simp only [List.nil_append, List.append_nil, List.cons_append, List.length_cons, List.length_nil]
      apply ft_ext <;> simp [gI, c5, ea, eb]
    · have ea := nonB_iff.1 a
      have nb : nonB f.look = false := by cases h9 : nonB f.look; rfl; have := b1.2.2.1; rw [nonB_iff.1 h9] at this; exact absurd this (by decide)
      rw [if_pos a, if_neg (by rw [nb]; decide)]
      simp only [List.nil_append, List.append_nil, List.cons_append, List.length_cons, List.length_nil]
      apply ft_ext <;> simp [gI, stI, c5, ea, b3]
    · have na : nonB f.which = false := by cases h9 : nonB f.which; rfl; have := a1.2.2.1; rw [nonB_iff.1 h9] at this; exact absurd this (by decide)
      have eb := nonB_iff.1 b
      rw [if_neg (by rw [na]; decide), if_pos b]
      simp only [List.nil_append, List.append_nil, List.cons_append, List.length_cons, List.length_nil]
      apply ft_ext <;> simp [gI, stI, c5, eb, a3]
    · have na : nonB f.which = false := by cases h9 : nonB f.which; rfl; have := a1.2.2.1; rw [nonB_iff.1 h9] at this; exact absurd this (by decide)
      have nb : nonB f.look = false := by cases h9 : nonB f.look; rfl; have := b1.2.2.1; rw [nonB_iff.1 h9] at this; exact absurd this (by decide)
      rw [if_neg (by rw [na]; decide), if_neg (by rw [nb]; decide)]
      simp only [List.nil_append, List.append_nil, List.cons_append, List.length_cons, List.length_nil]
      apply ft_ext <;> simp [gI, stI, c5, a3, b3]
  have hS : cfS s = f := by
    have nW : ¬ famI f.what < 0 := by omega
    unfold cfS
    rw [hcut, eW]
    rcases hwh with a | ⟨a1, a2, a3⟩ <;> rcases hlo with b | ⟨b1, b2, b3, b4⟩ <;> rcases hsi with d | d
    · have ea := nonB_iff.1 a
      have eb := nonB_iff.1 b
      have ed := nonB_iff.1 d
      rw [if_pos a, if_pos b, if_pos d]
      simp only [List.nil_append, List.append_nil, List.cons_append, List.length_cons, List.length_nil]
      apply ft_ext <;> simp [gS, stS, c5, ea, eb, ed, c2, w5]
    · have ea := nonB_iff.1 a
      have eb := nonB_iff.1 b
      have nd : nonB f.side = false := by cases h9 : nonB f.side; rfl; have := d.2.2.1; rw [nonB_iff.1 h9] at this; exact absurd this (by decide)
      rw [if_pos a, if_pos b, if_neg (by rw [nd]; decide)]
      simp only [List.nil_append, List.append_nil, List.cons_append, List.length_cons, List.length_nil]
      apply ft_ext <;> simp [gS, stS, c5, ea, eb, c2, w5, w2, hsd.1, hsd.2.1, hsd.2.2]
    · have ea := nonB_iff.1 a
      have ed := nonB_iff.1 d
      have nb : nonB f.look = false := by cases h9 : nonB f.look; rfl; have := b1.2.2.1; rw [nonB_iff.1 h9] at this; exact absurd this (by decide)
      rw [if_pos a, if_neg (by rw [nb]; decide), if_pos d]
      simp only [List.nil_append, List.append_nil, List.cons_append, List.length_cons, List.length_nil]
      apply ft_ext <;> simp [gS, stS, c5, ea, ed, c2, w5, b1.2.1, b2, b3, b4]
    · have ea := nonB_iff.1 a
      have nd : nonB f.side = false := by cases h9 : nonB f.side; rfl; have := d.2.2.1; rw [nonB_iff.1 h9] at this; exact absurd this (by decide)
      have nb : nonB f.look = false := by cases h9 : nonB f.look; rfl; have := b1.2.2.1; rw [nonB_iff.1 h9] at this; exact absurd this (by decide)
      rw [if_pos a, if_neg (by rw [nb]; decide), if_neg (by rw [nd]; decide)]
      simp only [List.nil_append, List.append_nil, List.cons_append, List.length_cons, List.length_nil]
      apply ft_ext <;> simp [gS, stS, c5, ea, c2, w5, w2, b1.2.1, b2, b3, b4, hsd.1, hsd.2.1, hsd.2.2]
    · have na : nonB f.which = false := by cases h9 : nonB f.which; rfl; have := a1.2.2.1; rw [nonB_iff.1 h9] at this; exact absurd this (by decide)
      have eb := nonB_iff.1 b
      have ed := nonB_iff.1 d
      rw [if_neg (by rw [na]; decide), if_pos b, if_pos d]
      simp only [List.nil_append, List.append_nil, List.cons_append, List.length_cons, List.length_nil]
      apply ft_ext <;> simp [gS, stS, c5, eb, ed, c2, w5, a1.2.1, a2, a3]
    · have na : nonB f.which = false := by cases h9 : nonB f.which; rfl; have := a1.2.2.1; rw [nonB_iff.1 h9] at this; exact absurd this (by decide)
      have eb := nonB_iff.1 b
      have nd : nonB f.side = false := by cases h9 : nonB f.side; rfl; have := d.2.2.1; rw [nonB_iff.1 h9] at this; exact absurd this (by decide)
      rw [if_neg (by rw [na]; decide), if_pos b, if_neg (by rw [nd]; decide)]
      simp only [List.nil_append, List.append_nil, List.cons_append, List.length_cons, List.length_nil]
      apply ft_ext <;> simp [gS, stS, c5, eb, c2, w5, w2, a1.2.1, a2, a3, hsd.1, hsd.2.1, hsd.2.2]
    · have na : nonB f.which = false := by cases h9 : nonB f.which; rfl; have := a1.2.2.1; rw [nonB_iff.1 h9] at this; exact absurd this (by decide)
      have nb : nonB f.look = false := by cases h9 : nonB f.look; rfl; have := b1.2.2.1; rw [nonB_iff.1 h9] at this; exact absurd this (by decide)
      have ed := nonB_iff.1 d
      rw [if_neg (by rw [na]; decide), if_neg (by rw [nb]; decide), if_pos d]
      simp only [List.nil_append, List.append_nil, List.cons_append, List.length_cons, List.length_nil]
      apply ft_ext <;> simp [gS, stS, c5, ed, c2, w5, a1.2.1, a2, a3, b1.2.1, b2, b3, b4]
    · have na : nonB f.which = false := by cases h9 : nonB f.which; rfl; have := a1.2.2.1; rw [nonB_iff.1 h9] at this; exact absurd this (by decide)
      have nb : nonB f.look = false := by cases h9 : nonB f.look; rfl; have := b1.2.2.1; rw [nonB_iff.1 h9] at this; exact absurd this (by decide)
      have nd : nonB f.side = false := by cases h9 : nonB f.side; rfl; have := d.2.2.1; rw [nonB_iff.1 h9] at this; exact absurd this (by decide)
      rw [if_neg (by rw [na]; decide), if_neg (by rw [nb]; decide), if_neg (by rw [nd]; decide)]
      simp only [List.nil_append, List.append_nil, List.cons_append, List.length_cons, List.length_nil]
      apply ft_ext <;> simp [gS, stS, c5, c2, w5, w2, a1.2.1, a2, a3, b1.2.1, b2, b3, b4, hsd.1, hsd.2.1, hsd.2.2]
  refine ⟨?_, ?_, hI, hS⟩
  · have s1 : f.which.size ≤ 6 := by
      rcases hwh with a | a
      · rw [size0 a]; omega
      · exact a.1.2.2.2
    have s2 : f.look.size ≤ 9 := by
      rcases hlo with a | a
      · rw [size0 a]; omega
      · exact a.1.2.2.2
    have s3 : f.side.size ≤ 7 := by
      rcases hsi with a | a
      · rw [size0 a]; omega
      · exact a.2.2.2
    have s4 : sideS.size = 6 := rfl
    have s5 := t1_size f
    have s6 := t2_size f
    rw [← hs]
    unfold ftB l3T
    have s7 : (⟨#[32, 115, 105, 100, 101, 32]⟩ : ByteArray).size = 6 := rfl
    split <;> simp only [ByteArray.size_append, hsp, s7] <;> omega
  · rw [hparts.1, e9]
    exact c4
open Classical in
/-- The feature that a text is, if any. -/
noncomputable def pfF (s : ByteArray) : Option Ft := if h : ∃ f, okFt f = true ∧ ftB f = s then some h.choose else none
noncomputable def pfOk (s : ByteArray) : Bool := (pfF s).isSome
def ftZ0 : Ft := ⟨0, ⟨#[]⟩, ⟨#[]⟩, ⟨#[]⟩, ⟨#[]⟩⟩
noncomputable def pfV (s : ByteArray) : Ft := (pfF s).getD ftZ0
theorem pf_some {s : ByteArray} {f : Ft} (h1 : okFt f = true) (h2 : ftB f = s) : pfOk s = true ∧ pfV s = f := by
  have e : pfF s = some f := by
    unfold pfF
    have hx : ∃ k, okFt k = true ∧ ftB k = s := ⟨f, h1, h2⟩
    rw [dif_pos hx]
    congr 1
    obtain ⟨g1, g2⟩ := hx.choose_spec
    exact ((pf_key g1 g2).candI).symm.trans (pf_key h1 h2).candI
  unfold pfOk pfV; rw [e]; exact ⟨rfl, rfl⟩
theorem pf_none {s : ByteArray} (h : ∀ f, okFt f = true → ftB f = s → False) : pfOk s = false ∧ pfV s = ftZ0 := by
  have e : pfF s = none := by
    unfold pfF
    rw [dif_neg]
    rintro ⟨f, h1, h2⟩
    exact h f h1 h2
  unfold pfOk pfV; rw [e]; exact ⟨rfl, rfl⟩
theorem pf_nil : ∀ f, okFt f = true → ftB f = (⟨#[]⟩ : ByteArray) → False := by
  intro f h e
  have := (pf_key h e).num
  revert this
  decide
end Go.Proofs.YtmmpcchjalgokaaDoor
