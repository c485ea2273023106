/- Plain laws: a map's text, cell by cell and row by row. -/
import Derived.Test.YtmmpcchjalgokaaDoorMp
import Derived.Test.YtmmpcchjalgokaaDoorNum
import Derived.Lib.Join
namespace Go.Proofs.YtmmpcchjalgokaaDoor
set_option linter.unusedVariables false
set_option linter.unusedSimpArgs false
open Go.RowKit
def cW (m : Mp) : Nat := m.wd.toNat
def cH (m : Mp) : Nat := m.ht.toNat
def coA (m : Mp) (c : Nat) : Int := m.co.getD c 0
def riA (m : Mp) (c : Nat) : Int := m.ri.getD c 0
/-- A cell's word. -/
def wrd (m : Mp) (c : Nat) : ByteArray := if 0 < coA m c then itoaB (coA m c) ++ itoaB (riA m c) else ⟨#[35, 35]⟩
def badC (m : Mp) (c : Nat) : Bool := !decide (0 < coA m c) && !decide (riA m c = 0)
/-- The text behind c cells. -/
def l2T (m : Mp) : Nat → ByteArray
  | 0 => ⟨#[]⟩
  | c + 1 => if c % cW m = cW m - 1 then (if 0 < c % cW m then l2T m c ++ (⟨#[32]⟩ : ByteArray) else l2T m c) ++ wrd m c ++ (⟨#[10]⟩ : ByteArray) else (if 0 < c % cW m then l2T m c ++ (⟨#[32]⟩ : ByteArray) else l2T m c) ++ wrd m c
def rowW (m : Mp) (y x : Nat) : List ByteArray := (List.range x).map fun i => wrd m (y * cW m + i)
def joinS (l : List ByteArray) : ByteArray := ⟨(Lib.join (l.map (·.data.toList)) [32]).toArray⟩
/-- The text behind y rows, as the program lays it. -/
def rT (m : Mp) : Nat → ByteArray
  | 0 => ⟨#[]⟩
  | y + 1 => rT m y ++ (joinS (rowW m y (cW m)) ++ (⟨#[10]⟩ : ByteArray))
theorem joinS_nil : joinS [] = ⟨#[]⟩ := rfl
theorem joinS_snoc (l : List ByteArray) (x : ByteArray) : joinS (l ++ [x]) = if l = [] then x else joinS l ++ (⟨#[32]⟩ : ByteArray) ++ x := by
  cases l with
  | nil =>
    rw [if_pos rfl]
    unfold joinS
    rw [List.nil_append, List.map_cons, List.map_nil, Lib.join_one]
  | cons a r =>
    rw [if_neg (by simp)]
    unfold joinS
    rw [List.cons_append, List.map_cons, Lib.join_cons, List.map_cons, Lib.join_cons]
    apply ByteArray.ext
    simp [Lib.joinTail]
theorem rowW_succ (m : Mp) (y x : Nat) : rowW m y (x + 1) = rowW m y x ++ [wrd m (y * cW m + x)] := by simp [rowW, List.range_succ]
theorem rowW_len (m : Mp) (y x : Nat) : (rowW m y x).length = x := by simp [rowW]
theorem mod_cell {W y x : Nat} (hx : x < W) : (y * W + x) % W = x := by
  rw [Nat.mul_comm, Nat.mul_add_mod, Nat.mod_eq_of_lt hx]
theorem l2T_row {m : Mp} (hW : 0 < cW m) (y : Nat) : ∀ x, x < cW m → l2T m (y * cW m + x) = l2T m (y * cW m) ++ joinS (rowW m y x)
  | 0, _ => by
    show l2T m (y * cW m + 0) = _ ++ joinS []
    rw [joinS_nil, Nat.add_zero]
    apply ByteArray.ext
    simp
  | x + 1, h => by
    have ih := l2T_row hW y x (by omega)
    rw [← Nat.add_assoc, l2T, mod_cell (show x < cW m by omega), if_neg (by omega), ih, rowW_succ, joinS_snoc]
    by_cases h0 : x = 0
    · subst h0
      rw [if_neg (by omega), if_pos (by simp [rowW])]
      have : joinS (rowW m y 0) = ⟨#[]⟩ := rfl
      rw [this]
      apply ByteArray.ext
      simp
    · rw [if_pos (by omega), if_neg (by intro h9; have := congrArg List.length h9; rw [rowW_len] at this; simp at this; omega)]
      simp only [ByteArray.append_assoc]
theorem l2T_full {m : Mp} (hW : 0 < cW m) (y : Nat) : l2T m ((y + 1) * cW m) = l2T m (y * cW m) ++ (joinS (rowW m y (cW m)) ++ (⟨#[10]⟩ : ByteArray)) := by
  obtain ⟨W1, hW1⟩ : ∃ W1, cW m = W1 + 1 := ⟨cW m - 1, by omega⟩
  have ih := l2T_row hW y W1 (by omega)
  have e : (y + 1) * cW m = y * cW m + W1 + 1 := by rw [Nat.succ_mul]; omega
  rw [e, l2T, mod_cell (show W1 < cW m by omega), if_pos (by omega), ih, show rowW m y (cW m) = rowW m y (W1 + 1) by rw [hW1], rowW_succ, joinS_snoc]
  by_cases h0 : W1 = 0
  · subst h0
    rw [if_neg (by omega), if_pos (by simp [rowW])]
    have : joinS (rowW m y 0) = ⟨#[]⟩ := rfl
    rw [this]
    apply ByteArray.ext
    simp
  · rw [if_pos (by omega), if_neg (by intro h9; have := congrArg List.length h9; rw [rowW_len] at this; simp at this; omega)]
    simp only [ByteArray.append_assoc]
theorem rT_eq {m : Mp} (hW : 0 < cW m) : ∀ y, rT m y = l2T m (y * cW m)
  | 0 => by rw [Nat.zero_mul]; rfl
  | y + 1 => by rw [rT, rT_eq hW y, l2T_full hW]
def mtOk (m : Mp) : Bool := okM m && (List.range m.co.length).all fun c => !badC m c
def mtV (m : Mp) : ByteArray := if mtOk m = true then l2T m m.co.length else ⟨#[]⟩
theorem mt_bad {m : Mp} {c : Nat} (hc : c < m.co.length) (h : badC m c = true) : mtOk m = false := by
  unfold mtOk
  have : ((List.range m.co.length).all fun c => !badC m c) = false := by
    rw [List.all_eq_false]
    exact ⟨c, List.mem_range.2 hc, by simp [h]⟩
  rw [this]; simp
theorem mt_inv {m : Mp} (h : okM m = false) : mtOk m = false := by unfold mtOk; rw [h]; rfl
theorem mt_yes {m : Mp} (h : okM m = true) (h2 : ∀ c, c < m.co.length → badC m c = false) : mtOk m = true := by
  unfold mtOk
  rw [h]
  have : ((List.range m.co.length).all fun c => !badC m c) = true := by
    rw [List.all_eq_true]
    intro c hc
    simp [h2 c (List.mem_range.1 hc)]
  rw [this]; rfl
theorem mt_no {m : Mp} (h : mtOk m = false) : mtV m = ⟨#[]⟩ := by unfold mtV; rw [h]; rfl
theorem mt_v {m : Mp} (h : mtOk m = true) : mtV m = l2T m m.co.length := by unfold mtV; rw [if_pos h]
theorem cells_len {m : Mp} (V : Valid m) : m.co.length = cH m * cW m ∧ 1 ≤ cW m ∧ cW m ≤ 6 ∧ 1 ≤ cH m ∧ cH m ≤ 6 ∧ m.wd = (cW m : Int) ∧ m.ht = (cH m : Int) := by
  have w1 := V.w1; have w6 := V.w6; have h1 := V.h1; have h6 := V.h6
  have e1 : m.wd = (cW m : Int) := by unfold cW; omega
  have e2 : m.ht = (cH m : Int) := by unfold cH; omega
  have hl := V.lr
  rw [e1, e2, ← Int.natCast_mul, Nat.mul_comm] at hl
  have := V.lc
  exact ⟨by omega, by omega, by omega, by omega, by omega, e1, e2⟩
theorem coA_bd {m : Mp} (V : Valid m) (c : Nat) : 0 ≤ coA m c ∧ coA m c ≤ 9 ∧ 0 ≤ riA m c ∧ riA m c ≤ 9 := by
  unfold coA riA
  refine ⟨?_, ?_, ?_, ?_⟩ <;> rw [List.getD_eq_getElem?_getD]
  · cases h : m.co[c]? with
    | none => simp
    | some x => exact (V.cs x (List.mem_of_getElem? h)).1
  · cases h : m.co[c]? with
    | none => simp
    | some x => exact (V.cs x (List.mem_of_getElem? h)).2
  · cases h : m.ri[c]? with
    | none => simp
    | some x => exact (V.ro x (List.mem_of_getElem? h)).1
  · cases h : m.ri[c]? with
    | none => simp
    | some x => exact (V.ro x (List.mem_of_getElem? h)).2
theorem wrd_size {m : Mp} (V : Valid m) (c : Nat) : (wrd m c).size ≤ 42 := by
  obtain ⟨h1, h2, h3, h4⟩ := coA_bd V c
  have z1 := itoaB_size (n := coA m c) (by omega) (by omega)
  have z2 := itoaB_size (n := riA m c) (by omega) (by omega)
  unfold wrd
  split
  · rw [ByteArray.size_append]; omega
  · show 2 ≤ 42; omega
theorem l2T_size {m : Mp} (V : Valid m) : ∀ c, (l2T m c).size ≤ c * 44
  | 0 => by show 0 ≤ 0 * 44; omega
  | c + 1 => by
    have ih := l2T_size V c
    have hw := wrd_size V c
    have e32 : (⟨#[32]⟩ : ByteArray).size = 1 := rfl
    have e10 : (⟨#[10]⟩ : ByteArray).size = 1 := rfl
    rw [l2T]
    split <;> split <;> simp only [ByteArray.size_append, e32, e10] <;> omega
end Go.Proofs.YtmmpcchjalgokaaDoor
