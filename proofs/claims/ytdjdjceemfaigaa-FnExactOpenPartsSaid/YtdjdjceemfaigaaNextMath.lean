/- Plain law: the cells next to a cell, told in two ways. -/
import Derived.Test.YtdjdjceemfaigaaOpenCell
namespace Go.Proofs.Ytdjdjceemfaigaa
set_option linter.unusedVariables false
set_option linter.unusedSimpArgs false
def dif (x y : Nat) : Nat := (x - y) + (y - x)
def gapN (W a b : Nat) : Nat := dif (a % W) (b % W) + dif (a / W) (b / W)
def nbr (W H c : Nat) : List Nat :=
  (if 0 < c / W then [c - W] else []) ++ (if 0 < c % W then [c - 1] else []) ++ (if c % W + 1 < W then [c + 1] else []) ++ (if c / W + 1 < H then [c + W] else [])
set_option maxRecDepth 100000 in
theorem nbr_eq : ∀ W, W < 7 → ∀ H, H < 7 → ∀ c, c < W * H → (List.range (W * H)).filter (fun k => gapN W c k == 1) = nbr W H c := by decide +kernel
theorem gap_nat (W a b : Nat) : gapV (W : Int) (a : Int) (b : Int) = (gapN W a b : Int) := by
  unfold gapV gapN absI
  have h1 : (a : Int) % (W : Int) = ((a % W : Nat) : Int) := by simp
  have h2 : (b : Int) % (W : Int) = ((b % W : Nat) : Int) := by simp
  have h3 : (a : Int) / (W : Int) = ((a / W : Nat) : Int) := by simp
  have h4 : (b : Int) / (W : Int) = ((b / W : Nat) : Int) := by simp
  rw [h1, h2, h3, h4]
  generalize a % W = x; generalize b % W = y; generalize a / W = z; generalize b / W = u
  unfold dif
  omega
def openAt (m : Mp) (k : Nat) : Bool := decide (0 < coA m (k : Int))
/-- The open cells next to cell c, ascending. -/
def nextN (m : Mp) (c : Nat) : List Nat := (List.range m.co.length).filter fun k => openAt m k && decide (gapV m.wd c k = 1)
def cast (l : List Nat) : List Int := l.map fun (k : Nat) => (k : Int)
theorem cast_len (l : List Nat) : (cast l).length = l.length := by simp [cast]
def nextI (m : Mp) (c : Int) : List Int := cast (nextN m c.toNat)
theorem nextN_nbr {m : Mp} (V : Valid m) {c : Nat} (hc : c < m.co.length) : nextN m c = (nbr m.wd.toNat m.ht.toNat c).filter (openAt m) := by
  obtain ⟨W, hW⟩ := Int.eq_ofNat_of_zero_le (show 0 ≤ m.wd by have := V.w1; omega)
  obtain ⟨H, hH⟩ := Int.eq_ofNat_of_zero_le (show 0 ≤ m.ht by have := V.h1; omega)
  have hn : m.co.length = W * H := by
    have := V.n; rw [hW, hH] at this; exact_mod_cast this
  have w6 := V.w6
  have h6 := V.h6
  unfold nextN
  rw [hW, hH, Int.toNat_natCast, Int.toNat_natCast, hn]
  rw [← nbr_eq W (by omega) H (by omega) c (by omega), List.filter_filter]
  apply List.filter_congr
  intro k _
  rw [gap_nat]
  congr 1
  rw [Bool.eq_iff_iff]
  simp; omega
theorem mem_nextN {m : Mp} {c k : Nat} : k ∈ nextN m c ↔ k < m.co.length ∧ 0 < coA m k ∧ gapV m.wd c k = 1 := by
  unfold nextN openAt
  simp [List.mem_filter]
theorem nextN_len {m : Mp} (V : Valid m) (c : Nat) : (nextN m c).length ≤ 36 := by
  have h := List.length_filter_le (fun k => openAt m k && decide (gapV m.wd c k = 1)) (List.range m.co.length)
  have := V.n36
  simp at h
  unfold nextN; omega
end Go.Proofs.Ytdjdjceemfaigaa
