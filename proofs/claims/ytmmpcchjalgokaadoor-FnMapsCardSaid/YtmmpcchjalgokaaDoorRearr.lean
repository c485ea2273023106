/- Plain laws and words for memory: a map's cells laid anew, into two rows of the call's own that a box points to. -/
import Derived.Test.YtmmpcchjalgokaaDoorMp
import Derived.Test.YtmmpcchjalgokaaDoorRg
import Derived.Test.YtmmpcchjalgokaaDoorCh
namespace Go.Proofs.YtmmpcchjalgokaaDoor
set_option linter.unusedVariables false
set_option linter.unusedSimpArgs false
open Go.RowKit
theorem Ch.set {g i : Nat} {u : Value} (w : World) : Ch (fun k => k = g) w (w.setCell ⟨g, i, none⟩ u) :=
  ⟨rfl, rfl, rfl, (by simp), fun k _ hk => Below.heap_setCell w ⟨g, i, none⟩ u k hk⟩
def rowL (l : List Int) (I : Nat → Nat → Int) (y x : Nat) : List Int := (List.range x).map fun k => l.getD (I k y).toNat 0
theorem rowL_succ (l : List Int) (I : Nat → Nat → Int) (y x : Nat) : rowL l I y (x + 1) = rowL l I y x ++ [l.getD (I x y).toNat 0] := by simp [rowL, List.range_succ]
theorem rowL_len (l : List Int) (I : Nat → Nat → Int) (y x : Nat) : (rowL l I y x).length = x := by simp [rowL]
def allL (l : List Int) (I : Nat → Nat → Int) (wd : Nat) : Nat → List Int
  | 0 => []
  | y + 1 => allL l I wd y ++ rowL l I y wd
theorem allL_len (l : List Int) (I : Nat → Nat → Int) (wd : Nat) : ∀ y, (allL l I wd y).length = y * wd := by
  intro y
  induction y with
  | zero => simp [allL]
  | succ y ih => rw [allL, List.length_append, ih, rowL_len, Nat.succ_mul]
/-- What has been laid when y rows and x cells are through. -/
def soFar (l : List Int) (I : Nat → Nat → Int) (wd y x : Nat) : List Int := allL l I wd y ++ rowL l I y x
theorem soFar_len (l : List Int) (I : Nat → Nat → Int) (wd y x : Nat) : (soFar l I wd y x).length = y * wd + x := by rw [soFar, List.length_append, allL_len, rowL_len]
theorem soFar_zero (l : List Int) (I : Nat → Nat → Int) (wd y : Nat) : soFar l I wd y 0 = allL l I wd y := by simp [soFar, rowL]
theorem soFar_succ (l : List Int) (I : Nat → Nat → Int) (wd y x : Nat) : soFar l I wd y (x + 1) = soFar l I wd y x ++ [l.getD (I x y).toNat 0] := by rw [soFar, soFar, rowL_succ, List.append_assoc]
theorem soFar_row (l : List Int) (I : Nat → Nat → Int) (wd y : Nat) : soFar l I wd y wd = allL l I wd (y + 1) := rfl
theorem cells36 {wd ht x y : Nat} (hw : wd ≤ 6) (hh : ht ≤ 6) (hy : y ≤ ht) (hx : x ≤ wd) : y * wd + x ≤ 42 := by
  have := Nat.mul_le_mul (show y ≤ 6 by omega) hw
  omega
theorem idx_bd {wd ht x y : Nat} (hx : x < wd) (hy : y < ht) : y * wd + x < ht * wd := by
  have := Nat.mul_le_mul_right wd (show y + 1 ≤ ht by omega)
  rw [Nat.succ_mul] at this
  omega
/-- Two rows of the call's own, apart from each other and from the box X. -/
structure Two (w : World) (base X : Nat) (A B : Option Addr) (n c d : Nat) (xs ys : List Int) (m : Nat) : Prop where
  oa : w.ownsRow base 3 1 (.slice A n c) n (ints xs)
  ob : w.ownsRow base 3 1 (.slice B m d) m (ints ys)
  ab : ∀ k, Value.ownBlock (.slice A n c) = some k → Value.ownBlock (.slice B m d) ≠ some k
  ax : Value.ownBlock (.slice A n c) ≠ some X
  bx : Value.ownBlock (.slice B m d) ≠ some X
theorem Two.ch {S : Nat → Prop} {w w' : World} {base X : Nat} {A B : Option Addr} {n c d m : Nat} {xs ys : List Int} (h : Two w base X A B n c d xs ys m) (hc : Ch S w w') (ha : ∀ k, Value.ownBlock (.slice A n c) = some k → ¬ S k) (hb : ∀ k, Value.ownBlock (.slice B m d) = some k → ¬ S k) :
    Two w' base X A B n c d xs ys m := ⟨own_ch h.oa hc ha, own_ch h.ob hc hb, h.ab, h.ax, h.bx⟩
theorem Two.on {w w' : World} {base X : Nat} {A B : Option Addr} {n c d m : Nat} {xs ys : List Int} (h : Two w base X A B n c d xs ys m) (hb : Below w.heap.size w w') : Two w' base X A B n c d xs ys m :=
  ⟨own_below h.oa hb, own_below h.ob hb, h.ab, h.ax, h.bx⟩
theorem Two.swap {w : World} {base X : Nat} {A B : Option Addr} {n c d m : Nat} {xs ys : List Int} (h : Two w base X A B n c d xs ys m) : Two w base X B A m d c ys xs n :=
  ⟨h.ob, h.oa, fun k hk h2 => h.ab k h2 hk, h.bx, h.ax⟩
/-- A store into the box leaves both. -/
theorem Two.box {w : World} {base X i : Nat} {u : Value} {A B : Option Addr} {n c d m : Nat} {xs ys : List Int} (h : Two w base X A B n c d xs ys m) : Two (w.setCell ⟨X, i, none⟩ u) base X A B n c d xs ys m :=
  h.ch (Ch.set (g := X) (i := i) (u := u) w) (fun k hk e => h.ax (by rw [hk, e])) (fun k hk e => h.bx (by rw [hk, e]))
/-- One more in the first row. -/
theorem Two.push {w w1 : World} {base X : Nat} {A B : Option Addr} {n c d m g cap : Nat} {xs ys : List Int} {x : Int} (h : Two w base X A B n c d xs ys m) (hX : X < w.heap.size)
    (hown : w1.ownsRow base 3 1 (.slice (some ⟨g, 0, none⟩) (n + 1) cap) (n + 1) (ints (xs ++ [x]))) (hgrow : w.grownBy w1 (Value.ownBlock (.slice A n c))) (hat : Value.ownBlock (.slice A n c) = some g ∨ g = w.heap.size) :
    Two w1 base X (some ⟨g, 0, none⟩) B (n + 1) cap d (xs ++ [x]) ys m := by
  have hc : Ch (fun k => Value.ownBlock (.slice A n c) = some k) w w1 := Ch.of_grown hgrow (fun _ h => h)
  refine ⟨hown, own_ch h.ob hc (fun k hk h2 => h.ab k h2 hk), fun k hk h2 => ?_, fun h2 => ?_, h.bx⟩
  · have hgk : g = k := by simpa [Value.ownBlock] using hk
    subst hgk
    rcases hat with e | e
    · exact h.ab g e h2
    · have := (h.ob.lt g h2).2; omega
  · have hgk : g = X := by simpa [Value.ownBlock] using h2
    subst hgk
    rcases hat with e | e
    · exact h.ax e
    · omega
end Go.Proofs.YtmmpcchjalgokaaDoor
