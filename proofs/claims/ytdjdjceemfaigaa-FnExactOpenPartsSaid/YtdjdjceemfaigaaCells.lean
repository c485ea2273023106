/- Contracts: cells of a Map, their distance, the cells next to one. -/
import Derived.Test.YtdjdjceemfaigaaMp
namespace Go.Proofs.Ytdjdjceemfaigaa
set_option linter.unusedVariables false
set_option linter.unusedSimpArgs false
open Go.RowKit
def absI (x : Int) : Int := max x (-x)
def gapV (wd a b : Int) : Int := absI (a % wd - b % wd) + absI (a / wd - b / wd)
theorem absOf_any (x : Int) (w : World) (h1 : -1000000 ≤ x) (h2 : x ≤ 1000000) :
    Calls Try.prog 35 #[.int .i64 x] w fun e w' => e = .returned (.int .i64 (absI x)) ∧ w = w' := by
  go_enter Try.func35, Try.ntmps35
  go_wp2
  all_goals go_ret
  all_goals exact ⟨ret_int (by unfold absI; omega), rfl⟩
set_option maxHeartbeats 1000000 in
theorem gapOf_any {m : Mp} {v : Value} {a b : Int} {w : World} (hv : MapIn w m v) (hw1 : 1 ≤ m.wd) (hw6 : m.wd ≤ 6) (ha : 0 ≤ a) (ha2 : a < 1000) (hb : 0 ≤ b) (hb2 : b < 1000) :
    Calls Try.prog 31 #[v, .int .i64 a, .int .i64 b] w fun e w' => e = .returned (.int .i64 (gapV m.wd a b)) ∧ Below w.heap.size w w' := by
  obtain ⟨A, n, c, B, k, d, rfl, h1, h2, h3, h4⟩ := hv
  have e1 : 0 ≤ a % m.wd ∧ a % m.wd < 6 := ⟨Int.emod_nonneg _ (by omega), by have := Int.emod_lt_of_pos a (show 0 < m.wd by omega); omega⟩
  have e2 : 0 ≤ b % m.wd ∧ b % m.wd < 6 := ⟨Int.emod_nonneg _ (by omega), by have := Int.emod_lt_of_pos b (show 0 < m.wd by omega); omega⟩
  have e3 : 0 ≤ a / m.wd ∧ a / m.wd < 1000 := ⟨Int.ediv_nonneg ha (by omega), by have := Int.ediv_le_self m.wd ha; omega⟩
  have e4 : 0 ≤ b / m.wd ∧ b / m.wd < 1000 := ⟨Int.ediv_nonneg hb (by omega), by have := Int.ediv_le_self m.wd hb; omega⟩
  obtain ⟨e11, e12⟩ := e1
  obtain ⟨e21, e22⟩ := e2
  obtain ⟨e31, e32⟩ := e3
  obtain ⟨e41, e42⟩ := e4
  have b1 : 0 ≤ absI (a % m.wd - b % m.wd) ∧ absI (a % m.wd - b % m.wd) ≤ 6 := by unfold absI; omega
  have b2 : 0 ≤ absI (a / m.wd - b / m.wd) ∧ absI (a / m.wd - b / m.wd) ≤ 1000 := by unfold absI; omega
  obtain ⟨b11, b12⟩ := b1
  obtain ⟨b21, b22⟩ := b2
  have hw0 : (m.wd == 0) = false := by simp; omega
  go_enter Try.func31, Try.ntmps31
  go_wp2_with fail
  go_quiet ((go_at_call 35; exact Calls.quiet_of_same ((absOf_any _ _ (by omega) (by omega)).mono fun _ _ ⟨p, q⟩ => ⟨p, q.symm⟩)))
  go_wp2_with fail
  go_ret
  exact ⟨rfl, (by repeat (first | exact Below.refl _ _ | refine below_drewN ?_ _ | refine Below.drew ?_ | refine Below.alloc ?_ (by first | omega | (simp; done) | (simp; omega)) _ | refine Below.setCell ?_ (by first | omega | (simp; done) | (simp; omega)) _))⟩
def riA (m : Mp) (i : Int) : Int := m.ri.getD i.toNat 0
def coA (m : Mp) (i : Int) : Int := m.co.getD i.toNat 0
theorem riA_nat (m : Mp) {i : Nat} (h : i < m.ri.length) : riA m (i : Int) = m.ri[i] := by simp [riA, List.getD, h]
theorem coA_nat (m : Mp) {i : Nat} (h : i < m.co.length) : coA m (i : Int) = m.co[i] := by simp [coA, List.getD, h]
theorem Valid.ri_bd {m : Mp} (V : Valid m) (i : Int) : 0 ≤ riA m i ∧ riA m i ≤ 9 := by
  unfold riA
  rw [List.getD_eq_getElem?_getD]
  cases h : m.ri[i.toNat]? with
  | none => simp
  | some x => exact V.ro x (List.mem_of_getElem? h)
theorem Valid.co_bd {m : Mp} (V : Valid m) (i : Int) : 0 ≤ coA m i ∧ coA m i ≤ 9 := by
  unfold coA
  rw [List.getD_eq_getElem?_getD]
  cases h : m.co[i.toNat]? with
  | none => simp
  | some x => exact V.cs x (List.mem_of_getElem? h)
def stepV (m : Mp) (a b : Int) : Int := coA m b + 2 * max (riA m b - riA m a) 0 + max (-(riA m b - riA m a) - 2) 0
theorem Valid.step_bd {m : Mp} (V : Valid m) (a b : Int) : 0 ≤ stepV m a b ∧ stepV m a b ≤ 40 := by
  have := V.ri_bd a; have := V.ri_bd b; have := V.co_bd b
  unfold stepV; omega
end Go.Proofs.Ytdjdjceemfaigaa
