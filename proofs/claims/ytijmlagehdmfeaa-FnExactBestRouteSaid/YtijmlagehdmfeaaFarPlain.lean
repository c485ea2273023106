/- Plain laws: the farthest cell, the cells within a time, the best route. -/
import Derived.Test.YtijmlagehdmfeaaDetour
namespace Go.Proofs.Ytijmlagehdmfeaa
set_option linter.unusedVariables false
set_option linter.unusedSimpArgs false
open Go.RowKit
theorem asked1 (m : Mp) (a : Int) : (!([a].any fun x => !(okM m && opM m x))) = asked m a a := by
  unfold asked
  simp only [List.any_cons, List.any_nil]
  cases okM m <;> cases opM m a <;> rfl
theorem canRoute_1 {m : Mp} {v : Value} {A : Option Addr} {a : Int} {cq : Nat} {w : World} (hv : MapIn w m v) (hR : Rd w w.heap.size 1 A 1 (ints [a])) :
    Calls Try.prog 83 #[v, .slice A 1 cq] w fun e w' => e = .returned (.bool (asked m a a)) ∧ Below w.heap.size w w' := by
  have := canRoute_any (l := [a]) (cq := cq) hv hR (by simp only [maxLen]; omega)
  rw [asked1] at this
  exact this
/-- The farthest of the first k cells, and its time. -/
def fcP (m : Mp) (a : Nat) : Nat → Int × Int
  | 0 => (0, -1)
  | k + 1 => if 0 < coA m k ∧ (fcP m a k).2 < finV m k a then ((k : Int), finV m k a) else fcP m a k
theorem fcP_bd {m : Mp} (V : Valid m) {a : Nat} (ha : a < m.co.length) : ∀ k, k ≤ m.co.length → -1 ≤ (fcP m a k).2 ∧ (fcP m a k).2 ≤ 1440 := by
  intro k
  induction k with
  | zero => intro _; simp [fcP]
  | succ k ih =>
    intro hk
    have := ih (by omega)
    rw [fcP]
    split
    · exact ⟨finV_lo V (by omega) ha, finV_hi V (by omega) ha⟩
    · exact this
def fcV1 (m : Mp) (a : Int) : Int := if asked m a a = true then (fcP m a.toNat m.co.length).1 else 0
def fcV2 (m : Mp) (a : Int) : Int := if asked m a a = true then (fcP m a.toNat m.co.length).2 else 0
def fcOk (m : Mp) (a : Int) : Bool := asked m a a
/-- The cells within a time. -/
def cwP (m : Mp) (a : Nat) (t : Int) (k : Nat) : Bool := decide (0 < coA m k) && (decide (0 ≤ finV m k a) && decide (finV m k a ≤ t))
def cwOk (m : Mp) (a t : Int) : Bool := asked m a a && decide (0 ≤ t)
def cwL (m : Mp) (a : Nat) (t : Int) (k : Nat) : List Nat := (List.range k).filter (cwP m a t)
def cwR (m : Mp) (a t : Int) : List Int := if cwOk m a t = true then cast (cwL m a.toNat t m.co.length) else []
theorem cwL_len (m : Mp) (a : Nat) (t : Int) (k : Nat) : (cwL m a t k).length ≤ k := by
  have := List.length_filter_le (cwP m a t) (List.range k); simpa [cwL] using this
theorem cwL_succ (m : Mp) (a : Nat) (t : Int) (k : Nat) : cwL m a t (k + 1) = cwL m a t k ++ (if cwP m a t k then [k] else []) := range_filter_succ _ _
theorem cwR_b (m : Mp) (a t : Int) : (cwR m a t).length ≤ 1000 := by
  unfold cwR
  split
  · next h =>
    unfold cwOk at h
    rw [Bool.and_eq_true] at h
    have V := (asked_cases h.1).1
    have := cwL_len m a.toNat t m.co.length
    have := V.n36
    rw [cast_len]; omega
  · simp
/-- The best route. -/
def brP (m : Mp) (b a : Nat) (k : Nat) : Bool := decide (0 ≤ finV m b k) && decide (finV m b k + stepV m a k = finV m b a)
def brNext (m : Mp) (b a : Nat) : Nat := ((nextN m a).find? (brP m b a)).getD a
theorem brNext_at {m : Mp} {b a e : Nat} (he : e < (nextN m a).length) (h : brP m b a (nextN m a)[e] = true) (hb : ∀ i (hi : i < e), brP m b a ((nextN m a)[i]'(by omega)) = false) : brNext m b a = (nextN m a)[e] := by
  unfold brNext
  rw [show (nextN m a).find? (brP m b a) = some (nextN m a)[e] from List.find?_eq_some_iff_getElem.2 ⟨h, e, he, rfl, fun j hj => by simp [hb j hj]⟩]
  rfl
theorem brNext_has {m : Mp} (V : Valid m) {b a : Nat} (hb : b < m.co.length) (ha : a < m.co.length) (ho : 0 < coA m a) (h : 0 ≤ finV m b a) (hne : a ≠ b) : ¬ ∀ i (hi : i < (nextN m a).length), brP m b a (nextN m a)[i] = false := by
  intro hall
  obtain ⟨n, hn, h0, h1⟩ := finV_way V hb ha ho h hne
  obtain ⟨i, hi, rfl⟩ := List.mem_iff_getElem.1 hn
  have := hall i hi
  unfold brP at this
  simp [h0, h1] at this
def brF (m : Mp) (b : Nat) : Nat → Nat → List Nat
  | 0, a => [a]
  | f + 1, a => if a = b then [a] else a :: brF m b f (brNext m b a)
theorem brF_len (m : Mp) (b : Nat) : ∀ f a, (brF m b f a).length ≤ f + 1 := by
  intro f
  induction f with
  | zero => intro a; simp [brF]
  | succ f ih => intro a; rw [brF]; split
                 · simp
                 · have := ih (brNext m b a); simp; omega
theorem brF_stop (m : Mp) (b f : Nat) : brF m b f b = [b] := by
  cases f <;> simp [brF]
theorem brF_go {m : Mp} (V : Valid m) {b a f e : Nat} (hb : b < m.co.length) (ha : a < m.co.length) (ho : 0 < coA m a) (h : 0 ≤ finV m b a) (hne : a ≠ b) (hf : finV m b a ≤ f)
    (he : e < (nextN m a).length) (h1 : brP m b a (nextN m a)[e] = true) (hb2 : ∀ i (hi : i < e), brP m b a ((nextN m a)[i]'(by omega)) = false) :
    ∃ f', f = f' + 1 ∧ brF m b f a = a :: brF m b f' (nextN m a)[e] ∧ finV m b (nextN m a)[e] ≤ f' ∧ 0 ≤ finV m b (nextN m a)[e] ∧ (nextN m a)[e] < m.co.length ∧ 0 < coA m (nextN m a)[e] ∧ finV m b (nextN m a)[e] < finV m b a := by
  have hp := h1
  unfold brP at hp
  simp only [Bool.and_eq_true, decide_eq_true_eq] at hp
  have hm : (nextN m a)[e] ∈ nextN m a := List.getElem_mem he
  have s := step_pos V hm
  have hm2 := mem_nextN.1 hm
  obtain ⟨f', rfl⟩ : ∃ f', f = f' + 1 := ⟨f - 1, by omega⟩
  refine ⟨f', rfl, ?_, by omega, hp.1, hm2.1, hm2.2.1, by omega⟩
  rw [brF, if_neg hne, brNext_at he h1 hb2]
def brR (m : Mp) (a b : Int) : List Int := if ltOk m a b = true then cast (brF m b.toNat 1440 a.toNat) else []
theorem brR_b (m : Mp) (a b : Int) : (brR m a b).length ≤ 2000 := by
  unfold brR
  split
  · have := brF_len m b.toNat 1440 a.toNat
    rw [cast_len]; omega
  · simp
end Go.Proofs.Ytijmlagehdmfeaa
