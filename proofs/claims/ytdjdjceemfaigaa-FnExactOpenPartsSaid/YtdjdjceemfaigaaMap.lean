/- Contracts: what is inside a range, and a Map made, compared, measured. -/
import Derived.Test.YtdjdjceemfaigaaInts
import Derived.Test.YtdjdjceemfaigaaRange
namespace Go.Proofs.Ytdjdjceemfaigaa
set_option linter.unusedVariables false
set_option linter.unusedSimpArgs false
open Go.RowKit
theorem szMap_any {wd ht : Int} {A : Option Addr} {n c : Nat} {B : Option Addr} {m d : Nat} {w : World} (hn : n ≤ maxLen) (hm : m ≤ maxLen) :
    Calls Try.prog 4 #[.agg #[.int .i64 wd, .int .i64 ht, .slice A n c, .slice B m d], .int .i64 1048576] w fun e w' => e = .returned (.int .i64 (if 1048576 < n + m then -1 else 1048576 - n - m)) ∧ Below w.heap.size w w' := by
  have hn' := hn
  have hm' := hm
  unfold maxLen at hn' hm'
  by_cases h1 : (1048576 : Int) < n
  · rw [if_pos (by omega)]
    go_enter Try.func4, Try.ntmps4
    go_wp2_with (go_at_call 13; refine (szIntS_any _ _ _ _ _ (by omega) (by omega) hn).mono ?_; rintro e w' ⟨rfl, rfl⟩; rw [if_pos (by omega)])
    go_ret
    exact ⟨rfl, (Below.refl _ _).alloc (Nat.le_refl _) _⟩
  · by_cases h2 : (1048576 : Int) - n < m
    · rw [if_pos (by omega)]
      go_enter Try.func4, Try.ntmps4
      go_wp2_with fail
      refine (szIntS_any _ _ _ _ _ (by omega) (by omega) hn).mono ?_; rintro e w' ⟨rfl, rfl⟩; rw [if_neg (by omega)]
      go_wp2_with fail
      refine (szIntS_any _ _ _ _ _ (by omega) (by omega) hm).mono ?_; rintro e w' ⟨rfl, rfl⟩; rw [if_pos (by omega)]
      go_wp2_with fail
      go_ret
      exact ⟨rfl, (Below.refl _ _).alloc (Nat.le_refl _) _⟩
    · rw [if_neg (by omega)]
      go_enter Try.func4, Try.ntmps4
      go_wp2_with fail
      refine (szIntS_any _ _ _ _ _ (by omega) (by omega) hn).mono ?_; rintro e w' ⟨rfl, rfl⟩; rw [if_neg (by omega)]
      go_wp2_with fail
      refine (szIntS_any _ _ _ _ _ (by omega) (by omega) hm).mono ?_; rintro e w' ⟨rfl, rfl⟩; rw [if_neg (by omega)]
      go_wp2_with fail
      go_ret
      exact ⟨rfl, (Below.refl _ _).alloc (Nat.le_refl _) _⟩
theorem toMap_any {wd ht : Int} {A : Option Addr} {n c : Nat} {B : Option Addr} {m d : Nat} {ri co : List Int} {w : World} (hA : Rd w w.heap.size 1 A n (ints ri)) (hB : Rd w w.heap.size 1 B m (ints co)) (hn : n ≤ 1048576) (hm : m ≤ 1048576) :
    Calls Try.prog 6 #[.agg #[.int .i64 wd, .int .i64 ht, .slice A n c, .slice B m d]] w fun e w' => ∃ g1 g2, e = .returned (.agg #[.int .i64 wd, .int .i64 ht, .slice (some ⟨g1, 0, none⟩) n n, .slice (some ⟨g2, 0, none⟩) m m]) ∧
      Blk w' g1 3 (ints ri) ∧ Blk w' g2 3 (ints co) ∧ w.heap.size ≤ g1 ∧ g1 < g2 ∧ Below w.heap.size w w' := by
  go_enter Try.func6, Try.ntmps6
  go_wp2_with fail
  refine (toIntS_any _ _ _ w.heap.size _ _ (by exact hA.below (by go_grown)) (by simp; omega) hn).mono ?_
  rintro e w1 ⟨rfl, rfl⟩
  go_wp2_with fail
  refine (toIntS_any _ _ _ w.heap.size _ _ (by exact hB.below (by go_grown)) (by simp; omega) hm).mono ?_
  rintro e w2 ⟨rfl, rfl⟩
  go_wp2_with fail
  refine bodyPost_ret (v := .agg #[.int .i64 wd, .int .i64 ht, .slice (some ⟨w.heap.size + 1 + 1 + 1, 0, none⟩) n n, .slice (some ⟨w.heap.size + 1 + 1 + 1 + 1, 0, none⟩) m m]) (by simp [results, Try.results6, go_sem]) rfl ⟨_, _, rfl, ?_, ?_, ?_, ?_, ?_⟩
  · have h := (Blk.new (((w.alloc (.cells #[.int .i64 wd, .int .i64 ht, .slice A n c, .slice B m d] 24)).alloc (.cells #[.int .i64 wd, .int .i64 ht, .slice (some ⟨w.heap.size + 1 + 1 + 1, 0, none⟩) n n, .slice (some ⟨w.heap.size + 1 + 1 + 1 + 1, 0, none⟩) m m] 29)).alloc (.cells #[.int .i64 wd, .int .i64 ht, .slice (some ⟨w.heap.size + 1 + 1 + 1, 0, none⟩) n n, .slice (some ⟨w.heap.size + 1 + 1 + 1 + 1, 0, none⟩) m m] 29)) 3 (ints ri)).alloc (.cells (ints co).toArray 3)
    simpa using h
  · have h := Blk.new ((((w.alloc (.cells #[.int .i64 wd, .int .i64 ht, .slice A n c, .slice B m d] 24)).alloc (.cells #[.int .i64 wd, .int .i64 ht, .slice (some ⟨w.heap.size + 1 + 1 + 1, 0, none⟩) n n, .slice (some ⟨w.heap.size + 1 + 1 + 1 + 1, 0, none⟩) m m] 29)).alloc (.cells #[.int .i64 wd, .int .i64 ht, .slice (some ⟨w.heap.size + 1 + 1 + 1, 0, none⟩) n n, .slice (some ⟨w.heap.size + 1 + 1 + 1 + 1, 0, none⟩) m m] 29)).alloc (.cells (ints ri).toArray 3)) 3 (ints co)
    simpa using h
  · omega
  · omega
  · exact (by repeat (first | exact Below.refl _ _ | refine below_drewN ?_ _ | refine Below.drew ?_ | refine Below.alloc ?_ (by first | omega | (simp; done) | (simp; omega)) _ | refine Below.setCell ?_ (by first | omega | (simp; done) | (simp; omega)) _))
/-- Two Maps of the same data are found equal. -/
theorem eqMap_same {wd ht : Int} {A : Option Addr} {n c : Nat} {B : Option Addr} {m d : Nat} {ri co : List Int} {A' : Option Addr} {c' : Nat} {B' : Option Addr} {d' : Nat} {w : World}
    (hA : Rd w w.heap.size 1 A n (ints ri)) (hB : Rd w w.heap.size 1 B m (ints co)) (hn : n ≤ maxLen) (hm : m ≤ maxLen) (hA' : Rd w w.heap.size 1 A' n (ints ri)) (hB' : Rd w w.heap.size 1 B' m (ints co)) :
    Calls Try.prog 9 #[.agg #[.int .i64 wd, .int .i64 ht, .slice A n c, .slice B m d], .agg #[.int .i64 wd, .int .i64 ht, .slice A' n c', .slice B' m d']] w fun e w' =>
      e = .returned (.bool true) ∧ Below w.heap.size w w' := by
  have e1 : (wd != wd) = false := by simp
  have e2 : (ht != ht) = false := by simp
  go_enter Try.func9, Try.ntmps9
  go_wp2_with fail
  refine (eqIntS_any _ _ _ _ _ _ w.heap.size w.heap.size _ _ _ (by exact hA.below (by repeat (first | exact Below.refl _ _ | refine below_drewN ?_ _ | refine Below.drew ?_ | refine Below.alloc ?_ (by first | omega | (simp; done) | (simp; omega)) _ | refine Below.setCell ?_ (by first | omega | (simp; done) | (simp; omega)) _))) (by exact hA'.below (by repeat (first | exact Below.refl _ _ | refine below_drewN ?_ _ | refine Below.drew ?_ | refine Below.alloc ?_ (by first | omega | (simp; done) | (simp; omega)) _ | refine Below.setCell ?_ (by first | omega | (simp; done) | (simp; omega)) _))) hn hn).mono ?_
  rintro e w1 ⟨rfl, q1, rfl⟩
  simp only [decide_true]
  go_wp2_with fail
  refine (eqIntS_any _ _ _ _ _ _ w.heap.size w.heap.size _ _ _ (by exact hB.below (by repeat (first | exact Below.refl _ _ | refine below_drewN ?_ _ | refine Below.drew ?_ | refine Below.alloc ?_ (by first | omega | (simp; done) | (simp; omega)) _ | refine Below.setCell ?_ (by first | omega | (simp; done) | (simp; omega)) _))) (by exact hB'.below (by repeat (first | exact Below.refl _ _ | refine below_drewN ?_ _ | refine Below.drew ?_ | refine Below.alloc ?_ (by first | omega | (simp; done) | (simp; omega)) _ | refine Below.setCell ?_ (by first | omega | (simp; done) | (simp; omega)) _))) hm hm).mono ?_
  rintro e w1 ⟨rfl, q2, rfl⟩
  simp only [decide_true]
  go_wp2_with fail
  go_ret
  exact ⟨rfl, (by repeat (first | exact Below.refl _ _ | refine below_drewN ?_ _ | refine Below.drew ?_ | refine Below.alloc ?_ (by first | omega | (simp; done) | (simp; omega)) _ | refine Below.setCell ?_ (by first | omega | (simp; done) | (simp; omega)) _))⟩
end Go.Proofs.Ytdjdjceemfaigaa
