/- The walk of FnExactIsRunner. -/
import Derived.Test.YtcdkclcoagadnaaRunner
import Derived.Test.YtcdkclcoagadnaaOpenRunner
namespace Go.Proofs.Ytcdkclcoagadnaa
set_option linter.unusedVariables false
set_option linter.unusedSimpArgs false
open Go.RowKit
set_option maxHeartbeats 1000000 in
theorem law_IsRunner (w : World) {r : Rn} (hr : r.Ok) :
    Calls Try.prog 6 #[.agg #[.int .i64 r.id, .string r.name, .string r.club, .int .i64 r.born, .bool r.woman, .int .i64 r.card]] w fun e w' => e = .returned (.bool true) ∧ Below w.heap.size w w' := by
  obtain ⟨_, h1, h2, _, _⟩ := hr
  have h1' := h1
  have h2' := h2
  unfold maxLen at h1' h2'
  by_cases hs : (1048576 : Int) < r.name.size + r.club.size
  · go_enter Try.func6, Try.ntmps6
    go_wp2_with fail
    refine (szRunner_any r _ _ h1 h2 (by omega) (by omega)).mono ?_
    rintro e w1 ⟨rfl, hb1⟩
    rw [if_pos (by omega)]
    go_wp2_with fail
    go_ret
    exact ⟨rfl, Below.trans (by repeat (first | exact Below.refl _ _ | refine below_drewN ?_ _ | refine Below.drew ?_ | refine Below.alloc ?_ (by first | omega | (simp; done) | (simp; omega)) _ | refine Below.setCell ?_ (by first | omega | (simp; done) | (simp; omega)) _)) (hb1.mono (by first | omega | (simp; done) | (simp; omega)))⟩
  · have hne : (rnOk r != rnOk r) = false := by simp
    go_enter Try.func6, Try.ntmps6
    go_wp2_with fail
    refine (szRunner_any r _ _ h1 h2 (by omega) (by omega)).mono ?_
    rintro e w1 ⟨rfl, hb1⟩
    rw [if_neg (by omega)]
    have G1 : Below w.heap.size w w1 := Below.trans (by repeat (first | exact Below.refl _ _ | refine below_drewN ?_ _ | refine Below.drew ?_ | refine Below.alloc ?_ (by first | omega | (simp; done) | (simp; omega)) _ | refine Below.setCell ?_ (by first | omega | (simp; done) | (simp; omega)) _)) (hb1.mono (by first | omega | (simp; done) | (simp; omega)))
    have K1 := (Blk.new w 28 [.int .i64 r.id, .string r.name, .string r.club, .int .i64 r.born, .bool r.woman, .int .i64 r.card]).on hb1
    clear hb1
    obtain ⟨k0, k1, k2, k3, k4, k5⟩ := blk6 K1
    go_wp2_with fail
    refine (toRunner_any r _).mono ?_
    rintro e w2 ⟨rfl, rfl⟩
    go_wp2_with fail
    refine (IsRunner_spec r _ h1 h2).mono ?_
    rintro e w3 ⟨rfl, hb3⟩
    have G3 : Below w.heap.size w w3 := (G1.trans (Below.mono (by repeat (first | exact Below.refl _ _ | refine below_drewN ?_ _ | refine Below.drew ?_ | refine Below.alloc ?_ (by first | omega | (simp; done) | (simp; omega)) _ | refine Below.setCell ?_ (by first | omega | (simp; done) | (simp; omega)) _)) G1.size)).trans (hb3.mono (by have := G1.size; simp; omega))
    have K3 : Blk w3 w.heap.size 28 [.int .i64 r.id, .string r.name, .string r.club, .int .i64 r.born, .bool r.woman, .int .i64 r.card] := (((K1.alloc _).alloc _).alloc _).on hb3
    clear K1 hb3 k0 k1 k2 k3 k4 k5
    obtain ⟨k0, k1, k2, k3, k4, k5⟩ := blk6 K3
    go_wp2_with fail
    refine (toRunner_any r _).mono ?_
    rintro e w4 ⟨rfl, rfl⟩
    go_wp2_with fail
    refine (IsRunner_impl r _ h1 h2).mono ?_
    rintro e w5 ⟨rfl, hb5⟩
    go_wp2_with fail
    go_ret
    exact ⟨rfl, (G3.trans (Below.mono (by repeat (first | exact Below.refl _ _ | refine below_drewN ?_ _ | refine Below.drew ?_ | refine Below.alloc ?_ (by first | omega | (simp; done) | (simp; omega)) _ | refine Below.setCell ?_ (by first | omega | (simp; done) | (simp; omega)) _)) G3.size)).trans (hb5.mono (by have := G3.size; simp; omega))⟩
end Go.Proofs.Ytcdkclcoagadnaa
