/- Contracts: whether a route can be asked for; a least time. -/
import Derived.Test.YtijmlagehdmfeaaTimesWalk
import Derived.Test.YtijmlagehdmfeaaL4To
namespace Go.Proofs.Ytijmlagehdmfeaa
set_option linter.unusedVariables false
set_option linter.unusedSimpArgs false
open Go.RowKit
theorem canRoute1 {m : Mp} {A B : Option Addr} {n cp k d g : Nat} {w : World} (hv : MapIn w m (.agg #[.int .i64 m.wd, .int .i64 m.ht, .slice A n cp, .slice B k d])) (K : Blk w g 28 [.int .i64 m.wd, .int .i64 m.ht, .slice A n cp, .slice B k d]) :
    FnPred Try.prog 97 #[.pointer (some ⟨g, 0, none⟩)] (fun x => !(okM m && opM m x)) w := by
  intro x W hb
  have K1 := K.on hb
  obtain ⟨k0, k1, k2, k3⟩ := blk4 K1
  have hv1 := hv.on hb
  go_enter Try.func97, Try.ntmps97
  go_wp2_with fail
  refine (isOpen_any (m := m) hv1).mono ?_
  rintro e w1 ⟨rfl, hb1⟩
  go_wp2_with fail
  go_ret
  exact ⟨ret_bool (by simp), hb1⟩
set_option maxHeartbeats 1000000 in
theorem canRoute_any {m : Mp} {v : Value} {R : Option Addr} {q cq : Nat} {l : List Int} {w : World} (hv : MapIn w m v) (hR : Rd w w.heap.size 1 R q (ints l)) (hq : q ≤ maxLen) :
    Calls Try.prog 83 #[v, .slice R q cq] w fun e w' => e = .returned (.bool (!(l.any fun x => !(okM m && opM m x)))) ∧ Below w.heap.size w w' := by
  have hv' := hv
  obtain ⟨A, n, cp, B, k, d, rfl, h1, h2, h3, h4⟩ := hv
  have K := Blk.new w 28 [.int .i64 m.wd, .int .i64 m.ht, .slice A n cp, .slice B k d]
  have G : Below w.heap.size w (w.alloc (.cells #[.int .i64 m.wd, .int .i64 m.ht, .slice A n cp, .slice B k d] 28)) := (by repeat (first | exact Below.refl _ _ | refine below_drewN ?_ _ | refine Below.drew ?_ | refine Below.alloc ?_ (by first | omega | (simp; done) | (simp; omega)) _ | refine Below.setCell ?_ (by first | omega | (simp; done) | (simp; omega)) _))
  have e1 := enters_of (P := Try.prog) Try.func97 (by kernel_rfl) rfl
  go_enter Try.func83, Try.ntmps83
  go_wp2_with fail
  refine (ContainsFunc_int 97 _ (fun x => !(okM m && opM m x)) e1 R q cq l _ (canRoute1 (hv'.on G) K) (hR.on G) hq).mono ?_
  rintro e w1 ⟨rfl, hb1⟩
  go_wp2_with fail
  go_ret
  exact ⟨ret_bool (by simp), G.trans (hb1.mono G.size)⟩
set_option maxHeartbeats 1000000 in
theorem leastTime_any {m : Mp} {v : Value} {a b : Nat} {w : World} (hv : MapIn w m v) (V : Valid m) (ha : a < m.co.length) (hb : b < m.co.length) :
    Calls Try.prog 84 #[v, .int .i64 (a : Int), .int .i64 (b : Int)] w fun e w' => e = .returned (.int .i64 (enc (finV m b a))) ∧ Below w.heap.size w w' := by
  have hv' := hv
  obtain ⟨A, n, cp, B, k, d, rfl, h1, h2, h3, h4⟩ := hv
  have K := Blk.new w 28 [.int .i64 m.wd, .int .i64 m.ht, .slice A n cp, .slice B k d]
  have G : Below w.heap.size w (w.alloc (.cells #[.int .i64 m.wd, .int .i64 m.ht, .slice A n cp, .slice B k d] 28)) := (by repeat (first | exact Below.refl _ _ | refine below_drewN ?_ _ | refine Below.drew ?_ | refine Below.alloc ?_ (by first | omega | (simp; done) | (simp; omega)) _ | refine Below.setCell ?_ (by first | omega | (simp; done) | (simp; omega)) _))
  have hal : a < (fin m b).length := by rw [(fin_inv V hb).len]; exact ha
  go_enter Try.func84, Try.ntmps84
  go_wp2_with fail
  refine (timesTo_any (m := m) (hv'.on G) V hb).mono ?_
  rintro e w1 ⟨g, rfl, O, hg, hb1⟩
  have c1 := (O.cell a).trans (encL_get hal)
  go_wp2_with fail
  go_ret
  exact ⟨rfl, G.trans (hb1.mono G.size)⟩
end Go.Proofs.Ytijmlagehdmfeaa
