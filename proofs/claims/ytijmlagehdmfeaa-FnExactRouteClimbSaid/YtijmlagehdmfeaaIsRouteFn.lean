/- Contracts: IsRoute, the program's and the reference's. -/
import Derived.Test.YtijmlagehdmfeaaL4Route
namespace Go.Proofs.Ytijmlagehdmfeaa
set_option linter.unusedVariables false
set_option linter.unusedSimpArgs false
open Go.RowKit
def rtOk (m : Mp) (l : List Int) : Bool := okM m && rtB m l
set_option maxHeartbeats 1000000 in
theorem IsRoute_impl {m : Mp} {v : Value} {R : Option Addr} {q cq : Nat} {l : List Int} {w : World} (hv : MapIn w m v) (hR : Rd w w.heap.size 1 R q (ints l)) (hq : q ≤ 1048576) (hqc : q ≤ cq) :
    Calls Try.prog 38 #[v, .slice R q cq] w fun e w' => e = .returned (.tuple #[.bool (rtOk m l), .bool (okM m)]) ∧ Below w.heap.size w w' := by
  have hv' := hv
  obtain ⟨A, n, cp, B, k, d, rfl, h1, h2, h3, h4⟩ := hv
  cases hok : okM m
  · have e1 : rtOk m l = false := by unfold rtOk; rw [hok]; rfl
    rw [e1]; clear e1
    go_enter Try.func38, Try.ntmps38
    go_wp2_with fail
    refine (IsMap_m (m := m) (by exact hv'.on (by repeat (first | exact Below.refl _ _ | refine below_drewN ?_ _ | refine Below.drew ?_ | refine Below.alloc ?_ (by first | omega | (simp; done) | (simp; omega)) _ | refine Below.setCell ?_ (by first | omega | (simp; done) | (simp; omega)) _)))).mono ?_
    rintro e w1 ⟨rfl, hb1⟩
    rw [hok]
    go_wp2_with fail
    go_ret2
    exact ⟨rfl, Below.trans (by repeat (first | exact Below.refl _ _ | refine below_drewN ?_ _ | refine Below.drew ?_ | refine Below.alloc ?_ (by first | omega | (simp; done) | (simp; omega)) _ | refine Below.setCell ?_ (by first | omega | (simp; done) | (simp; omega)) _)) (hb1.mono (by first | omega | (simp; done) | (simp; omega)))⟩
  · have e1 : rtOk m l = rtB m l := by unfold rtOk; rw [hok]; rfl
    rw [e1]; clear e1
    have HOK := Lib.hid hok
    go_enter Try.func38, Try.ntmps38
    go_wp2_with fail
    refine (IsMap_m (m := m) (by exact hv'.on (by repeat (first | exact Below.refl _ _ | refine below_drewN ?_ _ | refine Below.drew ?_ | refine Below.alloc ?_ (by first | omega | (simp; done) | (simp; omega)) _ | refine Below.setCell ?_ (by first | omega | (simp; done) | (simp; omega)) _)))).mono ?_
    rintro e w1 ⟨rfl, hb1⟩
    rw [hok]
    have G : Below w.heap.size w w1 := Below.trans (by repeat (first | exact Below.refl _ _ | refine below_drewN ?_ _ | refine Below.drew ?_ | refine Below.alloc ?_ (by first | omega | (simp; done) | (simp; omega)) _ | refine Below.setCell ?_ (by first | omega | (simp; done) | (simp; omega)) _)) (hb1.mono (by first | omega | (simp; done) | (simp; omega)))
    have K := (Blk.new w 28 [.int .i64 m.wd, .int .i64 m.ht, .slice A n cp, .slice B k d]).on hb1
    obtain ⟨k0, k1, k2, k3⟩ := blk4 K
    clear hok hb1
    go_wp2_with fail
    refine (isRoute_any (m := m) (hv'.on G) HOK.out (hR.on G) hq hqc).mono ?_
    rintro e w2 ⟨rfl, hb2⟩
    go_wp2_with fail
    go_ret2
    exact ⟨rfl, G.trans (hb2.mono G.size)⟩
set_option maxHeartbeats 1000000 in
theorem IsRoute_spec {m : Mp} {v : Value} {R : Option Addr} {q cq : Nat} {l : List Int} {w : World} (hv : MapIn w m v) (hR : Rd w w.heap.size 1 R q (ints l)) (hq : q ≤ 1048576) (hqc : q ≤ cq) :
    Calls Try.prog 36 #[v, .slice R q cq] w fun e w' => e = .returned (.tuple #[.bool (rtOk m l), .bool (okM m)]) ∧ Below w.heap.size w w' := by
  have hv' := hv
  obtain ⟨A, n, cp, B, k, d, rfl, h1, h2, h3, h4⟩ := hv
  cases hok : okM m
  · have e1 : rtOk m l = false := by unfold rtOk; rw [hok]; rfl
    rw [e1]; clear e1
    go_enter Try.func36, Try.ntmps36
    go_wp2_with fail
    refine (l2Map_m (m := m) (by exact hv'.on (by repeat (first | exact Below.refl _ _ | refine below_drewN ?_ _ | refine Below.drew ?_ | refine Below.alloc ?_ (by first | omega | (simp; done) | (simp; omega)) _ | refine Below.setCell ?_ (by first | omega | (simp; done) | (simp; omega)) _)))).mono ?_
    rintro e w1 ⟨rfl, hb1⟩
    rw [hok]
    go_wp2_with fail
    go_ret2
    exact ⟨rfl, Below.trans (by repeat (first | exact Below.refl _ _ | refine below_drewN ?_ _ | refine Below.drew ?_ | refine Below.alloc ?_ (by first | omega | (simp; done) | (simp; omega)) _ | refine Below.setCell ?_ (by first | omega | (simp; done) | (simp; omega)) _)) (hb1.mono (by first | omega | (simp; done) | (simp; omega)))⟩
  · have e1 : rtOk m l = rtB m l := by unfold rtOk; rw [hok]; rfl
    rw [e1]; clear e1
    have V := valid_iff.1 hok
    go_enter Try.func36, Try.ntmps36
    go_wp2_with fail
    refine (l2Map_m (m := m) (by exact hv'.on (by repeat (first | exact Below.refl _ _ | refine below_drewN ?_ _ | refine Below.drew ?_ | refine Below.alloc ?_ (by first | omega | (simp; done) | (simp; omega)) _ | refine Below.setCell ?_ (by first | omega | (simp; done) | (simp; omega)) _)))).mono ?_
    rintro e w1 ⟨rfl, hb1⟩
    rw [hok]
    have G : Below w.heap.size w w1 := Below.trans (by repeat (first | exact Below.refl _ _ | refine below_drewN ?_ _ | refine Below.drew ?_ | refine Below.alloc ?_ (by first | omega | (simp; done) | (simp; omega)) _ | refine Below.setCell ?_ (by first | omega | (simp; done) | (simp; omega)) _)) (hb1.mono (by first | omega | (simp; done) | (simp; omega)))
    have K := (Blk.new w 28 [.int .i64 m.wd, .int .i64 m.ht, .slice A n cp, .slice B k d]).on hb1
    obtain ⟨k0, k1, k2, k3⟩ := blk4 K
    clear hok hb1
    go_wp2_with fail
    refine (l4Route_any (m := m) (hv'.on G) V (hR.on G) hq hqc).mono ?_
    rintro e w2 ⟨rfl, hb2⟩
    go_wp2_with fail
    go_ret2
    exact ⟨rfl, G.trans (hb2.mono G.size)⟩
end Go.Proofs.Ytijmlagehdmfeaa
