/- Contracts: vMap. -/
import Derived.Test.YtmmpcchjalgokaaDoorVcm
import Derived.Test.YtmmpcchjalgokaaDoorMp
namespace Go.Proofs.YtmmpcchjalgokaaDoor
set_option linter.unusedVariables false
set_option linter.unusedSimpArgs false
open Go.RowKit
theorem two_newV (w : World) (t : TypeId) (c1 c2 : List Value) : Blk ((w.alloc (.cells c1.toArray t)).alloc (.cells c2.toArray t)) w.heap.size t c1 ∧ Blk ((w.alloc (.cells c1.toArray t)).alloc (.cells c2.toArray t)) (w.heap.size + 1) t c2 := by
  have s1 : (w.alloc (.cells c1.toArray t)).heap.size = w.heap.size + 1 := by simp
  have B2 := Blk.new (w.alloc (.cells c1.toArray t)) t c2
  rw [s1] at B2
  exact ⟨(Blk.new w t c1).alloc _, B2⟩
theorem vMap_b {m : Mp} {u v : Value} {w : World} (hu : MapIn w m u) (hv : MapIn w m v) :
    Calls Tryd.prog 47 #[u, v] w fun e w' => e = .returned (.bool true) ∧ Below w.heap.size w w' := by
  obtain ⟨A, n, c, B, k, d, rfl, h1, h2, h3, h4⟩ := hu
  obtain ⟨A', n', c', B', k', d', rfl, h5, h6, h7, h8⟩ := hv
  have e1 : (m.wd == m.wd) = true := by simp
  have e2 : (m.ht == m.ht) = true := by simp
  have en : n' = n := by rw [← h1.len, ← h5.len]
  have ek : k' = k := by rw [← h2.len, ← h6.len]
  subst en ek
  obtain ⟨P1, P2⟩ := two_newV w 47 [.int .i64 m.wd, .int .i64 m.ht, .slice A n' c, .slice B k' d] [.int .i64 m.wd, .int .i64 m.ht, .slice A' n' c', .slice B' k' d']
  obtain ⟨p0, p1, p2, p3⟩ := blk4 P1
  obtain ⟨r0, r1, r2, r3⟩ := blk4 P2
  go_enter Tryd.func47, Tryd.ntmps47
  go_wp2_with fail
  refine (vInts_b (xs := m.ri) (b1 := w.heap.size) (b2 := w.heap.size) (by exact h1.below (by repeat (first | exact Below.refl _ _ | refine below_drewN ?_ _ | refine Below.drew ?_ | refine Below.alloc ?_ (by first | omega | (simp; done) | (simp; omega)) _ | refine Below.setCell ?_ (by first | omega | (simp; done) | (simp; omega)) _))) (by exact h5.below (by repeat (first | exact Below.refl _ _ | refine below_drewN ?_ _ | refine Below.drew ?_ | refine Below.alloc ?_ (by first | omega | (simp; done) | (simp; omega)) _ | refine Below.setCell ?_ (by first | omega | (simp; done) | (simp; omega)) _))) h3).mono ?_
  rintro e w1 ⟨rfl, hb1⟩
  have G : Below w.heap.size w w1 := Below.trans (by repeat (first | exact Below.refl _ _ | refine below_drewN ?_ _ | refine Below.drew ?_ | refine Below.alloc ?_ (by first | omega | (simp; done) | (simp; omega)) _ | refine Below.setCell ?_ (by first | omega | (simp; done) | (simp; omega)) _)) (hb1.mono (by first | omega | (simp; done) | (simp; omega)))
  replace P1 := P1.on hb1
  replace P2 := P2.on hb1
  clear p0 p1 p2 p3 r0 r1 r2 r3 hb1
  obtain ⟨p0, p1, p2, p3⟩ := blk4 P1
  obtain ⟨r0, r1, r2, r3⟩ := blk4 P2
  go_wp2_with fail
  refine (vInts_b (xs := m.co) (b1 := w.heap.size) (b2 := w.heap.size) (by exact h2.below G) (by exact h6.below G) h4).mono ?_
  rintro e w2 ⟨rfl, hb2⟩
  have G2 := G.trans (hb2.mono G.size)
  go_wp2_with fail
  go_ret
  exact ⟨rfl, G2⟩
end Go.Proofs.YtmmpcchjalgokaaDoor
