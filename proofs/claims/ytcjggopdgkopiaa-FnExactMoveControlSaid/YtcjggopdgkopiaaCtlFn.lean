/- Contracts: AreControls, CodeAt and CellOfCode, the program's and the reference's. -/
import Derived.Test.YtcjggopdgkopiaaCtl
namespace Go.Proofs.Ytcjggopdgkopiaa
set_option linter.unusedVariables false
set_option linter.unusedSimpArgs false
open Go.RowKit
theorem idxB_some {α : Type} {p : α → Bool} : ∀ (l : List α) (b : Nat), 0 ≤ idxB p l b → ∃ k, ∃ hk : k < l.length, idxB p l b = ((b + k : Nat) : Int) ∧ p l[k] = true ∧ ∀ (j : Nat) (hj : j < l.length), j < k → p l[j] = false
  | [], b, h => by simp [idxB] at h
  | x :: r, b, h => by
    cases hx : p x
    · have e0 : idxB p (x :: r) b = idxB p r (b + 1) := by rw [idxB, hx]; rfl
      rw [e0] at h
      obtain ⟨k, hk, e, f, g⟩ := idxB_some r (b + 1) h
      refine ⟨k + 1, by simpa using hk, by rw [e0, e]; congr 1; omega, by simpa using f, fun j hj hjk => ?_⟩
      cases j with
      | zero => simpa using hx
      | succ j => simpa using g j (by simpa using hj) (by omega)
    · exact ⟨0, by simp, by rw [idxB, hx]; rfl, by simpa using hx, fun j hj h => by omega⟩
theorem idxB_neg {α : Type} {p : α → Bool} : ∀ (l : List α) (b : Nat), ¬ 0 ≤ idxB p l b → ∀ (j : Nat) (hj : j < l.length), p l[j] = false
  | [], b, _, j, hj => by simp at hj
  | x :: r, b, h, j, hj => by
    cases hx : p x
    · have e0 : idxB p (x :: r) b = idxB p r (b + 1) := by rw [idxB, hx]; rfl
      rw [e0] at h
      cases j with
      | zero => simpa using hx
      | succ j => simpa using idxB_neg r (b + 1) h j (by simpa using hj)
    · rw [idxB, hx] at h; simp at h
def ixX (l : List Ct) (x : Int) : Int := idxB (fun c => c.cell == x) l 0
def ixC (l : List Ct) (x : Int) : Int := idxB (fun c => c.code == x) l 0
def caOk (m : Mp) (l : List Ct) (x : Int) : Bool := okCts m l && decide (0 ≤ ixX l x)
def caV (m : Mp) (l : List Ct) (x : Int) : Int := if caOk m l x = true then ctC l (ixX l x).toNat else 0
def coOk (m : Mp) (l : List Ct) (x : Int) : Bool := okCts m l && decide (0 ≤ ixC l x)
def coV (m : Mp) (l : List Ct) (x : Int) : Int := if coOk m l x = true then ctX l (ixC l x).toNat else 0
theorem ctOk_in {m : Mp} {l : List Ct} {i : Nat} (hi : i < l.length) (h : ctOk m l i = true) : inM m l[i].cell = true := by
  unfold ctOk at h
  rw [ctX_get hi] at h
  simp only [Bool.and_eq_true] at h
  exact inM_iff.2 (opM_iff.1 h.2.1).1
theorem AreControls_impl {m : Mp} {v : Value} {R : Option Addr} {q cq : Nat} {l : List Ct} {w : World} (hv : MapIn w m v) (hR : Rd w w.heap.size 2 R q (cts l)) (hq : q ≤ 1048576) (hqc : q ≤ cq) :
    Calls Try.prog 16 #[v, .slice R q cq] w fun e w' => e = .returned (.bool (okCts m l)) ∧ Below w.heap.size w w' := AreControls_any hv hR hq hqc
set_option maxRecDepth 100000 in
set_option maxHeartbeats 400000 in
theorem AreControls_spec {m : Mp} {v : Value} {R : Option Addr} {q cq : Nat} {l : List Ct} {w : World} (hv : MapIn w m v) (hR : Rd w w.heap.size 2 R q (cts l)) (hq : q ≤ 1048576) (hqc : q ≤ cq) :
    Calls Try.prog 13 #[v, .slice R q cq] w fun e w' => e = .returned (.bool (okCts m l)) ∧ Below w.heap.size w w' := by
  have hv' := hv
  obtain ⟨A, n, cp, B, k, d, rfl, h1, h2, h3, h4⟩ := hv
  have K := Blk.new w 29 [.int .i64 m.wd, .int .i64 m.ht, .slice A n cp, .slice B k d]
  have G : Below w.heap.size w (w.alloc (.cells #[.int .i64 m.wd, .int .i64 m.ht, .slice A n cp, .slice B k d] 29)) := (by repeat (first | exact Below.refl _ _ | refine below_drewN ?_ _ | refine Below.drew ?_ | refine Below.alloc ?_ (by first | omega | (simp; done) | (simp; omega)) _ | refine Below.setCell ?_ (by first | omega | (simp; done) | (simp; omega)) _))
  go_enter Try.func13, Try.ntmps13
  go_wp2_with fail
  refine (l6Good_any (m := m) (hv'.on G) (hR.on G) hq hqc).mono ?_
  rintro e w1 ⟨rfl, hb⟩
  replace K := K.on hb
  replace G := G.trans (hb.mono G.size)
  clear hb
  obtain ⟨k0, k1, k2, k3⟩ := blk4 K
  go_wp2_with fail
  go_ret
  exact ⟨rfl, G⟩
set_option maxRecDepth 100000 in
set_option maxHeartbeats 1000000 in
theorem CodeAt_impl {m : Mp} {v : Value} {R : Option Addr} {q cq : Nat} {l : List Ct} {x : Int} {w : World} (hv : MapIn w m v) (hR : Rd w w.heap.size 2 R q (cts l)) (hq : q ≤ 1048576) (hqc : q ≤ cq) :
    Calls Try.prog 20 #[v, .slice R q cq, .int .i64 x] w fun e w' => e = .returned (.tuple #[.int .i64 (caV m l x), .bool (caOk m l x)]) ∧ Below w.heap.size w w' := by
  have hv' := hv
  obtain ⟨A, n, cp, B, k, d, rfl, h1, h2, h3, h4⟩ := hv
  have K := Blk.new w 29 [.int .i64 m.wd, .int .i64 m.ht, .slice A n cp, .slice B k d]
  have G : Below w.heap.size w (w.alloc (.cells #[.int .i64 m.wd, .int .i64 m.ht, .slice A n cp, .slice B k d] 29)) := (by repeat (first | exact Below.refl _ _ | refine below_drewN ?_ _ | refine Below.drew ?_ | refine Below.alloc ?_ (by first | omega | (simp; done) | (simp; omega)) _ | refine Below.setCell ?_ (by first | omega | (simp; done) | (simp; omega)) _))
  have HQ := Lib.hid hR.clen
  cases hok : okCts m l
  · have e1 : caOk m l x = false := by unfold caOk; rw [hok]; rfl
    have e2 : caV m l x = 0 := by unfold caV; rw [e1]; rfl
    rw [e1, e2]; clear e1 e2
    have HOK := Lib.hid hok
    clear hok
    go_enter Try.func20, Try.ntmps20
    go_wp2_with fail
    refine (controlIn_any (hR.on G) hq).mono ?_
    rintro e w1 ⟨rfl, hb⟩
    replace K := K.on hb
    replace G := G.trans (hb.mono G.size)
    clear hb
    rw [show idxB (fun c => c.cell == x) l 0 = ixX l x from rfl]
    obtain ⟨k0, k1, k2, k3⟩ := blk4 K
    go_wp2_with fail
    refine (AreControls_any (m := m) (hv'.on G) (hR.on G) hq hqc).mono ?_
    rintro e w2 ⟨rfl, hb⟩
    clear k0 k1 k2 k3
    replace K := K.on hb
    replace G := G.trans (hb.mono G.size)
    clear hb
    rw [HOK.out]
    obtain ⟨k0, k1, k2, k3⟩ := blk4 K
    go_wp2_with fail
    go_ret2
    exact ⟨rfl, G⟩
  · by_cases h0 : 0 ≤ ixX l x
    · have HOK := Lib.hid hok
      obtain ⟨k9, hk9, hix, hpk, hnk⟩ := idxB_some l 0 h0
      have hix2 : ixX l x = (k9 : Int) := by unfold ixX; rw [hix]; simp
      have e1 : caOk m l x = true := by unfold caOk; rw [hok, hix2]; simp
      have e2 : caV m l x = l[k9].code := by unfold caV; rw [e1, if_pos rfl, hix2]; exact ctC_get (by simpa using hk9)
      rw [e1, e2]; clear e1 e2
      have HIX := Lib.hid hix2
      have hq0 : k9 < q := by rw [← HQ.out]; exact hk9
      have hk9q : (k9 : Int) < (q : Int) := by omega
      obtain ⟨b, off, rfl, hbb, hca⟩ := hR.ct (show 0 < q by omega)
      have CK := Lib.hid (hca k9 hk9)
      clear hca hix hix2 h0
      clear hok
      go_enter Try.func20, Try.ntmps20
      go_wp2_with fail
      refine (controlIn_any (hR.on G) hq).mono ?_
      rintro e w1 ⟨rfl, hb⟩
      replace K := K.on hb
      replace G := G.trans (hb.mono G.size)
      clear hb
      rw [show idxB (fun c => c.cell == x) l 0 = ixX l x from rfl]
      rw [HIX.out]
      obtain ⟨k0, k1, k2, k3⟩ := blk4 K
      go_wp2_with fail
      refine (AreControls_any (m := m) (hv'.on G) (hR.on G) hq hqc).mono ?_
      rintro e w2 ⟨rfl, hb⟩
      clear k0 k1 k2 k3
      replace K := K.on hb
      replace G := G.trans (hb.mono G.size)
      clear hb
      rw [HOK.out]
      obtain ⟨k0, k1, k2, k3⟩ := blk4 K
      have ck := ((bcell G).1 b (off + k9 * 2) hbb).trans CK.out.1
      go_wp2_with fail
      go_ret2
      exact ⟨rfl, G⟩
    · have HOK := Lib.hid hok
      have e1 : caOk m l x = false := by unfold caOk; rw [show decide (0 ≤ ixX l x) = false by simpa using h0]; simp
      have e2 : caV m l x = 0 := by unfold caV; rw [e1]; rfl
      rw [e1, e2]; clear e1 e2
      have h9 : decide (ixX l x < 0) = true := by simp; omega
      have h8 : ixX l x < 0 := by omega
      clear hok
      go_enter Try.func20, Try.ntmps20
      go_wp2_with fail
      refine (controlIn_any (hR.on G) hq).mono ?_
      rintro e w1 ⟨rfl, hb⟩
      replace K := K.on hb
      replace G := G.trans (hb.mono G.size)
      clear hb
      rw [show idxB (fun c => c.cell == x) l 0 = ixX l x from rfl]
      obtain ⟨k0, k1, k2, k3⟩ := blk4 K
      go_wp2_with fail
      refine (AreControls_any (m := m) (hv'.on G) (hR.on G) hq hqc).mono ?_
      rintro e w2 ⟨rfl, hb⟩
      clear k0 k1 k2 k3
      replace K := K.on hb
      replace G := G.trans (hb.mono G.size)
      clear hb
      rw [HOK.out]
      obtain ⟨k0, k1, k2, k3⟩ := blk4 K
      go_wp2_with fail
      go_ret2
      exact ⟨rfl, G⟩
set_option maxRecDepth 100000 in
set_option maxHeartbeats 1000000 in
theorem CellOfCode_impl {m : Mp} {v : Value} {R : Option Addr} {q cq : Nat} {l : List Ct} {x : Int} {w : World} (hv : MapIn w m v) (hR : Rd w w.heap.size 2 R q (cts l)) (hq : q ≤ 1048576) (hqc : q ≤ cq) :
    Calls Try.prog 22 #[v, .slice R q cq, .int .i64 x] w fun e w' => e = .returned (.tuple #[.int .i64 (coV m l x), .bool (coOk m l x)]) ∧ Below w.heap.size w w' := by
  have hv' := hv
  obtain ⟨A, n, cp, B, k, d, rfl, h1, h2, h3, h4⟩ := hv
  have K := Blk.new w 29 [.int .i64 m.wd, .int .i64 m.ht, .slice A n cp, .slice B k d]
  have G : Below w.heap.size w (w.alloc (.cells #[.int .i64 m.wd, .int .i64 m.ht, .slice A n cp, .slice B k d] 29)) := (by repeat (first | exact Below.refl _ _ | refine below_drewN ?_ _ | refine Below.drew ?_ | refine Below.alloc ?_ (by first | omega | (simp; done) | (simp; omega)) _ | refine Below.setCell ?_ (by first | omega | (simp; done) | (simp; omega)) _))
  have HQ := Lib.hid hR.clen
  cases hok : okCts m l
  · have e1 : coOk m l x = false := by unfold coOk; rw [hok]; rfl
    have e2 : coV m l x = 0 := by unfold coV; rw [e1]; rfl
    rw [e1, e2]; clear e1 e2
    have HOK := Lib.hid hok
    clear hok
    go_enter Try.func22, Try.ntmps22
    go_wp2_with fail
    refine (controlOf_any (hR.on G) hq).mono ?_
    rintro e w1 ⟨rfl, hb⟩
    replace K := K.on hb
    replace G := G.trans (hb.mono G.size)
    clear hb
    rw [show idxB (fun c => c.code == x) l 0 = ixC l x from rfl]
    obtain ⟨k0, k1, k2, k3⟩ := blk4 K
    go_wp2_with fail
    refine (AreControls_any (m := m) (hv'.on G) (hR.on G) hq hqc).mono ?_
    rintro e w2 ⟨rfl, hb⟩
    clear k0 k1 k2 k3
    replace K := K.on hb
    replace G := G.trans (hb.mono G.size)
    clear hb
    rw [HOK.out]
    obtain ⟨k0, k1, k2, k3⟩ := blk4 K
    go_wp2_with fail
    go_ret2
    exact ⟨rfl, G⟩
  · by_cases h0 : 0 ≤ ixC l x
    · have HOK := Lib.hid hok
      obtain ⟨k9, hk9, hix, hpk, hnk⟩ := idxB_some l 0 h0
      have hix2 : ixC l x = (k9 : Int) := by unfold ixC; rw [hix]; simp
      have e1 : coOk m l x = true := by unfold coOk; rw [hok, hix2]; simp
      have e2 : coV m l x = l[k9].cell := by unfold coV; rw [e1, if_pos rfl, hix2]; exact ctX_get (by simpa using hk9)
      rw [e1, e2]; clear e1 e2
      have HIX := Lib.hid hix2
      have hq0 : k9 < q := by rw [← HQ.out]; exact hk9
      have hk9q : (k9 : Int) < (q : Int) := by omega
      obtain ⟨b, off, rfl, hbb, hca⟩ := hR.ct (show 0 < q by omega)
      have CK := Lib.hid (hca k9 hk9)
      clear hca hix hix2 h0
      clear hok
      go_enter Try.func22, Try.ntmps22
      go_wp2_with fail
      refine (controlOf_any (hR.on G) hq).mono ?_
      rintro e w1 ⟨rfl, hb⟩
      replace K := K.on hb
      replace G := G.trans (hb.mono G.size)
      clear hb
      rw [show idxB (fun c => c.code == x) l 0 = ixC l x from rfl]
      rw [HIX.out]
      obtain ⟨k0, k1, k2, k3⟩ := blk4 K
      go_wp2_with fail
      refine (AreControls_any (m := m) (hv'.on G) (hR.on G) hq hqc).mono ?_
      rintro e w2 ⟨rfl, hb⟩
      clear k0 k1 k2 k3
      replace K := K.on hb
      replace G := G.trans (hb.mono G.size)
      clear hb
      rw [HOK.out]
      obtain ⟨k0, k1, k2, k3⟩ := blk4 K
      have ck := ((bcell G).1 b (off + k9 * 2 + 1) hbb).trans CK.out.2
      go_wp2_with fail
      go_ret2
      exact ⟨rfl, G⟩
    · have HOK := Lib.hid hok
      have e1 : coOk m l x = false := by unfold coOk; rw [show decide (0 ≤ ixC l x) = false by simpa using h0]; simp
      have e2 : coV m l x = 0 := by unfold coV; rw [e1]; rfl
      rw [e1, e2]; clear e1 e2
      have h9 : decide (ixC l x < 0) = true := by simp; omega
      have h8 : ixC l x < 0 := by omega
      clear hok
      go_enter Try.func22, Try.ntmps22
      go_wp2_with fail
      refine (controlOf_any (hR.on G) hq).mono ?_
      rintro e w1 ⟨rfl, hb⟩
      replace K := K.on hb
      replace G := G.trans (hb.mono G.size)
      clear hb
      rw [show idxB (fun c => c.code == x) l 0 = ixC l x from rfl]
      obtain ⟨k0, k1, k2, k3⟩ := blk4 K
      go_wp2_with fail
      refine (AreControls_any (m := m) (hv'.on G) (hR.on G) hq hqc).mono ?_
      rintro e w2 ⟨rfl, hb⟩
      clear k0 k1 k2 k3
      replace K := K.on hb
      replace G := G.trans (hb.mono G.size)
      clear hb
      rw [HOK.out]
      obtain ⟨k0, k1, k2, k3⟩ := blk4 K
      go_wp2_with fail
      go_ret2
      exact ⟨rfl, G⟩
set_option maxRecDepth 100000 in
set_option maxHeartbeats 1000000 in
theorem CellOfCode_spec {m : Mp} {v : Value} {R : Option Addr} {q cq : Nat} {l : List Ct} {x : Int} {w : World} (hv : MapIn w m v) (hR : Rd w w.heap.size 2 R q (cts l)) (hq : q ≤ 1048576) (hqc : q ≤ cq) :
    Calls Try.prog 21 #[v, .slice R q cq, .int .i64 x] w fun e w' => e = .returned (.tuple #[.int .i64 (coV m l x), .bool (coOk m l x)]) ∧ Below w.heap.size w w' := by
  have hv' := hv
  obtain ⟨A, n, cp, B, k, d, rfl, h1, h2, h3, h4⟩ := hv
  have K := Blk.new w 29 [.int .i64 m.wd, .int .i64 m.ht, .slice A n cp, .slice B k d]
  have G : Below w.heap.size w (w.alloc (.cells #[.int .i64 m.wd, .int .i64 m.ht, .slice A n cp, .slice B k d] 29)) := (by repeat (first | exact Below.refl _ _ | refine below_drewN ?_ _ | refine Below.drew ?_ | refine Below.alloc ?_ (by first | omega | (simp; done) | (simp; omega)) _ | refine Below.setCell ?_ (by first | omega | (simp; done) | (simp; omega)) _))
  have HQ := Lib.hid hR.clen
  cases hok : okCts m l
  · have e1 : coOk m l x = false := by unfold coOk; rw [hok]; rfl
    have e2 : coV m l x = 0 := by unfold coV; rw [e1]; rfl
    rw [e1, e2]; clear e1 e2
    have HOK := Lib.hid hok
    clear hok
    go_enter Try.func21, Try.ntmps21
    go_wp2_with fail
    refine (l6Good_any (m := m) (hv'.on G) (hR.on G) hq hqc).mono ?_
    rintro e w1 ⟨rfl, hb⟩
    replace K := K.on hb
    replace G := G.trans (hb.mono G.size)
    clear hb
    rw [HOK.out]
    obtain ⟨k0, k1, k2, k3⟩ := blk4 K
    go_wp2_with fail
    go_ret2
    exact ⟨rfl, G⟩
  · by_cases h0 : 0 ≤ ixC l x
    · have HOK := Lib.hid hok
      obtain ⟨k9, hk9, hix, hpk, hnk⟩ := idxB_some l 0 h0
      have hix2 : ixC l x = (k9 : Int) := by unfold ixC; rw [hix]; simp
      have e1 : coOk m l x = true := by unfold coOk; rw [hok, hix2]; simp
      have e2 : coV m l x = l[k9].cell := by unfold coV; rw [e1, if_pos rfl, hix2]; exact ctX_get (by simpa using hk9)
      rw [e1, e2]; clear e1 e2
      have HIX := Lib.hid hix2
      have hq0 : k9 < q := by rw [← HQ.out]; exact hk9
      have hk9q : (k9 : Int) < (q : Int) := by omega
      obtain ⟨b, off, rfl, hbb, hca⟩ := hR.ct (show 0 < q by omega)
      have CK := Lib.hid (hca k9 hk9)
      clear hca hix hix2 h0
      clear hok
      go_enter Try.func21, Try.ntmps21
      go_wp2_with fail
      refine (l6Good_any (m := m) (hv'.on G) (hR.on G) hq hqc).mono ?_
      rintro e w1 ⟨rfl, hb⟩
      replace K := K.on hb
      replace G := G.trans (hb.mono G.size)
      clear hb
      rw [HOK.out]
      obtain ⟨k0, k1, k2, k3⟩ := blk4 K
      go_wp2_with fail
      refine (l6Find_any (hR.on G) hq).mono ?_
      rintro e w2 ⟨rfl, hb⟩
      clear k0 k1 k2 k3
      replace K := K.on hb
      replace G := G.trans (hb.mono G.size)
      clear hb
      rw [show idxB (fun c => c.code == x) l 0 = ixC l x from rfl]
      rw [HIX.out]
      obtain ⟨k0, k1, k2, k3⟩ := blk4 K
      go_wp2_with fail
      refine (l6Find_any (hR.on G) hq).mono ?_
      rintro e w3 ⟨rfl, hb⟩
      clear k0 k1 k2 k3
      replace K := K.on hb
      replace G := G.trans (hb.mono G.size)
      clear hb
      rw [show idxB (fun c => c.code == x) l 0 = ixC l x from rfl]
      rw [HIX.out]
      obtain ⟨k0, k1, k2, k3⟩ := blk4 K
      have ck := ((bcell G).1 b (off + k9 * 2 + 1) hbb).trans CK.out.2
      go_wp2_with fail
      go_ret2
      exact ⟨rfl, G⟩
    · have HOK := Lib.hid hok
      have e1 : coOk m l x = false := by unfold coOk; rw [show decide (0 ≤ ixC l x) = false by simpa using h0]; simp
      have e2 : coV m l x = 0 := by unfold coV; rw [e1]; rfl
      rw [e1, e2]; clear e1 e2
      have h9 : decide (ixC l x < 0) = true := by simp; omega
      have h8 : ixC l x < 0 := by omega
      clear hok
      go_enter Try.func21, Try.ntmps21
      go_wp2_with fail
      refine (l6Good_any (m := m) (hv'.on G) (hR.on G) hq hqc).mono ?_
      rintro e w1 ⟨rfl, hb⟩
      replace K := K.on hb
      replace G := G.trans (hb.mono G.size)
      clear hb
      rw [HOK.out]
      obtain ⟨k0, k1, k2, k3⟩ := blk4 K
      go_wp2_with fail
      refine (l6Find_any (hR.on G) hq).mono ?_
      rintro e w2 ⟨rfl, hb⟩
      clear k0 k1 k2 k3
      replace K := K.on hb
      replace G := G.trans (hb.mono G.size)
      clear hb
      rw [show idxB (fun c => c.code == x) l 0 = ixC l x from rfl]
      obtain ⟨k0, k1, k2, k3⟩ := blk4 K
      go_wp2_with fail
      go_ret2
      exact ⟨rfl, G⟩
set_option maxRecDepth 100000 in
set_option maxHeartbeats 1000000 in
theorem CodeAt_spec {m : Mp} {v : Value} {R : Option Addr} {q cq : Nat} {l : List Ct} {x : Int} {w : World} (hv : MapIn w m v) (hR : Rd w w.heap.size 2 R q (cts l)) (hq : q ≤ 1048576) (hqc : q ≤ cq) :
    Calls Try.prog 19 #[v, .slice R q cq, .int .i64 x] w fun e w' => e = .returned (.tuple #[.int .i64 (caV m l x), .bool (caOk m l x)]) ∧ Below w.heap.size w w' := by
  have hv' := hv
  obtain ⟨A, n, cp, B, k, d, rfl, h1, h2, h3, h4⟩ := hv
  have K := Blk.new w 29 [.int .i64 m.wd, .int .i64 m.ht, .slice A n cp, .slice B k d]
  have G : Below w.heap.size w (w.alloc (.cells #[.int .i64 m.wd, .int .i64 m.ht, .slice A n cp, .slice B k d] 29)) := (by repeat (first | exact Below.refl _ _ | refine below_drewN ?_ _ | refine Below.drew ?_ | refine Below.alloc ?_ (by first | omega | (simp; done) | (simp; omega)) _ | refine Below.setCell ?_ (by first | omega | (simp; done) | (simp; omega)) _))
  have HQ := Lib.hid hR.clen
  cases hok : okCts m l
  · have e1 : caOk m l x = false := by unfold caOk; rw [hok]; rfl
    have e2 : caV m l x = 0 := by unfold caV; rw [e1]; rfl
    rw [e1, e2]; clear e1 e2
    have HOK := Lib.hid hok
    clear hok
    go_enter Try.func19, Try.ntmps19
    go_wp2_with fail
    refine (l6Good_any (m := m) (hv'.on G) (hR.on G) hq hqc).mono ?_
    rintro e w1 ⟨rfl, hb⟩
    replace K := K.on hb
    replace G := G.trans (hb.mono G.size)
    clear hb
    rw [HOK.out]
    obtain ⟨k0, k1, k2, k3⟩ := blk4 K
    go_wp2_with fail
    go_ret2
    exact ⟨rfl, G⟩
  · have HOK := Lib.hid hok
    obtain ⟨V, h10, hall⟩ := okCts_iff hok
    cases hin : inM m x
    · have h0 : ¬ 0 ≤ ixX l x := by
        intro h
        obtain ⟨k9, hk9, _, hpk, _⟩ := idxB_some l 0 h
        have := ctOk_in hk9 (hall k9 hk9)
        rw [show l[k9].cell = x by simpa using hpk, hin] at this
        cases this
      have e1 : caOk m l x = false := by unfold caOk; rw [show decide (0 ≤ ixX l x) = false by simpa using h0]; simp
      have e2 : caV m l x = 0 := by unfold caV; rw [e1]; rfl
      rw [e1, e2]; clear e1 e2
      have HIN := Lib.hid hin
      clear hok hin
      go_enter Try.func19, Try.ntmps19
      go_wp2_with fail
      refine (l6Good_any (m := m) (hv'.on G) (hR.on G) hq hqc).mono ?_
      rintro e w1 ⟨rfl, hb⟩
      replace K := K.on hb
      replace G := G.trans (hb.mono G.size)
      clear hb
      rw [HOK.out]
      obtain ⟨k0, k1, k2, k3⟩ := blk4 K
      go_wp2_with fail
      refine (l2Cell_any (m := m) (hv'.on G) V).mono ?_
      rintro e w2 ⟨rfl, hb⟩
      clear k0 k1 k2 k3
      replace K := K.on hb
      replace G := G.trans (hb.mono G.size)
      clear hb
      rw [HIN.out]
      obtain ⟨k0, k1, k2, k3⟩ := blk4 K
      go_wp2_with fail
      go_ret2
      exact ⟨rfl, G⟩
    · have HIN := Lib.hid hin
      clear hin
      go_enter Try.func19, Try.ntmps19
      go_wp2_with fail
      refine (l6Good_any (m := m) (hv'.on G) (hR.on G) hq hqc).mono ?_
      rintro e w1 ⟨rfl, hb⟩
      replace K := K.on hb
      replace G := G.trans (hb.mono G.size)
      clear hb
      rw [HOK.out]
      obtain ⟨k0, k1, k2, k3⟩ := blk4 K
      go_wp2_with fail
      refine (l2Cell_any (m := m) (hv'.on G) V).mono ?_
      rintro e w2 ⟨rfl, hb⟩
      clear k0 k1 k2 k3
      replace K := K.on hb
      replace G := G.trans (hb.mono G.size)
      clear hb
      rw [HIN.out]
      obtain ⟨k0, k1, k2, k3⟩ := blk4 K
      go_wp2_with fail
      clear k0 k1 k2 k3
      go_loopw [8] (fun i wr => ∃ j : Nat, j ≤ q ∧ i = .int .i64 j ∧ Hid (∀ (e : Nat) (he : e < l.length), e < j → (l[e].cell == x) = false) ∧ Below w.heap.size w wr) (fun i _ => q - (intOf i).toNat)
      case atStart => exact ⟨0, Nat.zero_le _, rfl, (fun j _ h => absurd h (by omega)), G⟩
      clear K G
      case round =>
        obtain ⟨j, hj, rfl, HN, G⟩ := hrel
        by_cases hlt : j < q
        · obtain ⟨b, off, rfl, hbb, hca⟩ := hR.ct (show 0 < q by omega)
          have kx : j < l.length := by rw [HQ.out]; exact hlt
          have c1 := ((bcell G).1 b (off + j * 2) hbb).trans (hca j kx).1
          have c2 := ((bcell G).1 b (off + j * 2 + 1) hbb).trans (hca j kx).2
          clear hca
          cases hce : l[j].cell == x
          · have HQ9 := Lib.hid hce
            go_wp2_with fail
            go_roundw
            case rel => exact ⟨j + 1, by omega, by go_num, (show ∀ (e : Nat) (he : e < l.length), e < j + 1 → (l[e].cell == x) = false from fun e he hej => by
              by_cases ee : e = j
              · subst ee; exact HQ9.out
              · exact HN.out e he (by omega)), G⟩
            case measure => simp [intOf]; omega
          · have HQ9 := Lib.hid hce
            have hix : ixX l x = (j : Int) := by unfold ixX; rw [idxB_hit l 0 j kx HQ9.out HN.out]; simp
            have e1 := Lib.hid (show caOk m l x = true by unfold caOk; rw [HOK.out, hix]; simp)
            have e2 := Lib.hid (show caV m l x = l[j].code by unfold caV; rw [e1.out, if_pos rfl, hix]; exact ctC_get (by simpa using kx))
            clear hix
            go_wp2_with fail
            go_ret2
            exact ⟨by rw [e1.out, e2.out]; rfl, G⟩
        · have hmiss : ixX l x = -1 := by unfold ixX; exact idxB_miss l 0 fun j hj => HN.out j hj (by rw [HQ.out] at hj; omega)
          have e1 := Lib.hid (show caOk m l x = false by unfold caOk; rw [hmiss]; simp)
          have e2 := Lib.hid (show caV m l x = 0 by unfold caV; rw [e1.out]; rfl)
          clear hmiss
          go_wp2_with fail
          go_ret2
          exact ⟨by rw [e1.out, e2.out]; rfl, G⟩
end Go.Proofs.Ytcjggopdgkopiaa
