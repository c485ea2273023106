/- Contracts: NearestControl, the program's and the reference's. -/
import Derived.Test.YtcjggopdgkopiaaFld
namespace Go.Proofs.Ytcjggopdgkopiaa
set_option linter.unusedVariables false
set_option linter.unusedSimpArgs false
open Go.RowKit
def nbN (m : Mp) (l : List Ct) (x : Int) : Nat → Nat
  | 0 => 0
  | k + 1 => if gapV m.wd (ctX l (k + 1)) x < gapV m.wd (ctX l (nbN m l x k)) x then k + 1 else nbN m l x k
theorem nbN_le (m : Mp) (l : List Ct) (x : Int) : ∀ k, nbN m l x k ≤ k := by
  intro k
  induction k with
  | zero => simp [nbN]
  | succ k ih => rw [nbN]; split <;> omega
theorem codes_up {m : Mp} {l : List Ct} (h : ∀ i, i < l.length → ctOk m l i = true) : ∀ j, j < l.length → ∀ i, i < j → ctC l i < ctC l j := by
  intro j
  induction j with
  | zero => intro _ i hi; omega
  | succ j ih =>
    intro hj i hi
    have h1 := h (j + 1) hj
    unfold ctOk at h1
    simp only [Bool.and_eq_true, Bool.or_eq_true, decide_eq_true_eq, Nat.add_sub_cancel] at h1
    have h2 : ctC l j < ctC l (j + 1) := by rcases h1.2.2.1 with e | e <;> omega
    by_cases e : i = j
    · rw [e]; exact h2
    · have := ih (by omega) i (by omega); omega
theorem min_nb {m : Mp} {l : List Ct} {x : Int} (h : ∀ i, i < l.length → ctOk m l i = true) : ∀ k, k < l.length → minN (nrF m x) l k = nbN m l x k := by
  intro k
  induction k with
  | zero => intro _; rfl
  | succ k ih =>
    intro hk
    have e := ih (by omega)
    have hle := nbN_le m l x k
    have hup := codes_up h (k + 1) hk (nbN m l x k) (by omega)
    have hiff : nrF m x (l.getD (k + 1) default) (l.getD (nbN m l x k) default) < 0 ↔ gapV m.wd (ctX l (k + 1)) x < gapV m.wd (ctX l (nbN m l x k)) x := by
      show orI (cmpI (gapV m.wd (ctX l (k + 1)) x) (gapV m.wd (ctX l (nbN m l x k)) x)) (cmpI (ctC l (k + 1)) (ctC l (nbN m l x k))) < 0 ↔ _
      generalize gapV m.wd (ctX l (k + 1)) x = a at *
      generalize gapV m.wd (ctX l (nbN m l x k)) x = b at *
      unfold orI cmpI
      rw [if_neg (show ¬ ctC l (k + 1) < ctC l (nbN m l x k) by omega), if_pos hup]
      by_cases h1 : a < b
      · rw [if_pos h1]; simp [h1]
      · rw [if_neg h1]
        by_cases h2 : b < a
        · rw [if_pos h2]; simp; omega
        · rw [if_neg h2]; simp; omega
    rw [minN, nbN, e]
    by_cases hg : gapV m.wd (ctX l (k + 1)) x < gapV m.wd (ctX l (nbN m l x k)) x
    · rw [if_pos hg, if_pos (hiff.2 hg)]
    · rw [if_neg hg, if_neg (fun h => hg (hiff.1 h))]
def ncOk (m : Mp) (l : List Ct) (x : Int) : Bool := okCts m l && (inM m x && decide (0 < l.length))
def ncV (m : Mp) (l : List Ct) (x : Int) : Int := if ncOk m l x = true then ctC l (nbN m l x (l.length - 1)) else 0
set_option maxHeartbeats 1000000 in
theorem l6Apart_any {m : Mp} {v : Value} {a b : Int} {w : World} (hv : MapIn w m v) (hw1 : 1 ≤ m.wd) (hw6 : m.wd ≤ 6) (ha : 0 ≤ a) (ha2 : a < 1000) (hb : 0 ≤ b) (hb2 : b < 1000) :
    Calls Try.prog 56 #[v, .int .i64 a, .int .i64 b] w fun e w' => e = .returned (.int .i64 (gapV m.wd a b)) ∧ Below w.heap.size w w' := by
  obtain ⟨A, n, c, B, k, d, rfl, h1, h2, h3, h4⟩ := hv
  have e1 : 0 ≤ a % m.wd ∧ a % m.wd < 6 := ⟨Int.emod_nonneg _ (by omega), by have := Int.emod_lt_of_pos a (show 0 < m.wd by omega); omega⟩
  have e2 : 0 ≤ b % m.wd ∧ b % m.wd < 6 := ⟨Int.emod_nonneg _ (by omega), by have := Int.emod_lt_of_pos b (show 0 < m.wd by omega); omega⟩
  have e3 : 0 ≤ a / m.wd ∧ a / m.wd < 1000 := ⟨Int.ediv_nonneg ha (by omega), by have := Int.ediv_le_self m.wd ha; omega⟩
  have e4 : 0 ≤ b / m.wd ∧ b / m.wd < 1000 := ⟨Int.ediv_nonneg hb (by omega), by have := Int.ediv_le_self m.wd hb; omega⟩
  obtain ⟨e11, e12⟩ := e1
  obtain ⟨e21, e22⟩ := e2
  obtain ⟨e31, e32⟩ := e3
  obtain ⟨e41, e42⟩ := e4
  have hw0 : (m.wd == 0) = false := by simp; omega
  unfold gapV absI
  go_enter Try.func56, Try.ntmps56
  go_wp2_with fail
  go_quiet (fail)
  go_wp2_with (go_at_call 81; refine (l1Most_any _ _ _).mono ?_; rintro e w' ⟨rfl, rfl⟩)
  go_ret
  exact ⟨ret_int (by first | rfl | omega), by first | exact (by repeat (first | exact Below.refl _ _ | refine below_drewN ?_ _ | refine Below.drew ?_ | refine Below.alloc ?_ (by first | omega | (simp; done) | (simp; omega)) _ | refine Below.setCell ?_ (by first | omega | (simp; done) | (simp; omega)) _)) | exact below_drewN (by repeat (first | exact Below.refl _ _ | refine below_drewN ?_ _ | refine Below.drew ?_ | refine Below.alloc ?_ (by first | omega | (simp; done) | (simp; omega)) _ | refine Below.setCell ?_ (by first | omega | (simp; done) | (simp; omega)) _)) _⟩
set_option maxRecDepth 100000 in
set_option maxHeartbeats 2000000 in
theorem NearestControl_impl {m : Mp} {v : Value} {R : Option Addr} {q cq : Nat} {l : List Ct} {x : Int} {w : World} (hv : MapIn w m v) (hR : Rd w w.heap.size 2 R q (cts l)) (hq : q ≤ 1048576) (hqc : q ≤ cq) :
    Calls Try.prog 26 #[v, .slice R q cq, .int .i64 x] w fun e w' => e = .returned (.tuple #[.int .i64 (ncV m l x), .bool (ncOk m l x)]) ∧ Below w.heap.size w w' := by
  have hv' := hv
  obtain ⟨A, n, cp, B, k, d, rfl, h1, h2, h3, h4⟩ := hv
  have K := Blk.new w 29 [.int .i64 m.wd, .int .i64 m.ht, .slice A n cp, .slice B k d]
  have G : Below w.heap.size w (w.alloc (.cells #[.int .i64 m.wd, .int .i64 m.ht, .slice A n cp, .slice B k d] 29)) := (by repeat (first | exact Below.refl _ _ | refine below_drewN ?_ _ | refine Below.drew ?_ | refine Below.alloc ?_ (by first | omega | (simp; done) | (simp; omega)) _ | refine Below.setCell ?_ (by first | omega | (simp; done) | (simp; omega)) _))
  have hsz : (w.alloc (.cells #[.int .i64 m.wd, .int .i64 m.ht, .slice A n cp, .slice B k d] 29)).heap.size = w.heap.size + 1 := by simp
  have C0 := Blk.new (w.alloc (.cells #[.int .i64 m.wd, .int .i64 m.ht, .slice A n cp, .slice B k d] 29)) 3 [.int .i64 x]
  rw [hsz] at C0
  clear hsz
  have C : Blk ((w.alloc (.cells #[.int .i64 m.wd, .int .i64 m.ht, .slice A n cp, .slice B k d] 29)).alloc (.cells #[.int .i64 x] 3)) (w.heap.size + 1) 3 [.int .i64 x] := C0
  clear C0
  replace K := K.alloc (.cells #[.int .i64 x] 3)
  replace G := G.alloc G.size (.cells #[.int .i64 x] 3)
  have HQ := Lib.hid hR.clen
  cases hok : okCts m l
  · have e1 : ncOk m l x = false := by unfold ncOk; rw [hok]; rfl
    have e2 : ncV m l x = 0 := by unfold ncV; rw [e1]; rfl
    rw [e1, e2]; clear e1 e2
    have HOK := Lib.hid hok
    clear hok
    go_enter Try.func26, Try.ntmps26
    go_wp2_with fail
    refine (AreControls_any (m := m) (hv'.on G) (hR.on G) hq hqc).mono ?_
    rintro e w1 ⟨rfl, hb⟩
    replace K := K.on hb
    replace G := G.trans (hb.mono G.size)
    replace C := C.on hb
    clear hb
    rw [HOK.out]
    obtain ⟨k0, k1, k2, k3⟩ := blk4 K
    have cc : w1.cell? ⟨w.heap.size + 1, 0, none⟩ = some (.int .i64 x) := C.cell 0
    go_wp2_with fail
    go_ret2
    exact ⟨rfl, G⟩
  · have HOK := Lib.hid hok
    obtain ⟨V, h10, hall⟩ := okCts_iff hok
    have vw1 := V.w1
    have vw6 := V.w6
    have n36 := V.n36
    have HBD := Lib.hid (ctOk_bd V hall)
    have HALL := Lib.hid hall
    clear hall
    cases hin : inM m x
    · have e1 : ncOk m l x = false := by unfold ncOk; rw [hin]; simp
      have e2 : ncV m l x = 0 := by unfold ncV; rw [e1]; rfl
      rw [e1, e2]; clear e1 e2
      have HIN : Hid ((okM m && inM m x) = false) := by show _ = _; simp [hin]
      clear hok hin
      go_enter Try.func26, Try.ntmps26
      go_wp2_with fail
      refine (AreControls_any (m := m) (hv'.on G) (hR.on G) hq hqc).mono ?_
      rintro e w1 ⟨rfl, hb⟩
      replace K := K.on hb
      replace G := G.trans (hb.mono G.size)
      replace C := C.on hb
      clear hb
      rw [HOK.out]
      obtain ⟨k0, k1, k2, k3⟩ := blk4 K
      have cc : w1.cell? ⟨w.heap.size + 1, 0, none⟩ = some (.int .i64 x) := C.cell 0
      go_wp2_with fail
      refine (isCell_any (m := m) (hv'.on G) ).mono ?_
      rintro e w2 ⟨rfl, hb⟩
      clear k0 k1 k2 k3
      replace K := K.on hb
      replace G := G.trans (hb.mono G.size)
      replace C := C.on hb
      clear hb
      rw [HIN.out]
      obtain ⟨k0, k1, k2, k3⟩ := blk4 K
      have cc : w2.cell? ⟨w.heap.size + 1, 0, none⟩ = some (.int .i64 x) := C.cell 0
      go_wp2_with fail
      go_ret2
      exact ⟨rfl, G⟩
    · have HIN : Hid ((okM m && inM m x) = true) := by show _ = _; first | exact hin | (rw [hin, valid_iff.2 V]; rfl)
      obtain ⟨x1, x2⟩ := inM_iff.1 hin
      have x3 : x < 1000 := by omega
      by_cases hq0 : q = 0
      · have e1 : ncOk m l x = false := by unfold ncOk; rw [show decide (0 < l.length) = false by rw [HQ.out, hq0]; rfl]; simp
        have e2 : ncV m l x = 0 := by unfold ncV; rw [e1]; rfl
        rw [e1, e2]; clear e1 e2
        have hz1 : ((q : Int) == 0) = true := by rw [hq0]; rfl
        clear hok hin
        subst hq0
        go_enter Try.func26, Try.ntmps26
        go_wp2_with fail
        refine (AreControls_any (m := m) (hv'.on G) (hR.on G) hq hqc).mono ?_
        rintro e w1 ⟨rfl, hb⟩
        replace K := K.on hb
        replace G := G.trans (hb.mono G.size)
        replace C := C.on hb
        clear hb
        rw [HOK.out]
        obtain ⟨k0, k1, k2, k3⟩ := blk4 K
        have cc : w1.cell? ⟨w.heap.size + 1, 0, none⟩ = some (.int .i64 x) := C.cell 0
        go_wp2_with fail
        refine (isCell_any (m := m) (hv'.on G) ).mono ?_
        rintro e w2 ⟨rfl, hb⟩
        clear k0 k1 k2 k3
        replace K := K.on hb
        replace G := G.trans (hb.mono G.size)
        replace C := C.on hb
        clear hb
        rw [HIN.out]
        obtain ⟨k0, k1, k2, k3⟩ := blk4 K
        have cc : w2.cell? ⟨w.heap.size + 1, 0, none⟩ = some (.int .i64 x) := C.cell 0
        go_wp2_with fail
        go_ret2
        exact ⟨rfl, G⟩
      · have e1 : ncOk m l x = true := by unfold ncOk; rw [hok, hin, HQ.out]; simp; omega
        have e2 : ncV m l x = ctC l (nbN m l x (q - 1)) := by unfold ncV; rw [e1, if_pos rfl, HQ.out]
        rw [e1, e2]; clear e1 e2
        have hq1 : 0 < q := by omega
        have hz1 : ((q : Int) == 0) = false := by simp; omega
        clear hok hin
        go_enter Try.func26, Try.ntmps26
        go_wp2_with fail
        refine (AreControls_any (m := m) (hv'.on G) (hR.on G) hq hqc).mono ?_
        rintro e w1 ⟨rfl, hb⟩
        replace K := K.on hb
        replace G := G.trans (hb.mono G.size)
        replace C := C.on hb
        clear hb
        rw [HOK.out]
        obtain ⟨k0, k1, k2, k3⟩ := blk4 K
        have cc : w1.cell? ⟨w.heap.size + 1, 0, none⟩ = some (.int .i64 x) := C.cell 0
        go_wp2_with fail
        refine (isCell_any (m := m) (hv'.on G) ).mono ?_
        rintro e w2 ⟨rfl, hb⟩
        clear k0 k1 k2 k3
        replace K := K.on hb
        replace G := G.trans (hb.mono G.size)
        replace C := C.on hb
        clear hb
        rw [HIN.out]
        obtain ⟨k0, k1, k2, k3⟩ := blk4 K
        have cc : w2.cell? ⟨w.heap.size + 1, 0, none⟩ = some (.int .i64 x) := C.cell 0
        have e59 := enters_of (P := Try.prog) Try.func59 (by kernel_rfl) rfl
        go_wp2_with fail
        refine (MinFunc_ct 59 _ (nrF m x) e59 (Nearest1 V HBD.out x1 x3 (hv'.on G) K C) (hR.on G) hq hq1).mono ?_
        rintro e w9 ⟨rfl, hb⟩
        have HM := Lib.hid (min_nb (x := x) HALL.out (q - 1) (by rw [HQ.out]; omega))
        have fd := field_code (l.getD (minN (nrF m x) l (q - 1)) default).code (l.getD (minN (nrF m x) l (q - 1)) default).cell w9
        generalize hmc : l.getD (minN (nrF m x) l (q - 1)) default = mc at *
        have HMC := Lib.hid hmc
        clear hmc
        go_wp2_with fail
        go_ret2
        exact ⟨by rw [← HM.out, show ctC l (minN (nrF m x) l (q - 1)) = mc.code from congrArg Ct.code HMC.out]; rfl, G.trans (hb.mono G.size)⟩
set_option maxRecDepth 100000 in
set_option maxHeartbeats 2000000 in
theorem NearestControl_spec {m : Mp} {v : Value} {R : Option Addr} {q cq : Nat} {l : List Ct} {x : Int} {w : World} (hv : MapIn w m v) (hR : Rd w w.heap.size 2 R q (cts l)) (hq : q ≤ 1048576) (hqc : q ≤ cq) :
    Calls Try.prog 25 #[v, .slice R q cq, .int .i64 x] w fun e w' => e = .returned (.tuple #[.int .i64 (ncV m l x), .bool (ncOk m l x)]) ∧ Below w.heap.size w w' := by
  have hv' := hv
  obtain ⟨A, n, cp, B, k, d, rfl, h1, h2, h3, h4⟩ := hv
  have K := Blk.new w 29 [.int .i64 m.wd, .int .i64 m.ht, .slice A n cp, .slice B k d]
  have G : Below w.heap.size w (w.alloc (.cells #[.int .i64 m.wd, .int .i64 m.ht, .slice A n cp, .slice B k d] 29)) := (by repeat (first | exact Below.refl _ _ | refine below_drewN ?_ _ | refine Below.drew ?_ | refine Below.alloc ?_ (by first | omega | (simp; done) | (simp; omega)) _ | refine Below.setCell ?_ (by first | omega | (simp; done) | (simp; omega)) _))
  have HQ := Lib.hid hR.clen
  cases hok : okCts m l
  · have e1 : ncOk m l x = false := by unfold ncOk; rw [hok]; rfl
    have e2 : ncV m l x = 0 := by unfold ncV; rw [e1]; rfl
    rw [e1, e2]; clear e1 e2
    have HOK := Lib.hid hok
    clear hok
    go_enter Try.func25, Try.ntmps25
    go_wp2_with fail
    refine (l6Good_any (m := m) (hv'.on G) (hR.on G) hq hqc).mono ?_
    rintro e w1 ⟨rfl, hb⟩
    replace K := K.on hb
    replace G := G.trans (hb.mono G.size)
    clear hb
    rw [HOK.out]
    obtain ⟨k0, k1, k2, k3⟩ := blk4 K
    go_wp2_with fail
    go_ret2
    exact ⟨rfl, G⟩
  · have HOK := Lib.hid hok
    obtain ⟨V, h10, hall⟩ := okCts_iff hok
    have vw1 := V.w1
    have vw6 := V.w6
    have n36 := V.n36
    have HBD := Lib.hid (ctOk_bd V hall)
    have HALL := Lib.hid hall
    clear hall
    cases hin : inM m x
    · have e1 : ncOk m l x = false := by unfold ncOk; rw [hin]; simp
      have e2 : ncV m l x = 0 := by unfold ncV; rw [e1]; rfl
      rw [e1, e2]; clear e1 e2
      have HIN : Hid (inM m x = false) := by show _ = _; simp [hin]
      clear hok hin
      go_enter Try.func25, Try.ntmps25
      go_wp2_with fail
      refine (l6Good_any (m := m) (hv'.on G) (hR.on G) hq hqc).mono ?_
      rintro e w1 ⟨rfl, hb⟩
      replace K := K.on hb
      replace G := G.trans (hb.mono G.size)
      clear hb
      rw [HOK.out]
      obtain ⟨k0, k1, k2, k3⟩ := blk4 K
      go_wp2_with fail
      refine (l2Cell_any (m := m) (hv'.on G) V).mono ?_
      rintro e w2 ⟨rfl, hb⟩
      clear k0 k1 k2 k3
      replace K := K.on hb
      replace G := G.trans (hb.mono G.size)
      clear hb
      rw [HIN.out]
      obtain ⟨k0, k1, k2, k3⟩ := blk4 K
      go_wp2_with fail
      go_ret2
      exact ⟨rfl, G⟩
    · have HIN : Hid (inM m x = true) := by show _ = _; first | exact hin | (rw [hin, valid_iff.2 V]; rfl)
      obtain ⟨x1, x2⟩ := inM_iff.1 hin
      have x3 : x < 1000 := by omega
      by_cases hq0 : q = 0
      · have e1 : ncOk m l x = false := by unfold ncOk; rw [show decide (0 < l.length) = false by rw [HQ.out, hq0]; rfl]; simp
        have e2 : ncV m l x = 0 := by unfold ncV; rw [e1]; rfl
        rw [e1, e2]; clear e1 e2
        have hz1 : ((q : Int) == 0) = true := by rw [hq0]; rfl
        clear hok hin
        subst hq0
        go_enter Try.func25, Try.ntmps25
        go_wp2_with fail
        refine (l6Good_any (m := m) (hv'.on G) (hR.on G) hq hqc).mono ?_
        rintro e w1 ⟨rfl, hb⟩
        replace K := K.on hb
        replace G := G.trans (hb.mono G.size)
        clear hb
        rw [HOK.out]
        obtain ⟨k0, k1, k2, k3⟩ := blk4 K
        go_wp2_with fail
        refine (l2Cell_any (m := m) (hv'.on G) V).mono ?_
        rintro e w2 ⟨rfl, hb⟩
        clear k0 k1 k2 k3
        replace K := K.on hb
        replace G := G.trans (hb.mono G.size)
        clear hb
        rw [HIN.out]
        obtain ⟨k0, k1, k2, k3⟩ := blk4 K
        go_wp2_with fail
        go_ret2
        exact ⟨rfl, G⟩
      · have e1 : ncOk m l x = true := by unfold ncOk; rw [hok, hin, HQ.out]; simp; omega
        have e2 : ncV m l x = ctC l (nbN m l x (q - 1)) := by unfold ncV; rw [e1, if_pos rfl, HQ.out]
        rw [e1, e2]; clear e1 e2
        have hq1 : 0 < q := by omega
        have hz1 : ((q : Int) == 0) = false := by simp; omega
        clear hok hin
        go_enter Try.func25, Try.ntmps25
        go_wp2_with fail
        refine (l6Good_any (m := m) (hv'.on G) (hR.on G) hq hqc).mono ?_
        rintro e w1 ⟨rfl, hb⟩
        replace K := K.on hb
        replace G := G.trans (hb.mono G.size)
        clear hb
        rw [HOK.out]
        obtain ⟨k0, k1, k2, k3⟩ := blk4 K
        go_wp2_with fail
        refine (l2Cell_any (m := m) (hv'.on G) V).mono ?_
        rintro e w2 ⟨rfl, hb⟩
        clear k0 k1 k2 k3
        replace K := K.on hb
        replace G := G.trans (hb.mono G.size)
        clear hb
        rw [HIN.out]
        obtain ⟨k0, k1, k2, k3⟩ := blk4 K
        go_wp2_with fail
        clear k0 k1 k2 k3
        go_loopw [8, 9] (fun p i wr => ∃ j : Nat, 1 ≤ j ∧ j ≤ q ∧ i = .int .i64 j ∧ p = .int .i64 (nbN m l x (j - 1) : Nat) ∧ Blk wr w.heap.size 29 [.int .i64 m.wd, .int .i64 m.ht, .slice A n cp, .slice B k d] ∧ Below w.heap.size w wr) (fun _ i _ => q - (intOf i).toNat)
        case atStart => exact ⟨1, Nat.le_refl _, hq1, rfl, rfl, K, G⟩
        clear K G
        case round =>
          obtain ⟨j, hj1, hj, rfl, rfl, K, G⟩ := hrel
          have hle := nbN_le m l x (j - 1)
          obtain ⟨b, off, rfl, hbb, hca⟩ := hR.ct hq1
          have HCA := Lib.hid hca
          clear hca
          by_cases hlt : j < q
          · have kx : j < l.length := by rw [HQ.out]; exact hlt
            have HS : Hid (nbN m l x j = if gapV m.wd (ctX l j) x < gapV m.wd (ctX l (nbN m l x (j - 1))) x then j else nbN m l x (j - 1)) := by
              show _ = _
              obtain ⟨i, rfl⟩ : ∃ i, j = i + 1 := ⟨j - 1, by omega⟩
              rw [nbN]; rfl
            generalize hbj : nbN m l x (j - 1) = bj at *
            have HBJ := Lib.hid hbj
            clear hbj
            have kb : bj < l.length := by omega
            have CJ := Lib.hid (HCA.out j kx)
            have CB := Lib.hid (HCA.out bj kb)
            have cj := HBD.out l[j] (List.getElem_mem kx)
            have cb := HBD.out l[bj] (List.getElem_mem kb)
            have i1 : (bj : Int) < (q : Int) := by omega
            have EJ := Lib.hid (ctX_get kx)
            have EB := Lib.hid (ctX_get kb)
            by_cases hg : gapV m.wd l[j].cell x < gapV m.wd l[bj].cell x
            · have HN : Hid (nbN m l x (j + 1 - 1) = j) := by show _ = _; rw [Nat.add_sub_cancel, HS.out, EJ.out, EB.out, if_pos hg]
              go_wp2_with fail
              refine wp_region_held_drew (S := fun w' => Blk w' w.heap.size 29 [.int .i64 m.wd, .int .i64 m.ht, .slice A n cp, .slice B k d] ∧ Below w.heap.size w w') (by kernel_rfl) ?_ (fun hHeld => ?_)
              · (try dsimp only)
                first | exact ⟨K.drew, G.drew⟩ | exact ⟨hHeld.1.on hb6, hHeld.2.trans (hb6.mono hHeld.2.size)⟩ | exact hHeld
              refine rgTake (i := 0) (d := 31) (v := ?_) rfl rfl (by kernel_rfl) (by kernel_rfl) (by kernel_rfl) (fun _ _ _ h => h) (by rfl) ?_ (by assumption) ?_
              rotate_left
              · ((intro w hSw); (try dsimp only at hSw); (obtain ⟨z0, z1, z2, z3⟩ := blk4 hSw.1; have y0 := ((bcell hSw.2).1 b (off + j * 2 + 1) hbb).trans CJ.out.2; have y1 := ((bcell hSw.2).1 b (off + bj * 2 + 1) hbb).trans CB.out.2); go_simp; (try with_reducible rfl))
              try simp only [Act.put, List.setIfInBounds_toArray, List.set_cons_zero, List.set_cons_succ]
              refine rgTake (i := 1) (d := 32) (v := ?_) rfl rfl (by kernel_rfl) (by kernel_rfl) (by kernel_rfl) (fun _ _ _ h => h) (by rfl) ?_ (by assumption) ?_
              rotate_left
              · ((intro w hSw); (try dsimp only at hSw); go_simp; (try with_reducible rfl))
              try simp only [Act.put, List.setIfInBounds_toArray, List.set_cons_zero, List.set_cons_succ]
              refine rgTake (i := 2) (d := 33) (v := ?_) rfl rfl (by kernel_rfl) (by kernel_rfl) (by kernel_rfl) (fun _ _ _ h => h) (by rfl) ?_ (by assumption) ?_
              rotate_left
              · ((intro w hSw); (try dsimp only at hSw); go_simp; (try with_reducible rfl))
              try simp only [Act.put, List.setIfInBounds_toArray, List.set_cons_zero, List.set_cons_succ]
              refine rgTake (i := 3) (d := 34) (v := ?_) rfl rfl (by kernel_rfl) (by kernel_rfl) (by kernel_rfl) (fun _ _ _ h => h) (by rfl) ?_ (by assumption) ?_
              rotate_left
              · ((intro w hSw); (try dsimp only at hSw); go_simp; (try with_reducible rfl))
              try simp only [Act.put, List.setIfInBounds_toArray, List.set_cons_zero, List.set_cons_succ]
              refine rgTake (i := 4) (d := 35) (v := ?_) rfl rfl (by kernel_rfl) (by kernel_rfl) (by kernel_rfl) (fun _ _ _ h => h) (by rfl) ?_ (by assumption) ?_
              rotate_left
              · ((intro w hSw); (try dsimp only at hSw); go_simp; (try with_reducible rfl))
              try simp only [Act.put, List.setIfInBounds_toArray, List.set_cons_zero, List.set_cons_succ]
              refine rgTake (i := 5) (d := 36) (v := ?_) rfl rfl (by kernel_rfl) (by kernel_rfl) (by kernel_rfl) (fun _ _ _ h => h) (by rfl) ?_ (by assumption) ?_
              rotate_left
              · ((intro w hSw); (try dsimp only at hSw); (obtain ⟨z0, z1, z2, z3⟩ := blk4 hSw.1; have y0 := ((bcell hSw.2).1 b (off + j * 2 + 1) hbb).trans CJ.out.2; have y1 := ((bcell hSw.2).1 b (off + bj * 2 + 1) hbb).trans CB.out.2); go_simp; (try with_reducible rfl))
              try simp only [Act.put, List.setIfInBounds_toArray, List.set_cons_zero, List.set_cons_succ]
              refine rgTake (i := 6) (d := 37) (v := ?_) rfl rfl (by kernel_rfl) (by kernel_rfl) (by kernel_rfl) (fun _ _ _ h => h) (by rfl) ?_ (by assumption) ?_
              rotate_left
              · ((intro w hSw); (try dsimp only at hSw); go_simp; (try with_reducible rfl))
              try simp only [Act.put, List.setIfInBounds_toArray, List.set_cons_zero, List.set_cons_succ]
              refine rgTake (i := 8) (d := 39) (v := ?_) rfl rfl (by kernel_rfl) (by kernel_rfl) (by kernel_rfl) (fun _ _ _ h => h) (by rfl) ?_ (by assumption) ?_
              rotate_left
              · ((intro w hSw); (try dsimp only at hSw); (obtain ⟨z0, z1, z2, z3⟩ := blk4 hSw.1; have y0 := ((bcell hSw.2).1 b (off + j * 2 + 1) hbb).trans CJ.out.2; have y1 := ((bcell hSw.2).1 b (off + bj * 2 + 1) hbb).trans CB.out.2); go_simp; (try with_reducible rfl))
              try simp only [Act.put, List.setIfInBounds_toArray, List.set_cons_zero, List.set_cons_succ]
              refine rgTake (i := 9) (d := 40) (v := ?_) rfl rfl (by kernel_rfl) (by kernel_rfl) (by kernel_rfl) (fun _ _ _ h => h) (by rfl) ?_ (by assumption) ?_
              rotate_left
              · ((intro w hSw); (try dsimp only at hSw); go_simp; (try with_reducible rfl))
              try simp only [Act.put, List.setIfInBounds_toArray, List.set_cons_zero, List.set_cons_succ]
              refine rgTake (i := 10) (d := 41) (v := ?_) rfl rfl (by kernel_rfl) (by kernel_rfl) (by kernel_rfl) (fun _ _ _ h => h) (by rfl) ?_ (by assumption) ?_
              rotate_left
              · ((intro w hSw); (try dsimp only at hSw); go_simp; (try with_reducible rfl))
              try simp only [Act.put, List.setIfInBounds_toArray, List.set_cons_zero, List.set_cons_succ]
              refine rgTake (i := 11) (d := 42) (v := ?_) rfl rfl (by kernel_rfl) (by kernel_rfl) (by kernel_rfl) (fun _ _ _ h => h) (by rfl) ?_ (by assumption) ?_
              rotate_left
              · ((intro w hSw); (try dsimp only at hSw); go_simp; (try with_reducible rfl))
              try simp only [Act.put, List.setIfInBounds_toArray, List.set_cons_zero, List.set_cons_succ]
              refine rgTake (i := 12) (d := 43) (v := ?_) rfl rfl (by kernel_rfl) (by kernel_rfl) (by kernel_rfl) (fun _ _ _ h => h) (by rfl) ?_ (by assumption) ?_
              rotate_left
              · ((intro w hSw); (try dsimp only at hSw); go_simp; (try with_reducible rfl))
              try simp only [Act.put, List.setIfInBounds_toArray, List.set_cons_zero, List.set_cons_succ]
              refine rgTake (i := 13) (d := 44) (v := ?_) rfl rfl (by kernel_rfl) (by kernel_rfl) (by kernel_rfl) (fun _ _ _ h => h) (by rfl) ?_ (by assumption) ?_
              rotate_left
              · ((intro w hSw); (try dsimp only at hSw); (obtain ⟨z0, z1, z2, z3⟩ := blk4 hSw.1; have y0 := ((bcell hSw.2).1 b (off + j * 2 + 1) hbb).trans CJ.out.2; have y1 := ((bcell hSw.2).1 b (off + bj * 2 + 1) hbb).trans CB.out.2); go_simp; (try with_reducible rfl))
              try simp only [Act.put, List.setIfInBounds_toArray, List.set_cons_zero, List.set_cons_succ]
              refine rgTake (i := 14) (d := 45) (v := ?_) rfl rfl (by kernel_rfl) (by kernel_rfl) (by kernel_rfl) (fun _ _ _ h => h) (by rfl) ?_ (by assumption) ?_
              rotate_left
              · ((intro w hSw); (try dsimp only at hSw); go_simp; (try with_reducible rfl))
              try simp only [Act.put, List.setIfInBounds_toArray, List.set_cons_zero, List.set_cons_succ]
              refine wpAnyH_ready (rs := [7]) (by kernel_rfl) (by simp) ?_
              refine AllReadyH.cons rfl (fun K hK => ?_) AllReadyH.nil
              go_simp
              refine (l6Apart_any (m := m) (hv'.on hHeld.2) vw1 vw6 cj.1 cj.2 x1 x3).mono ?_; rintro e wy ⟨rfl, hb6⟩
              go_wp2_with fail
              refine hK.out _ _ ?_ (fun hHeld => ?_)
              · (try dsimp only)
                first | exact ⟨K.drew, G.drew⟩ | exact ⟨hHeld.1.on hb6, hHeld.2.trans (hb6.mono hHeld.2.size)⟩ | exact hHeld
              clear hK K
              try simp only [Act.put, List.setIfInBounds_toArray, List.set_cons_zero, List.set_cons_succ]
              refine wpAnyH_ready (rs := [15]) (by kernel_rfl) (by simp) ?_
              refine AllReadyH.cons rfl (fun K hK => ?_) AllReadyH.nil
              go_simp
              refine (l6Apart_any (m := m) (hv'.on hHeld.2) vw1 vw6 cb.1 cb.2 x1 x3).mono ?_; rintro e wy ⟨rfl, hb6⟩
              go_wp2_with fail
              refine hK.out _ _ ?_ (fun hHeld => ?_)
              · (try dsimp only)
                first | exact ⟨K.drew, G.drew⟩ | exact ⟨hHeld.1.on hb6, hHeld.2.trans (hb6.mono hHeld.2.size)⟩ | exact hHeld
              clear hK K
              try simp only [Act.put, List.setIfInBounds_toArray, List.set_cons_zero, List.set_cons_succ]
              refine rgTake (i := 16) (d := 47) (v := ?_) rfl rfl (by kernel_rfl) (by kernel_rfl) (by kernel_rfl) (fun _ _ _ h => h) (by rfl) ?_ (by assumption) ?_
              rotate_left
              · ((intro w hSw); (try dsimp only at hSw); go_simp; (try with_reducible rfl))
              try simp only [Act.put, List.setIfInBounds_toArray, List.set_cons_zero, List.set_cons_succ]
              refine wpAnyH_done (by kernel_rfl) ?_ _
              go_wp2_with fail
              go_roundw
              case rel => exact ⟨j + 1, by omega, by omega, by go_num, by rw [HN.out], hHeld.1, hHeld.2⟩
              case measure => simp [intOf]; omega
            · have HN : Hid (nbN m l x (j + 1 - 1) = bj) := by show _ = _; rw [Nat.add_sub_cancel, HS.out, EJ.out, EB.out, if_neg hg]
              have hgd : decide (gapV m.wd l[j].cell x < gapV m.wd l[bj].cell x) = false := by simpa using hg
              go_wp2_with fail
              refine wp_region_held_drew (S := fun w' => Blk w' w.heap.size 29 [.int .i64 m.wd, .int .i64 m.ht, .slice A n cp, .slice B k d] ∧ Below w.heap.size w w') (by kernel_rfl) ?_ (fun hHeld => ?_)
              · (try dsimp only)
                first | exact ⟨K.drew, G.drew⟩ | exact ⟨hHeld.1.on hb6, hHeld.2.trans (hb6.mono hHeld.2.size)⟩ | exact hHeld
              refine rgTake (i := 0) (d := 31) (v := ?_) rfl rfl (by kernel_rfl) (by kernel_rfl) (by kernel_rfl) (fun _ _ _ h => h) (by rfl) ?_ (by assumption) ?_
              rotate_left
              · ((intro w hSw); (try dsimp only at hSw); (obtain ⟨z0, z1, z2, z3⟩ := blk4 hSw.1; have y0 := ((bcell hSw.2).1 b (off + j * 2 + 1) hbb).trans CJ.out.2; have y1 := ((bcell hSw.2).1 b (off + bj * 2 + 1) hbb).trans CB.out.2); go_simp; (try with_reducible rfl))
              try simp only [Act.put, List.setIfInBounds_toArray, List.set_cons_zero, List.set_cons_succ]
              refine rgTake (i := 1) (d := 32) (v := ?_) rfl rfl (by kernel_rfl) (by kernel_rfl) (by kernel_rfl) (fun _ _ _ h => h) (by rfl) ?_ (by assumption) ?_
              rotate_left
              · ((intro w hSw); (try dsimp only at hSw); go_simp; (try with_reducible rfl))
              try simp only [Act.put, List.setIfInBounds_toArray, List.set_cons_zero, List.set_cons_succ]
              refine rgTake (i := 2) (d := 33) (v := ?_) rfl rfl (by kernel_rfl) (by kernel_rfl) (by kernel_rfl) (fun _ _ _ h => h) (by rfl) ?_ (by assumption) ?_
              rotate_left
              · ((intro w hSw); (try dsimp only at hSw); go_simp; (try with_reducible rfl))
              try simp only [Act.put, List.setIfInBounds_toArray, List.set_cons_zero, List.set_cons_succ]
              refine rgTake (i := 3) (d := 34) (v := ?_) rfl rfl (by kernel_rfl) (by kernel_rfl) (by kernel_rfl) (fun _ _ _ h => h) (by rfl) ?_ (by assumption) ?_
              rotate_left
              · ((intro w hSw); (try dsimp only at hSw); go_simp; (try with_reducible rfl))
              try simp only [Act.put, List.setIfInBounds_toArray, List.set_cons_zero, List.set_cons_succ]
              refine rgTake (i := 4) (d := 35) (v := ?_) rfl rfl (by kernel_rfl) (by kernel_rfl) (by kernel_rfl) (fun _ _ _ h => h) (by rfl) ?_ (by assumption) ?_
              rotate_left
              · ((intro w hSw); (try dsimp only at hSw); go_simp; (try with_reducible rfl))
              try simp only [Act.put, List.setIfInBounds_toArray, List.set_cons_zero, List.set_cons_succ]
              refine rgTake (i := 5) (d := 36) (v := ?_) rfl rfl (by kernel_rfl) (by kernel_rfl) (by kernel_rfl) (fun _ _ _ h => h) (by rfl) ?_ (by assumption) ?_
              rotate_left
              · ((intro w hSw); (try dsimp only at hSw); (obtain ⟨z0, z1, z2, z3⟩ := blk4 hSw.1; have y0 := ((bcell hSw.2).1 b (off + j * 2 + 1) hbb).trans CJ.out.2; have y1 := ((bcell hSw.2).1 b (off + bj * 2 + 1) hbb).trans CB.out.2); go_simp; (try with_reducible rfl))
              try simp only [Act.put, List.setIfInBounds_toArray, List.set_cons_zero, List.set_cons_succ]
              refine rgTake (i := 6) (d := 37) (v := ?_) rfl rfl (by kernel_rfl) (by kernel_rfl) (by kernel_rfl) (fun _ _ _ h => h) (by rfl) ?_ (by assumption) ?_
              rotate_left
              · ((intro w hSw); (try dsimp only at hSw); go_simp; (try with_reducible rfl))
              try simp only [Act.put, List.setIfInBounds_toArray, List.set_cons_zero, List.set_cons_succ]
              refine rgTake (i := 8) (d := 39) (v := ?_) rfl rfl (by kernel_rfl) (by kernel_rfl) (by kernel_rfl) (fun _ _ _ h => h) (by rfl) ?_ (by assumption) ?_
              rotate_left
              · ((intro w hSw); (try dsimp only at hSw); (obtain ⟨z0, z1, z2, z3⟩ := blk4 hSw.1; have y0 := ((bcell hSw.2).1 b (off + j * 2 + 1) hbb).trans CJ.out.2; have y1 := ((bcell hSw.2).1 b (off + bj * 2 + 1) hbb).trans CB.out.2); go_simp; (try with_reducible rfl))
              try simp only [Act.put, List.setIfInBounds_toArray, List.set_cons_zero, List.set_cons_succ]
              refine rgTake (i := 9) (d := 40) (v := ?_) rfl rfl (by kernel_rfl) (by kernel_rfl) (by kernel_rfl) (fun _ _ _ h => h) (by rfl) ?_ (by assumption) ?_
              rotate_left
              · ((intro w hSw); (try dsimp only at hSw); go_simp; (try with_reducible rfl))
              try simp only [Act.put, List.setIfInBounds_toArray, List.set_cons_zero, List.set_cons_succ]
              refine rgTake (i := 10) (d := 41) (v := ?_) rfl rfl (by kernel_rfl) (by kernel_rfl) (by kernel_rfl) (fun _ _ _ h => h) (by rfl) ?_ (by assumption) ?_
              rotate_left
              · ((intro w hSw); (try dsimp only at hSw); go_simp; (try with_reducible rfl))
              try simp only [Act.put, List.setIfInBounds_toArray, List.set_cons_zero, List.set_cons_succ]
              refine rgTake (i := 11) (d := 42) (v := ?_) rfl rfl (by kernel_rfl) (by kernel_rfl) (by kernel_rfl) (fun _ _ _ h => h) (by rfl) ?_ (by assumption) ?_
              rotate_left
              · ((intro w hSw); (try dsimp only at hSw); go_simp; (try with_reducible rfl))
              try simp only [Act.put, List.setIfInBounds_toArray, List.set_cons_zero, List.set_cons_succ]
              refine rgTake (i := 12) (d := 43) (v := ?_) rfl rfl (by kernel_rfl) (by kernel_rfl) (by kernel_rfl) (fun _ _ _ h => h) (by rfl) ?_ (by assumption) ?_
              rotate_left
              · ((intro w hSw); (try dsimp only at hSw); go_simp; (try with_reducible rfl))
              try simp only [Act.put, List.setIfInBounds_toArray, List.set_cons_zero, List.set_cons_succ]
              refine rgTake (i := 13) (d := 44) (v := ?_) rfl rfl (by kernel_rfl) (by kernel_rfl) (by kernel_rfl) (fun _ _ _ h => h) (by rfl) ?_ (by assumption) ?_
              rotate_left
              · ((intro w hSw); (try dsimp only at hSw); (obtain ⟨z0, z1, z2, z3⟩ := blk4 hSw.1; have y0 := ((bcell hSw.2).1 b (off + j * 2 + 1) hbb).trans CJ.out.2; have y1 := ((bcell hSw.2).1 b (off + bj * 2 + 1) hbb).trans CB.out.2); go_simp; (try with_reducible rfl))
              try simp only [Act.put, List.setIfInBounds_toArray, List.set_cons_zero, List.set_cons_succ]
              refine rgTake (i := 14) (d := 45) (v := ?_) rfl rfl (by kernel_rfl) (by kernel_rfl) (by kernel_rfl) (fun _ _ _ h => h) (by rfl) ?_ (by assumption) ?_
              rotate_left
              · ((intro w hSw); (try dsimp only at hSw); go_simp; (try with_reducible rfl))
              try simp only [Act.put, List.setIfInBounds_toArray, List.set_cons_zero, List.set_cons_succ]
              refine wpAnyH_ready (rs := [7]) (by kernel_rfl) (by simp) ?_
              refine AllReadyH.cons rfl (fun K hK => ?_) AllReadyH.nil
              go_simp
              refine (l6Apart_any (m := m) (hv'.on hHeld.2) vw1 vw6 cj.1 cj.2 x1 x3).mono ?_; rintro e wy ⟨rfl, hb6⟩
              go_wp2_with fail
              refine hK.out _ _ ?_ (fun hHeld => ?_)
              · (try dsimp only)
                first | exact ⟨K.drew, G.drew⟩ | exact ⟨hHeld.1.on hb6, hHeld.2.trans (hb6.mono hHeld.2.size)⟩ | exact hHeld
              clear hK K
              try simp only [Act.put, List.setIfInBounds_toArray, List.set_cons_zero, List.set_cons_succ]
              refine wpAnyH_ready (rs := [15]) (by kernel_rfl) (by simp) ?_
              refine AllReadyH.cons rfl (fun K hK => ?_) AllReadyH.nil
              go_simp
              refine (l6Apart_any (m := m) (hv'.on hHeld.2) vw1 vw6 cb.1 cb.2 x1 x3).mono ?_; rintro e wy ⟨rfl, hb6⟩
              go_wp2_with fail
              refine hK.out _ _ ?_ (fun hHeld => ?_)
              · (try dsimp only)
                first | exact ⟨K.drew, G.drew⟩ | exact ⟨hHeld.1.on hb6, hHeld.2.trans (hb6.mono hHeld.2.size)⟩ | exact hHeld
              clear hK K
              try simp only [Act.put, List.setIfInBounds_toArray, List.set_cons_zero, List.set_cons_succ]
              refine rgTake (i := 16) (d := 47) (v := ?_) rfl rfl (by kernel_rfl) (by kernel_rfl) (by kernel_rfl) (fun _ _ _ h => h) (by rfl) ?_ (by assumption) ?_
              rotate_left
              · ((intro w hSw); (try dsimp only at hSw); go_simp; (try with_reducible rfl))
              try simp only [Act.put, List.setIfInBounds_toArray, List.set_cons_zero, List.set_cons_succ]
              refine wpAnyH_done (by kernel_rfl) ?_ _
              go_wp2_with fail
              go_roundw
              case rel => exact ⟨j + 1, by omega, by omega, by go_num, by rw [HN.out], hHeld.1, hHeld.2⟩
              case measure => simp [intOf]; omega
          · have hjq : j = q := by omega
            have HJ := Lib.hid hjq
            clear hjq
            have kb : nbN m l x (j - 1) < l.length := by rw [HQ.out]; omega
            have CB := Lib.hid (HCA.out _ kb)
            have c1 := ((bcell G).1 b (off + nbN m l x (j - 1) * 2) hbb).trans CB.out.1
            have i1 : ((nbN m l x (j - 1) : Nat) : Int) < (q : Int) := by omega
            have EB := Lib.hid (ctC_get kb)
            go_wp2_with fail
            go_ret2
            exact ⟨by rw [← HJ.out, EB.out]; rfl, G⟩
end Go.Proofs.Ytcjggopdgkopiaa
