/- Contracts: ConfusableCodes and CloseControls, the program's and the reference's. -/
import Derived.Test.YtcjggopdgkopiaaPairsOf
import Derived.Test.YtcjggopdgkopiaaFree
import Derived.Test.YtcjggopdgkopiaaNearFn
namespace Go.Proofs.Ytcjggopdgkopiaa
set_option linter.unusedVariables false
set_option linter.unusedSimpArgs false
open Go.RowKit
theorem prRow_congr {l : List Ct} {f g : Ct → Ct → Bool} {i : Nat} : ∀ e, (∀ x, x < e → f (ctAt l i) (ctAt l (i + 1 + x)) = g (ctAt l i) (ctAt l (i + 1 + x))) → prRow l f i e = prRow l g i e := by
  intro e
  induction e with
  | zero => intro _; rfl
  | succ e ih => intro h; rw [prRow, prRow, ih (fun x hx => h x (by omega)), pr1, pr1, h e (by omega)]
theorem prAll_congr {l : List Ct} {f g : Ct → Ct → Bool} (h : ∀ i x, i < x → x < l.length → f (ctAt l i) (ctAt l x) = g (ctAt l i) (ctAt l x)) : ∀ n, n ≤ l.length → prAll l f n = prAll l g n := by
  intro n
  induction n with
  | zero => intro _; rfl
  | succ n ih => intro hn; rw [prAll, prAll, ih (by omega), prRow_congr _ (fun x hx => h n (n + 1 + x) (by omega) (by omega))]
def lkP (a b : Ct) : Bool := lkB a.code b.code
def cfP (a b : Ct) : Bool := cfB a.code b.code
def clP (m : Mp) (d : Int) (a b : Ct) : Bool := decide (gapV m.wd a.cell b.cell < d)
theorem cf_lkP {m : Mp} {l : List Ct} (h : ∀ i, i < l.length → ctOk m l i = true) : prAll l cfP l.length = prAll l lkP l.length := by
  refine prAll_congr (fun i x hi hx => ?_) _ (Nat.le_refl _)
  have hup := codes_up h x hx i hi
  have h1 := ctOk_code h l[i] (List.getElem_mem (by omega))
  have h2 := ctOk_code h l[x] (List.getElem_mem hx)
  rw [ctC_get (show i < l.length by omega), ctC_get hx] at hup
  rw [ctAt_get (show i < l.length by omega), ctAt_get hx]
  exact cf_lk (by omega) (by omega) (by omega) (by omega) (by omega)
def cfOk (m : Mp) (l : List Ct) : Bool := okCts m l
def cfR (m : Mp) (l : List Ct) : List Ct := if okCts m l = true then prAll l lkP l.length else []
def clOk (m : Mp) (l : List Ct) (x : Int) : Bool := okCts m l && decide (0 ≤ x)
def clR (m : Mp) (l : List Ct) (x : Int) : List Ct := if clOk m l x = true then prAll l (clP m x) l.length else []
theorem prAll_b {l : List Ct} {f : Ct → Ct → Bool} (h : l.length ≤ 10) : (prAll l f l.length).length ≤ 1000 := by
  have h1 := prAll_len l f l.length
  have h2 := Nat.mul_le_mul h h
  omega
theorem cfR_b (m : Mp) (l : List Ct) : (cfR m l).length ≤ 1000 := by
  unfold cfR
  split
  · next h => exact prAll_b (okCts_iff h).2.1
  · simp
theorem clR_b (m : Mp) (l : List Ct) (x : Int) : (clR m l x).length ≤ 1000 := by
  unfold clR
  split
  · next h => unfold clOk at h; rw [Bool.and_eq_true] at h; exact prAll_b (okCts_iff h.1).2.1
  · simp
set_option maxHeartbeats 1000000 in
theorem Confusable1 {l : List Ct} {w : World} (hl : ∀ c ∈ l, 31 ≤ c.code ∧ c.code ≤ 99) : FnChL Try.prog 64 #[] cfP l w := by
  intro a ha b hb W _
  obtain ⟨a1, a2⟩ := hl a ha
  obtain ⟨b1, b2⟩ := hl b hb
  go_enter Try.func64, Try.ntmps64
  go_wp2_with fail
  refine (confusable_any a.code b.code _ (by omega) (by omega) (by omega) (by omega)).mono ?_
  rintro e w1 ⟨rfl, hb1⟩
  go_wp2_with fail
  go_ret
  exact ⟨rfl, Below.trans (by repeat (first | exact Below.refl _ _ | refine below_drewN ?_ _ | refine Below.drew ?_ | refine Below.alloc ?_ (by first | omega | (simp; done) | (simp; omega)) _ | refine Below.setCell ?_ (by first | omega | (simp; done) | (simp; omega)) _)) (hb1.mono (by first | omega | (simp; done) | (simp; omega)))⟩
set_option maxRecDepth 100000 in
set_option maxHeartbeats 1000000 in
theorem Close1 {m : Mp} {l : List Ct} {x : Int} {A B : Option Addr} {n cp k d g g2 : Nat} {w : World} (V : Valid m) (hl : ∀ c ∈ l, 0 ≤ c.cell ∧ c.cell < 1000) (hv : MapIn w m (.agg #[.int .i64 m.wd, .int .i64 m.ht, .slice A n cp, .slice B k d]))
    (K : Blk w g 29 [.int .i64 m.wd, .int .i64 m.ht, .slice A n cp, .slice B k d]) (C : Blk w g2 3 [.int .i64 x]) :
    FnChL Try.prog 67 #[.pointer (some ⟨g, 0, none⟩), .pointer (some ⟨g2, 0, none⟩)] (clP m x) l w := by
  intro a ha b hb W hbe
  obtain ⟨a1, a2⟩ := hl a ha
  obtain ⟨b1, b2⟩ := hl b hb
  have K0 := K.on hbe
  have C0 := C.on hbe
  have hv0 := hv.on hbe
  have vw1 := V.w1
  have vw6 := V.w6
  have BA := Blk.new W 54 [.int .i64 a.code, .int .i64 a.cell]
  have KA := K0.lt
  have KC := C0.lt
  have hsz : (W.alloc (.cells #[.int .i64 a.code, .int .i64 a.cell] 54)).heap.size = W.heap.size + 1 := by simp
  have BB0 := Blk.new (W.alloc (.cells #[.int .i64 a.code, .int .i64 a.cell] 54)) 54 [.int .i64 b.code, .int .i64 b.cell]
  rw [hsz] at BB0
  have G0 : Below W.heap.size W ((W.alloc (.cells #[.int .i64 a.code, .int .i64 a.cell] 54)).alloc (.cells #[.int .i64 b.code, .int .i64 b.cell] 54)) := (by repeat (first | exact Below.refl _ _ | refine below_drewN ?_ _ | refine Below.drew ?_ | refine Below.alloc ?_ (by first | omega | (simp; done) | (simp; omega)) _ | refine Below.setCell ?_ (by first | omega | (simp; done) | (simp; omega)) _))
  go_enter Try.func67, Try.ntmps67
  go_wp2_with fail
  refine wp_region_held_drew (S := fun w' => Blk w' g 29 [.int .i64 m.wd, .int .i64 m.ht, .slice A n cp, .slice B k d] ∧ Blk w' g2 3 [.int .i64 x] ∧ Blk w' W.heap.size 54 [.int .i64 a.code, .int .i64 a.cell] ∧ Blk w' (W.heap.size + 1) 54 [.int .i64 b.code, .int .i64 b.cell] ∧ Below W.heap.size W w') (by kernel_rfl) ?_ (fun hHeld => ?_)
  · (try dsimp only)
    first | exact ⟨((K0.alloc _).alloc _).drew, ((C0.alloc _).alloc _).drew, (BA.alloc _).drew, BB0.drew, G0.drew⟩ | exact ⟨hHeld.1.on hb6, hHeld.2.1.on hb6, hHeld.2.2.1.on hb6, hHeld.2.2.2.1.on hb6, hHeld.2.2.2.2.trans (hb6.mono hHeld.2.2.2.2.size)⟩ | exact hHeld
  refine rgTake (i := 0) (d := 7) (v := ?_) rfl rfl (by kernel_rfl) (by kernel_rfl) (by kernel_rfl) (fun _ _ _ h => h) (by rfl) ?_ (by assumption) ?_
  rotate_left
  · ((intro w hSw); (try dsimp only at hSw); (obtain ⟨z0, z1, z2, z3⟩ := blk4 hSw.1; have y0 := hSw.2.1.cell 0; have y1 := hSw.2.2.1.cell 0; have y2 := hSw.2.2.1.cell 1; have y3 := hSw.2.2.2.1.cell 0; have y4 := hSw.2.2.2.1.cell 1; simp only [List.getElem?_cons_zero, List.getElem?_cons_succ] at y0 y1 y2 y3 y4); go_simp; (try with_reducible rfl))
  try simp only [Act.put, List.setIfInBounds_toArray, List.set_cons_zero, List.set_cons_succ]
  refine rgTake (i := 1) (d := 8) (v := ?_) rfl rfl (by kernel_rfl) (by kernel_rfl) (by kernel_rfl) (fun _ _ _ h => h) (by rfl) ?_ (by assumption) ?_
  rotate_left
  · ((intro w hSw); (try dsimp only at hSw); go_simp; (try with_reducible rfl))
  try simp only [Act.put, List.setIfInBounds_toArray, List.set_cons_zero, List.set_cons_succ]
  refine rgTake (i := 2) (d := 9) (v := ?_) rfl rfl (by kernel_rfl) (by kernel_rfl) (by kernel_rfl) (fun _ _ _ h => h) (by rfl) ?_ (by assumption) ?_
  rotate_left
  · ((intro w hSw); (try dsimp only at hSw); (obtain ⟨z0, z1, z2, z3⟩ := blk4 hSw.1; have y0 := hSw.2.1.cell 0; have y1 := hSw.2.2.1.cell 0; have y2 := hSw.2.2.1.cell 1; have y3 := hSw.2.2.2.1.cell 0; have y4 := hSw.2.2.2.1.cell 1; simp only [List.getElem?_cons_zero, List.getElem?_cons_succ] at y0 y1 y2 y3 y4); go_simp; (try with_reducible rfl))
  try simp only [Act.put, List.setIfInBounds_toArray, List.set_cons_zero, List.set_cons_succ]
  refine rgTake (i := 3) (d := 10) (v := ?_) rfl rfl (by kernel_rfl) (by kernel_rfl) (by kernel_rfl) (fun _ _ _ h => h) (by rfl) ?_ (by assumption) ?_
  rotate_left
  · ((intro w hSw); (try dsimp only at hSw); go_simp; (try with_reducible rfl))
  try simp only [Act.put, List.setIfInBounds_toArray, List.set_cons_zero, List.set_cons_succ]
  refine rgTake (i := 4) (d := 11) (v := ?_) rfl rfl (by kernel_rfl) (by kernel_rfl) (by kernel_rfl) (fun _ _ _ h => h) (by rfl) ?_ (by assumption) ?_
  rotate_left
  · ((intro w hSw); (try dsimp only at hSw); (obtain ⟨z0, z1, z2, z3⟩ := blk4 hSw.1; have y0 := hSw.2.1.cell 0; have y1 := hSw.2.2.1.cell 0; have y2 := hSw.2.2.1.cell 1; have y3 := hSw.2.2.2.1.cell 0; have y4 := hSw.2.2.2.1.cell 1; simp only [List.getElem?_cons_zero, List.getElem?_cons_succ] at y0 y1 y2 y3 y4); go_simp; (try with_reducible rfl))
  try simp only [Act.put, List.setIfInBounds_toArray, List.set_cons_zero, List.set_cons_succ]
  refine rgTake (i := 6) (d := 13) (v := ?_) rfl rfl (by kernel_rfl) (by kernel_rfl) (by kernel_rfl) (fun _ _ _ h => h) (by rfl) ?_ (by assumption) ?_
  rotate_left
  · ((intro w hSw); (try dsimp only at hSw); (obtain ⟨z0, z1, z2, z3⟩ := blk4 hSw.1; have y0 := hSw.2.1.cell 0; have y1 := hSw.2.2.1.cell 0; have y2 := hSw.2.2.1.cell 1; have y3 := hSw.2.2.2.1.cell 0; have y4 := hSw.2.2.2.1.cell 1; simp only [List.getElem?_cons_zero, List.getElem?_cons_succ] at y0 y1 y2 y3 y4); go_simp; (try with_reducible rfl))
  try simp only [Act.put, List.setIfInBounds_toArray, List.set_cons_zero, List.set_cons_succ]
  refine wpAnyH_ready (rs := [5]) (by kernel_rfl) (by simp) ?_
  refine AllReadyH.cons rfl (fun K hK => ?_) AllReadyH.nil
  go_simp
  refine (gapOf_any (m := m) (hv0.on hHeld.2.2.2.2) vw1 vw6 a1 a2 b1 b2).mono ?_; rintro e wy ⟨rfl, hb6⟩
  go_wp2_with fail
  refine hK.out _ _ ?_ (fun hHeld => ?_)
  · (try dsimp only)
    first | exact ⟨((K0.alloc _).alloc _).drew, ((C0.alloc _).alloc _).drew, (BA.alloc _).drew, BB0.drew, G0.drew⟩ | exact ⟨hHeld.1.on hb6, hHeld.2.1.on hb6, hHeld.2.2.1.on hb6, hHeld.2.2.2.1.on hb6, hHeld.2.2.2.2.trans (hb6.mono hHeld.2.2.2.2.size)⟩ | exact hHeld
  clear hK K
  try simp only [Act.put, List.setIfInBounds_toArray, List.set_cons_zero, List.set_cons_succ]
  refine rgTake (i := 7) (d := 14) (v := ?_) rfl rfl (by kernel_rfl) (by kernel_rfl) (by kernel_rfl) (fun _ _ _ h => h) (by rfl) ?_ (by assumption) ?_
  rotate_left
  · ((intro w hSw); (try dsimp only at hSw); go_simp; (try with_reducible rfl))
  try simp only [Act.put, List.setIfInBounds_toArray, List.set_cons_zero, List.set_cons_succ]
  refine rgTake (i := 8) (d := 6) (v := ?_) rfl rfl (by kernel_rfl) (by kernel_rfl) (by kernel_rfl) (fun _ _ _ h => h) (by rfl) ?_ (by assumption) ?_
  rotate_left
  · ((intro w hSw); (try dsimp only at hSw); go_simp; (try with_reducible rfl))
  try simp only [Act.put, List.setIfInBounds_toArray, List.set_cons_zero, List.set_cons_succ]
  refine wpAnyH_done (by kernel_rfl) ?_ _
  go_wp2_with fail
  go_ret
  exact ⟨rfl, hHeld.2.2.2.2⟩
set_option maxRecDepth 100000 in
set_option maxHeartbeats 2000000 in
theorem ConfusableCodes_impl {m : Mp} {v : Value} {R : Option Addr} {q cq : Nat} {l : List Ct} {w : World} (hv : MapIn w m v) (hR : Rd w w.heap.size 2 R q (cts l)) (hq : q ≤ 1048576) (hqc : q ≤ cq) :
    Calls Try.prog 28 #[v, .slice R q cq] w fun e w' => ∃ A cp, e = .returned (.tuple #[.slice A (cfR m l).length cp, .bool (cfOk m l)]) ∧ w'.ownsRow w.heap.size 70 2 (.slice A (cfR m l).length cp) (cfR m l).length (cts (cfR m l)) ∧ Below w.heap.size w w' := by
  have hv' := hv
  obtain ⟨A, n, cp, B, k, d, rfl, h1, h2, h3, h4⟩ := hv
  have K := Blk.new w 29 [.int .i64 m.wd, .int .i64 m.ht, .slice A n cp, .slice B k d]
  have G : Below w.heap.size w (w.alloc (.cells #[.int .i64 m.wd, .int .i64 m.ht, .slice A n cp, .slice B k d] 29)) := (by repeat (first | exact Below.refl _ _ | refine below_drewN ?_ _ | refine Below.drew ?_ | refine Below.alloc ?_ (by first | omega | (simp; done) | (simp; omega)) _ | refine Below.setCell ?_ (by first | omega | (simp; done) | (simp; omega)) _))
  have HQ := Lib.hid hR.clen
  cases hok : okCts m l
  · have e1 : cfOk m l = false := hok
    have e2 : cfR m l = [] := by unfold cfR; rw [hok]; rfl
    rw [e1, e2]; clear e1 e2
    have HOK := Lib.hid hok
    clear hok
    go_enter Try.func28, Try.ntmps28
    go_wp2_with fail
    refine (AreControls_any (m := m) (hv'.on G) (hR.on G) hq hqc).mono ?_
    rintro e w1 ⟨rfl, hb⟩
    replace K := K.on hb
    replace G := G.trans (hb.mono G.size)
    clear hb
    rw [HOK.out]
    obtain ⟨k0, k1, k2, k3⟩ := blk4 K
    go_wp2_with fail
    go_ret2
    exact ⟨none, 0, rfl, World.ownsRow_nil _ _ _ _, G⟩
  · have HOK := Lib.hid hok
    obtain ⟨V, h10, hall⟩ := okCts_iff hok
    have e1 : cfOk m l = true := hok
    have e2 : cfR m l = prAll l lkP l.length := by unfold cfR; rw [hok, if_pos rfl]
    rw [e1, e2]; clear e1 e2
    have HALL := Lib.hid hall
    have hq10 : q ≤ 10 := by have := HQ.out; omega
    clear hok hall
    go_enter Try.func28, Try.ntmps28
    go_wp2_with fail
    refine (AreControls_any (m := m) (hv'.on G) (hR.on G) hq hqc).mono ?_
    rintro e w1 ⟨rfl, hb⟩
    replace K := K.on hb
    replace G := G.trans (hb.mono G.size)
    clear hb
    rw [HOK.out]
    obtain ⟨k0, k1, k2, k3⟩ := blk4 K
    have e59 := enters_of (P := Try.prog) Try.func64 (by kernel_rfl) rfl
    go_wp2_with fail
    refine (pairsOf_any (g := 64) e59 (Confusable1 (ctOk_code HALL.out)) (hR.on G) hq10 hqc).mono ?_
    rintro e w9 ⟨A', c', rfl, O, hb⟩
    go_wp2_with fail
    go_ret2
    rw [cf_lkP HALL.out] at O
    exact ⟨A', c', by rw [cf_lkP HALL.out]; rfl, own_le O G.size, G.trans (hb.mono G.size)⟩
set_option maxRecDepth 100000 in
set_option maxHeartbeats 2000000 in
theorem CloseControls_impl {m : Mp} {v : Value} {R : Option Addr} {q cq : Nat} {l : List Ct} {x : Int} {w : World} (hv : MapIn w m v) (hR : Rd w w.heap.size 2 R q (cts l)) (hq : q ≤ 1048576) (hqc : q ≤ cq) :
    Calls Try.prog 35 #[v, .slice R q cq, .int .i64 x] w fun e w' => ∃ A cp, e = .returned (.tuple #[.slice A (clR m l x).length cp, .bool (clOk m l x)]) ∧ w'.ownsRow w.heap.size 70 2 (.slice A (clR m l x).length cp) (clR m l x).length (cts (clR m l x)) ∧ Below w.heap.size w w' := by
  have hv' := hv
  obtain ⟨A, n, cp, B, k, d, rfl, h1, h2, h3, h4⟩ := hv
  have K := Blk.new w 29 [.int .i64 m.wd, .int .i64 m.ht, .slice A n cp, .slice B k d]
  have G : Below w.heap.size w (w.alloc (.cells #[.int .i64 m.wd, .int .i64 m.ht, .slice A n cp, .slice B k d] 29)) := (by repeat (first | exact Below.refl _ _ | refine below_drewN ?_ _ | refine Below.drew ?_ | refine Below.alloc ?_ (by first | omega | (simp; done) | (simp; omega)) _ | refine Below.setCell ?_ (by first | omega | (simp; done) | (simp; omega)) _))
  have hsz : (w.alloc (.cells #[.int .i64 m.wd, .int .i64 m.ht, .slice A n cp, .slice B k d] 29)).heap.size = w.heap.size + 1 := by simp
  have C0 := Blk.new (w.alloc (.cells #[.int .i64 m.wd, .int .i64 m.ht, .slice A n cp, .slice B k d] 29)) 3 [.int .i64 x]
  rw [hsz] at C0
  clear hsz
  have C : Blk ((w.alloc (.cells #[.int .i64 m.wd, .int .i64 m.ht, .slice A n cp, .slice B k d] 29)).alloc (.cells #[.int .i64 x] 3)) (w.heap.size + 1) 3 [.int .i64 x] := C0
  clear C0
  replace K := K.alloc (.cells #[.int .i64 x] 3)
  replace G := G.alloc G.size (.cells #[.int .i64 x] 3)
  have HQ := Lib.hid hR.clen
  cases hok : okCts m l
  · have e1 : clOk m l x = false := by unfold clOk; rw [hok]; rfl
    have e2 : clR m l x = [] := by unfold clR; rw [e1]; rfl
    rw [e1, e2]; clear e1 e2
    have HOK := Lib.hid hok
    clear hok
    go_enter Try.func35, Try.ntmps35
    go_wp2_with fail
    refine (AreControls_any (m := m) (hv'.on G) (hR.on G) hq hqc).mono ?_
    rintro e w1 ⟨rfl, hb⟩
    replace K := K.on hb
    replace G := G.trans (hb.mono G.size)
    replace C := C.on hb
    clear hb
    rw [HOK.out]
    obtain ⟨k0, k1, k2, k3⟩ := blk4 K
    have cc : w1.cell? ⟨w.heap.size + 1, 0, none⟩ = some (.int .i64 x) := C.cell 0
    go_wp2_with fail
    go_ret2
    exact ⟨none, 0, rfl, World.ownsRow_nil _ _ _ _, G⟩
  · by_cases h0 : 0 ≤ x
    · have HOK := Lib.hid hok
      obtain ⟨V, h10, hall⟩ := okCts_iff hok
      have e1 : clOk m l x = true := by unfold clOk; rw [hok]; simp; exact h0
      have e2 : clR m l x = prAll l (clP m x) l.length := by unfold clR; rw [e1, if_pos rfl]
      rw [e1, e2]; clear e1 e2
      have HALL := Lib.hid hall
      have hq10 : q ≤ 10 := by have := HQ.out; omega
      have h9 : decide (x < 0) = false := by simp; exact h0
      have h8 : ¬ x < 0 := by omega
      clear hok hall
      go_enter Try.func35, Try.ntmps35
      go_wp2_with fail
      refine (AreControls_any (m := m) (hv'.on G) (hR.on G) hq hqc).mono ?_
      rintro e w1 ⟨rfl, hb⟩
      replace K := K.on hb
      replace G := G.trans (hb.mono G.size)
      replace C := C.on hb
      clear hb
      rw [HOK.out]
      obtain ⟨k0, k1, k2, k3⟩ := blk4 K
      have cc : w1.cell? ⟨w.heap.size + 1, 0, none⟩ = some (.int .i64 x) := C.cell 0
      have e59 := enters_of (P := Try.prog) Try.func67 (by kernel_rfl) rfl
      go_wp2_with fail
      refine (pairsOf_any (g := 67) e59 (Close1 V (ctOk_bd V HALL.out) (hv'.on G) K C) (hR.on G) hq10 hqc).mono ?_
      rintro e w9 ⟨A', c', rfl, O, hb⟩
      go_wp2_with fail
      go_ret2
      exact ⟨A', c', rfl, own_le O G.size, G.trans (hb.mono G.size)⟩
    · have HOK := Lib.hid hok
      have e1 : clOk m l x = false := by unfold clOk; rw [show decide (0 ≤ x) = false by simpa using h0]; simp
      have e2 : clR m l x = [] := by unfold clR; rw [e1]; rfl
      rw [e1, e2]; clear e1 e2
      have h9 : decide (x < 0) = true := by simp; omega
      have h8 : x < 0 := by omega
      clear hok
      go_enter Try.func35, Try.ntmps35
      go_wp2_with fail
      refine (AreControls_any (m := m) (hv'.on G) (hR.on G) hq hqc).mono ?_
      rintro e w1 ⟨rfl, hb⟩
      replace K := K.on hb
      replace G := G.trans (hb.mono G.size)
      replace C := C.on hb
      clear hb
      rw [HOK.out]
      obtain ⟨k0, k1, k2, k3⟩ := blk4 K
      have cc : w1.cell? ⟨w.heap.size + 1, 0, none⟩ = some (.int .i64 x) := C.cell 0
      go_wp2_with fail
      go_ret2
      exact ⟨none, 0, rfl, World.ownsRow_nil _ _ _ _, G⟩
set_option maxRecDepth 100000 in
set_option maxHeartbeats 2000000 in
theorem ConfusableCodes_spec {m : Mp} {v : Value} {R : Option Addr} {q cq : Nat} {l : List Ct} {w : World} (hv : MapIn w m v) (hR : Rd w w.heap.size 2 R q (cts l)) (hq : q ≤ 1048576) (hqc : q ≤ cq) :
    Calls Try.prog 27 #[v, .slice R q cq] w fun e w' => ∃ A cp, e = .returned (.tuple #[.slice A (cfR m l).length cp, .bool (cfOk m l)]) ∧ w'.ownsRow w.heap.size 70 2 (.slice A (cfR m l).length cp) (cfR m l).length (cts (cfR m l)) ∧ Below w.heap.size w w' := by
  have hv' := hv
  obtain ⟨A, n, cp, B, k, d, rfl, h1, h2, h3, h4⟩ := hv
  have K := Blk.new w 29 [.int .i64 m.wd, .int .i64 m.ht, .slice A n cp, .slice B k d]
  have G : Below w.heap.size w (w.alloc (.cells #[.int .i64 m.wd, .int .i64 m.ht, .slice A n cp, .slice B k d] 29)) := (by repeat (first | exact Below.refl _ _ | refine below_drewN ?_ _ | refine Below.drew ?_ | refine Below.alloc ?_ (by first | omega | (simp; done) | (simp; omega)) _ | refine Below.setCell ?_ (by first | omega | (simp; done) | (simp; omega)) _))
  have OW0 := World.ownsRow_lit (base := w.heap.size + 1) (size := 2) (e := 70) (w.alloc (.cells #[.int .i64 m.wd, .int .i64 m.ht, .slice A n cp, .slice B k d] 29)) #[] 0 (by simp) (by simp) rfl
  have OW : ((w.alloc (.cells #[.int .i64 m.wd, .int .i64 m.ht, .slice A n cp, .slice B k d] 29)).alloc (.cells #[] 70)).ownsRow (w.heap.size + 1) 70 2 (.slice (some ⟨w.heap.size + 1, 0, none⟩) 0 0) ([] : List Ct).length (cts []) := by simpa [cts] using OW0
  clear OW0
  replace K := K.alloc (.cells #[] 70)
  replace G := G.alloc G.size (.cells #[] 70)
  have HQ := Lib.hid hR.clen
  obtain ⟨i0, hi0, hz0, hz1, hz2⟩ := info_parts pair_info
  cases hok : okCts m l
  · have e1 : cfOk m l = false := hok
    have e2 : cfR m l = [] := by unfold cfR; rw [hok]; rfl
    rw [e1, e2]; clear e1 e2
    have HOK := Lib.hid hok
    clear hok
    go_enter Try.func27, Try.ntmps27
    go_wp2_with fail
    refine (l6Good_any (m := m) (hv'.on G) (hR.on G) hq hqc).mono ?_
    rintro e w1 ⟨rfl, hb⟩
    rw [HOK.out]
    have OW9 := own_below OW hb
    clear OW
    replace K := K.on hb
    replace G := G.trans (hb.mono G.size)
    clear hb
    obtain ⟨k0, k1, k2, k3⟩ := blk4 K
    go_wp2_with fail
    go_ret2
    exact ⟨_, 0, rfl, own_le (base' := w.heap.size) OW9 (Nat.le_succ _), G⟩
  · have HOK := Lib.hid hok
    obtain ⟨V, h10, hall⟩ := okCts_iff hok
    have e1 : cfOk m l = true := hok
    have e2 : cfR m l = prAll l lkP l.length := by unfold cfR; rw [hok, if_pos rfl]
    rw [e1, e2]; clear e1 e2
    have HALL := Lib.hid hall
    have hq10 : q ≤ 10 := by have := HQ.out; omega
    have HBD := Lib.hid (ctOk_code hall)
    clear hok hall
    go_enter Try.func27, Try.ntmps27
    go_wp2_with fail
    refine (l6Good_any (m := m) (hv'.on G) (hR.on G) hq hqc).mono ?_
    rintro e w1 ⟨rfl, hb⟩
    rw [HOK.out]
    have OW9 := own_below OW hb
    clear OW
    replace K := K.on hb
    replace G := G.trans (hb.mono G.size)
    clear hb
    obtain ⟨k0, k1, k2, k3⟩ := blk4 K
    go_wp2_with fail
    clear k0 k1 k2 k3
    go_loopw [6, 7] (fun o i wr => ∃ j : Nat, j ≤ q ∧ i = .int .i64 j ∧ wr.ownsRow (w.heap.size + 1) 70 2 o (prSo l lkP j 0).length (cts (prSo l lkP j 0)) ∧ Blk wr w.heap.size 29 [.int .i64 m.wd, .int .i64 m.ht, .slice A n cp, .slice B k d] ∧ Below w.heap.size w wr) (fun _ i _ => q - (intOf i).toNat)
    case atStart => exact ⟨0, Nat.zero_le _, rfl, OW9, K, G⟩
    clear OW9 K G
    case round =>
      obtain ⟨j, hj, rfl, hown, K, G⟩ := hrel
      by_cases hlt : j < q
      · obtain ⟨b, off, rfl, hbb, hca⟩ := hR.ct (show 0 < q by omega)
        have HCA := Lib.hid hca
        have kx : j < l.length := by rw [HQ.out]; exact hlt
        have CJ := Lib.hid (hca j kx)
        have p1 : IntKind.i64.wrap ((j : Int) + 1) = (j : Int) + 1 := IntWalk.i64_in _ (by omega)
        clear hca
        go_wp2_with fail
        go_loopw [6, 8] (fun o i wx => ∃ e : Nat, e ≤ q - (j + 1) ∧ i = .int .i64 ((j : Int) + 1 + e) ∧ wx.ownsRow (w.heap.size + 1) 70 2 o (prSo l lkP j e).length (cts (prSo l lkP j e)) ∧ Blk wx w.heap.size 29 [.int .i64 m.wd, .int .i64 m.ht, .slice A n cp, .slice B k d] ∧ Below w.heap.size w wx) (fun _ i _ => q - (intOf i).toNat)
        case atStart => exact ⟨0, Nat.zero_le _, by simp, hown, K, G⟩
        clear hown K G
        case round =>
          obtain ⟨e, he, rfl, hown, K, G⟩ := hrel
          by_cases hle : e < q - (j + 1)
          · have kx2 : j + 1 + e < l.length := by rw [HQ.out]; omega
            have CE9 := Lib.hid (HCA.out (j + 1 + e) kx2)
            have ie : (j : Int) + 1 + e < (q : Int) := by omega
            have in0 : (0 : Int) ≤ (j : Int) + 1 + e := by omega
            have in1 : ((j : Int) + 1 + e).toNat = j + 1 + e := by omega
            have in2 : IntKind.i64.wrap ((j : Int) + 1 + e + 1) = (j : Int) + 1 + e + 1 := IntWalk.i64_in _ (by omega)
            have HA := Lib.hid (ctAt_get kx)
            have HB := Lib.hid (ctAt_get kx2)
            have ko2 : (prSo l lkP j e).length ≤ 110 := prSo_len l lkP (by have := HQ.out; omega) (by omega) (by omega)
            have bj := HBD.out l[j] (List.getElem_mem kx)
            have be := HBD.out l[j + 1 + e] (List.getElem_mem kx2)
            generalize hle2 : l[j + 1 + e] = le at *
            clear hle2
            cases hch : lkP l[j] le
            · have HS : Hid (prSo l lkP j (e + 1) = prSo l lkP j e) := by show _ = _; rw [prSo_succ, pr1, HA.out, HB.out, hch]; simp
              have hcd : lkB l[j].code le.code = false := hch
              have HCD := Lib.hid hcd
              clear hch
              go_wp2_with fail
              refine wp_region_held_drew (S := fun w' => Blk w' w.heap.size 29 [.int .i64 m.wd, .int .i64 m.ht, .slice A n cp, .slice B k d] ∧ Below wr.heap.size wr w') (by kernel_rfl) ?_ (fun hHeld => ?_)
              · (try dsimp only)
                first | exact ⟨K.drew, (Below.refl _ _).drew⟩ | exact ⟨hHeld.1.on hb6, hHeld.2.trans (hb6.mono hHeld.2.size)⟩ | exact hHeld
              refine rgTake (i := 0) (d := 29) (v := ?_) rfl rfl (by kernel_rfl) (by kernel_rfl) (by kernel_rfl) (fun _ _ _ h => h) (by rfl) ?_ (by assumption) ?_
              rotate_left
              · ((intro w hSw); (try dsimp only at hSw); go_simp; (try with_reducible rfl))
              try simp only [Act.put, List.setIfInBounds_toArray, List.set_cons_zero, List.set_cons_succ]
              refine rgTake (i := 1) (d := 30) (v := ?_) rfl rfl (by kernel_rfl) (by kernel_rfl) (by kernel_rfl) (fun _ _ _ h => h) (by rfl) ?_ (by assumption) ?_
              rotate_left
              · ((intro w hSw); (try dsimp only at hSw); go_simp; (try with_reducible rfl))
              try simp only [Act.put, List.setIfInBounds_toArray, List.set_cons_zero, List.set_cons_succ]
              refine rgTake (i := 2) (d := 31) (v := ?_) rfl rfl (by kernel_rfl) (by kernel_rfl) (by kernel_rfl) (fun _ _ _ h => h) (by rfl) ?_ (by assumption) ?_
              rotate_left
              · ((intro w hSw); (try dsimp only at hSw); go_simp; (try with_reducible rfl))
              try simp only [Act.put, List.setIfInBounds_toArray, List.set_cons_zero, List.set_cons_succ]
              refine rgTake (i := 3) (d := 32) (v := ?_) rfl rfl (by kernel_rfl) (by kernel_rfl) (by kernel_rfl) (fun _ _ _ h => h) (by rfl) ?_ (by assumption) ?_
              rotate_left
              · ((intro w hSw); (try dsimp only at hSw); go_simp; (try with_reducible rfl))
              try simp only [Act.put, List.setIfInBounds_toArray, List.set_cons_zero, List.set_cons_succ]
              refine rgTake (i := 4) (d := 33) (v := ?_) rfl rfl (by kernel_rfl) (by kernel_rfl) (by kernel_rfl) (fun _ _ _ h => h) (by rfl) ?_ (by assumption) ?_
              rotate_left
              · ((intro w hSw); (try dsimp only at hSw); (obtain ⟨z0, z1, z2, z3⟩ := blk4 hSw.1; have y0 := ((bcell (G.trans (hSw.2.mono G.size))).1 b (off + j * 2) hbb).trans CJ.out.1; have y1 := ((bcell (G.trans (hSw.2.mono G.size))).1 b (off + j * 2 + 1) hbb).trans CJ.out.2; have y2 := ((bcell (G.trans (hSw.2.mono G.size))).1 b (off + (j + 1 + e) * 2) hbb).trans CE9.out.1; have y3 := ((bcell (G.trans (hSw.2.mono G.size))).1 b (off + (j + 1 + e) * 2 + 1) hbb).trans CE9.out.2); go_simp; (try with_reducible rfl))
              try simp only [Act.put, List.setIfInBounds_toArray, List.set_cons_zero, List.set_cons_succ]
              refine rgTake (i := 5) (d := 34) (v := ?_) rfl rfl (by kernel_rfl) (by kernel_rfl) (by kernel_rfl) (fun _ _ _ h => h) (by rfl) ?_ (by assumption) ?_
              rotate_left
              · ((intro w hSw); (try dsimp only at hSw); go_simp; (try with_reducible rfl))
              try simp only [Act.put, List.setIfInBounds_toArray, List.set_cons_zero, List.set_cons_succ]
              refine rgTake (i := 6) (d := 35) (v := ?_) rfl rfl (by kernel_rfl) (by kernel_rfl) (by kernel_rfl) (fun _ _ _ h => h) (by rfl) ?_ (by assumption) ?_
              rotate_left
              · ((intro w hSw); (try dsimp only at hSw); go_simp; (try with_reducible rfl))
              try simp only [Act.put, List.setIfInBounds_toArray, List.set_cons_zero, List.set_cons_succ]
              refine rgTake (i := 7) (d := 36) (v := ?_) rfl rfl (by kernel_rfl) (by kernel_rfl) (by kernel_rfl) (fun _ _ _ h => h) (by rfl) ?_ (by assumption) ?_
              rotate_left
              · ((intro w hSw); (try dsimp only at hSw); go_simp; (try with_reducible rfl))
              try simp only [Act.put, List.setIfInBounds_toArray, List.set_cons_zero, List.set_cons_succ]
              refine rgTake (i := 8) (d := 37) (v := ?_) rfl rfl (by kernel_rfl) (by kernel_rfl) (by kernel_rfl) (fun _ _ _ h => h) (by rfl) ?_ (by assumption) ?_
              rotate_left
              · ((intro w hSw); (try dsimp only at hSw); go_simp; (try with_reducible rfl))
              try simp only [Act.put, List.setIfInBounds_toArray, List.set_cons_zero, List.set_cons_succ]
              refine rgTake (i := 9) (d := 38) (v := ?_) rfl rfl (by kernel_rfl) (by kernel_rfl) (by kernel_rfl) (fun _ _ _ h => h) (by rfl) ?_ (by assumption) ?_
              rotate_left
              · ((intro w hSw); (try dsimp only at hSw); (obtain ⟨z0, z1, z2, z3⟩ := blk4 hSw.1; have y0 := ((bcell (G.trans (hSw.2.mono G.size))).1 b (off + j * 2) hbb).trans CJ.out.1; have y1 := ((bcell (G.trans (hSw.2.mono G.size))).1 b (off + j * 2 + 1) hbb).trans CJ.out.2; have y2 := ((bcell (G.trans (hSw.2.mono G.size))).1 b (off + (j + 1 + e) * 2) hbb).trans CE9.out.1; have y3 := ((bcell (G.trans (hSw.2.mono G.size))).1 b (off + (j + 1 + e) * 2 + 1) hbb).trans CE9.out.2); go_simp; (try with_reducible rfl))
              try simp only [Act.put, List.setIfInBounds_toArray, List.set_cons_zero, List.set_cons_succ]
              refine wpAnyH_ready (rs := [10]) (by kernel_rfl) (by simp) ?_
              refine AllReadyH.cons rfl (fun K hK => ?_) AllReadyH.nil
              go_simp
              refine (l6Like_any _ _ _ (by omega) (by omega) (by omega) (by omega)).mono ?_; rintro e wy ⟨rfl, hb6⟩; rw [HCD.out]
              go_wp2_with fail
              refine hK.out _ _ ?_ (fun hHeld => ?_)
              · (try dsimp only)
                first | exact ⟨K.drew, (Below.refl _ _).drew⟩ | exact ⟨hHeld.1.on hb6, hHeld.2.trans (hb6.mono hHeld.2.size)⟩ | exact hHeld
              clear hK K
              try simp only [Act.put, List.setIfInBounds_toArray, List.set_cons_zero, List.set_cons_succ]
              refine wpAnyH_done (by kernel_rfl) ?_ _
              replace K := hHeld.1
              replace G := G.trans (hHeld.2.mono G.size)
              replace hown := own_below hown hHeld.2
              clear hHeld
              go_wp2_with fail
              go_roundw
              case rel => exact ⟨e + 1, by omega, by first | go_num | (congr 1; omega), by rw [HS.out]; exact hown, K, G⟩
              case measure => simp [intOf]; omega
            · have HS : Hid (prSo l lkP j (e + 1) = prSo l lkP j e ++ [⟨l[j].code, le.code⟩]) := by show _ = _; rw [prSo_succ, pr1, HA.out, HB.out, hch]; simp
              have hcd : lkB l[j].code le.code = true := hch
              have HCD := Lib.hid hcd
              clear hch
              go_wp2_with fail
              refine wp_region_held_drew (S := fun w' => Blk w' w.heap.size 29 [.int .i64 m.wd, .int .i64 m.ht, .slice A n cp, .slice B k d] ∧ Below wr.heap.size wr w') (by kernel_rfl) ?_ (fun hHeld => ?_)
              · (try dsimp only)
                first | exact ⟨K.drew, (Below.refl _ _).drew⟩ | exact ⟨hHeld.1.on hb6, hHeld.2.trans (hb6.mono hHeld.2.size)⟩ | exact hHeld
              refine rgTake (i := 0) (d := 29) (v := ?_) rfl rfl (by kernel_rfl) (by kernel_rfl) (by kernel_rfl) (fun _ _ _ h => h) (by rfl) ?_ (by assumption) ?_
              rotate_left
              · ((intro w hSw); (try dsimp only at hSw); go_simp; (try with_reducible rfl))
              try simp only [Act.put, List.setIfInBounds_toArray, List.set_cons_zero, List.set_cons_succ]
              refine rgTake (i := 1) (d := 30) (v := ?_) rfl rfl (by kernel_rfl) (by kernel_rfl) (by kernel_rfl) (fun _ _ _ h => h) (by rfl) ?_ (by assumption) ?_
              rotate_left
              · ((intro w hSw); (try dsimp only at hSw); go_simp; (try with_reducible rfl))
              try simp only [Act.put, List.setIfInBounds_toArray, List.set_cons_zero, List.set_cons_succ]
              refine rgTake (i := 2) (d := 31) (v := ?_) rfl rfl (by kernel_rfl) (by kernel_rfl) (by kernel_rfl) (fun _ _ _ h => h) (by rfl) ?_ (by assumption) ?_
              rotate_left
              · ((intro w hSw); (try dsimp only at hSw); go_simp; (try with_reducible rfl))
              try simp only [Act.put, List.setIfInBounds_toArray, List.set_cons_zero, List.set_cons_succ]
              refine rgTake (i := 3) (d := 32) (v := ?_) rfl rfl (by kernel_rfl) (by kernel_rfl) (by kernel_rfl) (fun _ _ _ h => h) (by rfl) ?_ (by assumption) ?_
              rotate_left
              · ((intro w hSw); (try dsimp only at hSw); go_simp; (try with_reducible rfl))
              try simp only [Act.put, List.setIfInBounds_toArray, List.set_cons_zero, List.set_cons_succ]
              refine rgTake (i := 4) (d := 33) (v := ?_) rfl rfl (by kernel_rfl) (by kernel_rfl) (by kernel_rfl) (fun _ _ _ h => h) (by rfl) ?_ (by assumption) ?_
              rotate_left
              · ((intro w hSw); (try dsimp only at hSw); (obtain ⟨z0, z1, z2, z3⟩ := blk4 hSw.1; have y0 := ((bcell (G.trans (hSw.2.mono G.size))).1 b (off + j * 2) hbb).trans CJ.out.1; have y1 := ((bcell (G.trans (hSw.2.mono G.size))).1 b (off + j * 2 + 1) hbb).trans CJ.out.2; have y2 := ((bcell (G.trans (hSw.2.mono G.size))).1 b (off + (j + 1 + e) * 2) hbb).trans CE9.out.1; have y3 := ((bcell (G.trans (hSw.2.mono G.size))).1 b (off + (j + 1 + e) * 2 + 1) hbb).trans CE9.out.2); go_simp; (try with_reducible rfl))
              try simp only [Act.put, List.setIfInBounds_toArray, List.set_cons_zero, List.set_cons_succ]
              refine rgTake (i := 5) (d := 34) (v := ?_) rfl rfl (by kernel_rfl) (by kernel_rfl) (by kernel_rfl) (fun _ _ _ h => h) (by rfl) ?_ (by assumption) ?_
              rotate_left
              · ((intro w hSw); (try dsimp only at hSw); go_simp; (try with_reducible rfl))
              try simp only [Act.put, List.setIfInBounds_toArray, List.set_cons_zero, List.set_cons_succ]
              refine rgTake (i := 6) (d := 35) (v := ?_) rfl rfl (by kernel_rfl) (by kernel_rfl) (by kernel_rfl) (fun _ _ _ h => h) (by rfl) ?_ (by assumption) ?_
              rotate_left
              · ((intro w hSw); (try dsimp only at hSw); go_simp; (try with_reducible rfl))
              try simp only [Act.put, List.setIfInBounds_toArray, List.set_cons_zero, List.set_cons_succ]
              refine rgTake (i := 7) (d := 36) (v := ?_) rfl rfl (by kernel_rfl) (by kernel_rfl) (by kernel_rfl) (fun _ _ _ h => h) (by rfl) ?_ (by assumption) ?_
              rotate_left
              · ((intro w hSw); (try dsimp only at hSw); go_simp; (try with_reducible rfl))
              try simp only [Act.put, List.setIfInBounds_toArray, List.set_cons_zero, List.set_cons_succ]
              refine rgTake (i := 8) (d := 37) (v := ?_) rfl rfl (by kernel_rfl) (by kernel_rfl) (by kernel_rfl) (fun _ _ _ h => h) (by rfl) ?_ (by assumption) ?_
              rotate_left
              · ((intro w hSw); (try dsimp only at hSw); go_simp; (try with_reducible rfl))
              try simp only [Act.put, List.setIfInBounds_toArray, List.set_cons_zero, List.set_cons_succ]
              refine rgTake (i := 9) (d := 38) (v := ?_) rfl rfl (by kernel_rfl) (by kernel_rfl) (by kernel_rfl) (fun _ _ _ h => h) (by rfl) ?_ (by assumption) ?_
              rotate_left
              · ((intro w hSw); (try dsimp only at hSw); (obtain ⟨z0, z1, z2, z3⟩ := blk4 hSw.1; have y0 := ((bcell (G.trans (hSw.2.mono G.size))).1 b (off + j * 2) hbb).trans CJ.out.1; have y1 := ((bcell (G.trans (hSw.2.mono G.size))).1 b (off + j * 2 + 1) hbb).trans CJ.out.2; have y2 := ((bcell (G.trans (hSw.2.mono G.size))).1 b (off + (j + 1 + e) * 2) hbb).trans CE9.out.1; have y3 := ((bcell (G.trans (hSw.2.mono G.size))).1 b (off + (j + 1 + e) * 2 + 1) hbb).trans CE9.out.2); go_simp; (try with_reducible rfl))
              try simp only [Act.put, List.setIfInBounds_toArray, List.set_cons_zero, List.set_cons_succ]
              refine wpAnyH_ready (rs := [10]) (by kernel_rfl) (by simp) ?_
              refine AllReadyH.cons rfl (fun K hK => ?_) AllReadyH.nil
              go_simp
              refine (l6Like_any _ _ _ (by omega) (by omega) (by omega) (by omega)).mono ?_; rintro e wy ⟨rfl, hb6⟩; rw [HCD.out]
              go_wp2_with fail
              refine hK.out _ _ ?_ (fun hHeld => ?_)
              · (try dsimp only)
                first | exact ⟨K.drew, (Below.refl _ _).drew⟩ | exact ⟨hHeld.1.on hb6, hHeld.2.trans (hb6.mono hHeld.2.size)⟩ | exact hHeld
              clear hK K
              try simp only [Act.put, List.setIfInBounds_toArray, List.set_cons_zero, List.set_cons_succ]
              refine wpAnyH_done (by kernel_rfl) ?_ _
              replace K := hHeld.1
              replace G := G.trans (hHeld.2.mono G.size)
              replace hown := own_below hown hHeld.2
              clear hHeld
              go_wp2_with fail
              refine wp_region_held_drew (S := fun w' => Blk w' w.heap.size 29 [.int .i64 m.wd, .int .i64 m.ht, .slice A n cp, .slice B k d] ∧ Below w.heap.size w w') (by kernel_rfl) ?_ (fun hHeld => ?_)
              · (try dsimp only)
                first | exact ⟨K.drew, G.drew⟩ | exact hHeld
              refine rgTake (i := 0) (d := 40) (v := ?_) rfl rfl (by kernel_rfl) (by kernel_rfl) (by kernel_rfl) (fun _ _ _ h => h) (by rfl) ?_ (by assumption) ?_
              rotate_left
              · ((intro w hSw); (try dsimp only at hSw); go_simp; (try with_reducible rfl))
              try simp only [Act.put, List.setIfInBounds_toArray, List.set_cons_zero, List.set_cons_succ]
              refine rgTake (i := 1) (d := 41) (v := ?_) rfl rfl (by kernel_rfl) (by kernel_rfl) (by kernel_rfl) (fun _ _ _ h => h) (by rfl) ?_ (by assumption) ?_
              rotate_left
              · ((intro w hSw); (try dsimp only at hSw); go_simp; (try with_reducible rfl))
              try simp only [Act.put, List.setIfInBounds_toArray, List.set_cons_zero, List.set_cons_succ]
              refine rgTake (i := 2) (d := 42) (v := ?_) rfl rfl (by kernel_rfl) (by kernel_rfl) (by kernel_rfl) (fun _ _ _ h => h) (by rfl) ?_ (by assumption) ?_
              rotate_left
              · ((intro w hSw); (try dsimp only at hSw); go_simp; (try with_reducible rfl))
              try simp only [Act.put, List.setIfInBounds_toArray, List.set_cons_zero, List.set_cons_succ]
              refine rgTake (i := 3) (d := 43) (v := ?_) rfl rfl (by kernel_rfl) (by kernel_rfl) (by kernel_rfl) (fun _ _ _ h => h) (by rfl) ?_ (by assumption) ?_
              rotate_left
              · ((intro w hSw); (try dsimp only at hSw); go_simp; (try with_reducible rfl))
              try simp only [Act.put, List.setIfInBounds_toArray, List.set_cons_zero, List.set_cons_succ]
              refine rgTake (i := 4) (d := 44) (v := ?_) rfl rfl (by kernel_rfl) (by kernel_rfl) (by kernel_rfl) (fun _ _ _ h => h) (by rfl) ?_ (by assumption) ?_
              rotate_left
              · ((intro w hSw); (try dsimp only at hSw); go_simp; (try with_reducible rfl))
              try simp only [Act.put, List.setIfInBounds_toArray, List.set_cons_zero, List.set_cons_succ]
              refine rgTake (i := 5) (d := 45) (v := ?_) rfl rfl (by kernel_rfl) (by kernel_rfl) (by kernel_rfl) (fun _ _ _ h => h) (by rfl) ?_ (by assumption) ?_
              rotate_left
              · ((intro w hSw); (try dsimp only at hSw); (have y0 := ((bcell hSw.2).1 b (off + j * 2) hbb).trans CJ.out.1; have y1 := ((bcell hSw.2).1 b (off + j * 2 + 1) hbb).trans CJ.out.2; have y2 := ((bcell hSw.2).1 b (off + (j + 1 + e) * 2) hbb).trans CE9.out.1; have y3 := ((bcell hSw.2).1 b (off + (j + 1 + e) * 2 + 1) hbb).trans CE9.out.2); go_simp; (try with_reducible rfl))
              try simp only [Act.put, List.setIfInBounds_toArray, List.set_cons_zero, List.set_cons_succ]
              refine rgTake (i := 6) (d := 46) (v := ?_) rfl rfl (by kernel_rfl) (by kernel_rfl) (by kernel_rfl) (fun _ _ _ h => h) (by rfl) ?_ (by assumption) ?_
              rotate_left
              · ((intro w hSw); (try dsimp only at hSw); go_simp; (try with_reducible rfl))
              try simp only [Act.put, List.setIfInBounds_toArray, List.set_cons_zero, List.set_cons_succ]
              refine rgTake (i := 7) (d := 47) (v := ?_) rfl rfl (by kernel_rfl) (by kernel_rfl) (by kernel_rfl) (fun _ _ _ h => h) (by rfl) ?_ (by assumption) ?_
              rotate_left
              · ((intro w hSw); (try dsimp only at hSw); go_simp; (try with_reducible rfl))
              try simp only [Act.put, List.setIfInBounds_toArray, List.set_cons_zero, List.set_cons_succ]
              refine rgTake (i := 8) (d := 48) (v := ?_) rfl rfl (by kernel_rfl) (by kernel_rfl) (by kernel_rfl) (fun _ _ _ h => h) (by rfl) ?_ (by assumption) ?_
              rotate_left
              · ((intro w hSw); (try dsimp only at hSw); go_simp; (try with_reducible rfl))
              try simp only [Act.put, List.setIfInBounds_toArray, List.set_cons_zero, List.set_cons_succ]
              refine rgTake (i := 9) (d := 49) (v := ?_) rfl rfl (by kernel_rfl) (by kernel_rfl) (by kernel_rfl) (fun _ _ _ h => h) (by rfl) ?_ (by assumption) ?_
              rotate_left
              · ((intro w hSw); (try dsimp only at hSw); go_simp; (try with_reducible rfl))
              try simp only [Act.put, List.setIfInBounds_toArray, List.set_cons_zero, List.set_cons_succ]
              refine rgTake (i := 10) (d := 50) (v := ?_) rfl rfl (by kernel_rfl) (by kernel_rfl) (by kernel_rfl) (fun _ _ _ h => h) (by rfl) ?_ (by assumption) ?_
              rotate_left
              · ((intro w hSw); (try dsimp only at hSw); (have y0 := ((bcell hSw.2).1 b (off + j * 2) hbb).trans CJ.out.1; have y1 := ((bcell hSw.2).1 b (off + j * 2 + 1) hbb).trans CJ.out.2; have y2 := ((bcell hSw.2).1 b (off + (j + 1 + e) * 2) hbb).trans CE9.out.1; have y3 := ((bcell hSw.2).1 b (off + (j + 1 + e) * 2 + 1) hbb).trans CE9.out.2); go_simp; (try with_reducible rfl))
              try simp only [Act.put, List.setIfInBounds_toArray, List.set_cons_zero, List.set_cons_succ]
              refine rgTake (i := 11) (d := 51) (v := ?_) rfl rfl (by kernel_rfl) (by kernel_rfl) (by kernel_rfl) (fun _ _ _ h => h) (by rfl) ?_ (by assumption) ?_
              rotate_left
              · ((intro w hSw); (try dsimp only at hSw); go_simp; (try with_reducible rfl))
              try simp only [Act.put, List.setIfInBounds_toArray, List.set_cons_zero, List.set_cons_succ]
              refine wpAnyH_ready (rs := [12]) (by kernel_rfl) (by simp) ?_
              refine AllReadyH.cons rfl (fun K hK => ?_) AllReadyH.nil
              go_simp
              refine hK.out _ _ ?_ (fun hHeld => ?_)
              · (try dsimp only)
                exact ⟨hHeld.1.alloc _, hHeld.2.alloc hHeld.2.size _⟩
              clear hK K
              try simp only [Act.put, List.setIfInBounds_toArray, List.set_cons_zero, List.set_cons_succ]
              refine wpAnyH_ready (rs := [13]) (by kernel_rfl) (by simp) ?_
              refine AllReadyH.cons rfl (fun K hK => ?_) AllReadyH.nil
              refine step_append_lies _ rfl _ _ 40 rfl (w.heap.size + 1) 70 i0 (.agg #[.int .i64 0, .int .i64 0]) 2 16 Try.underlying40 hi0 hz0 hz1 hz2 rfl (by decide) _ _ _ rfl (own_below hown (Below.alloc (Below.refl _ _).drew (Nat.le_refl _) _)) _ 1 1 [.int .i64 l[j].code, .int .i64 le.code] rfl rfl (cells_two _ _ _ _) (by intro u hu; simp at hu; rcases hu with rfl | rfl <;> rfl) (by decide) (by simp only [maxLen]; omega) (by omega) (by have := hHeld.1.lt; have := hHeld.2.size; omega) _ rfl ?_; intro g9 cp9 w9 own1 grow1 hat hlt9; have bel1 := hHeld.2.grown grow1 hHeld.2.size (fun k hk => by have := (hown.lt k hk).1; omega); have K9 := hHeld.1.grown grow1 (fun h => by have := (hown.lt _ h.symm).1; omega)
              refine hK.out _ _ ?_ (fun hHeld => ?_)
              · (try dsimp only)
                exact ⟨K9, bel1⟩
              clear hK K
              try simp only [Act.put, List.setIfInBounds_toArray, List.set_cons_zero, List.set_cons_succ]
              refine rgTake (i := 14) (d := 6) (v := ?_) rfl rfl (by kernel_rfl) (by kernel_rfl) (by kernel_rfl) (fun _ _ _ h => h) (by rfl) ?_ (by assumption) ?_
              rotate_left
              · ((intro w hSw); (try dsimp only at hSw); go_simp; (try with_reducible rfl))
              try simp only [Act.put, List.setIfInBounds_toArray, List.set_cons_zero, List.set_cons_succ]
              refine wpAnyH_done (by kernel_rfl) ?_ _
              clear K G hown
              have K := hHeld.1
              have G := hHeld.2
              clear hHeld
              rw [cts_snoc] at own1
              go_wp2_with fail
              go_roundw
              case rel => exact ⟨e + 1, by omega, by first | go_num | (congr 1; omega), by rw [HS.out, List.length_append]; exact own1, K, G⟩
              case measure => simp [intOf]; omega
          · have hee : e = q - (j + 1) := by omega
            have HL0 : Hid (prSo l lkP j e = prSo l lkP (j + 1) 0) := by
              show _ = _
              rw [prSo_row (by rw [HQ.out]; exact hee), prSo_zero]
            have ie : ¬ (j : Int) + 1 + e < (q : Int) := by omega
            have ie2 : decide ((j : Int) + 1 + e < (q : Int)) = false := by simp; omega
            clear hee
            go_wp2_with fail
            go_roundw
            case rel => exact ⟨j + 1, by omega, by go_num, by rw [← HL0.out]; exact hown, K, G⟩
            case measure => simp [intOf]; omega
      · have hjq : j = q := by omega
        have HJ := Lib.hid hjq
        clear hjq
        obtain ⟨A', c', rfl⟩ := own_form hown
        go_wp2_with fail
        go_ret2
        rw [HQ.out, ← HJ.out, ← prSo_zero]
        exact ⟨A', c', rfl, own_le hown (by omega), G⟩
set_option maxRecDepth 100000 in
set_option maxHeartbeats 2000000 in
theorem CloseControls_spec {m : Mp} {v : Value} {R : Option Addr} {q cq : Nat} {l : List Ct} {x : Int} {w : World} (hv : MapIn w m v) (hR : Rd w w.heap.size 2 R q (cts l)) (hq : q ≤ 1048576) (hqc : q ≤ cq) :
    Calls Try.prog 34 #[v, .slice R q cq, .int .i64 x] w fun e w' => ∃ A cp, e = .returned (.tuple #[.slice A (clR m l x).length cp, .bool (clOk m l x)]) ∧ w'.ownsRow w.heap.size 70 2 (.slice A (clR m l x).length cp) (clR m l x).length (cts (clR m l x)) ∧ Below w.heap.size w w' := by
  have hv' := hv
  obtain ⟨A, n, cp, B, k, d, rfl, h1, h2, h3, h4⟩ := hv
  have K := Blk.new w 29 [.int .i64 m.wd, .int .i64 m.ht, .slice A n cp, .slice B k d]
  have G : Below w.heap.size w (w.alloc (.cells #[.int .i64 m.wd, .int .i64 m.ht, .slice A n cp, .slice B k d] 29)) := (by repeat (first | exact Below.refl _ _ | refine below_drewN ?_ _ | refine Below.drew ?_ | refine Below.alloc ?_ (by first | omega | (simp; done) | (simp; omega)) _ | refine Below.setCell ?_ (by first | omega | (simp; done) | (simp; omega)) _))
  have OW0 := World.ownsRow_lit (base := w.heap.size + 1) (size := 2) (e := 70) (w.alloc (.cells #[.int .i64 m.wd, .int .i64 m.ht, .slice A n cp, .slice B k d] 29)) #[] 0 (by simp) (by simp) rfl
  have OW : ((w.alloc (.cells #[.int .i64 m.wd, .int .i64 m.ht, .slice A n cp, .slice B k d] 29)).alloc (.cells #[] 70)).ownsRow (w.heap.size + 1) 70 2 (.slice (some ⟨w.heap.size + 1, 0, none⟩) 0 0) ([] : List Ct).length (cts []) := by simpa [cts] using OW0
  clear OW0
  replace K := K.alloc (.cells #[] 70)
  replace G := G.alloc G.size (.cells #[] 70)
  have HQ := Lib.hid hR.clen
  obtain ⟨i0, hi0, hz0, hz1, hz2⟩ := info_parts pair_info
  cases hok : okCts m l
  · have e1 : clOk m l x = false := by unfold clOk; rw [hok]; rfl
    have e2 : clR m l x = [] := by unfold clR; rw [e1]; rfl
    rw [e1, e2]; clear e1 e2
    have HOK := Lib.hid hok
    clear hok
    go_enter Try.func34, Try.ntmps34
    go_wp2_with fail
    refine (l6Good_any (m := m) (hv'.on G) (hR.on G) hq hqc).mono ?_
    rintro e w1 ⟨rfl, hb⟩
    rw [HOK.out]
    have OW9 := own_below OW hb
    clear OW
    replace K := K.on hb
    replace G := G.trans (hb.mono G.size)
    clear hb
    obtain ⟨k0, k1, k2, k3⟩ := blk4 K
    go_wp2_with fail
    go_ret2
    exact ⟨_, 0, rfl, own_le (base' := w.heap.size) OW9 (Nat.le_succ _), G⟩
  · by_cases h0 : 0 ≤ x
    · have HOK := Lib.hid hok
      obtain ⟨V, h10, hall⟩ := okCts_iff hok
      have e1 : clOk m l x = true := by unfold clOk; rw [hok]; simp; exact h0
      have e2 : clR m l x = prAll l (clP m x) l.length := by unfold clR; rw [e1, if_pos rfl]
      rw [e1, e2]; clear e1 e2
      have HALL := Lib.hid hall
      have hq10 : q ≤ 10 := by have := HQ.out; omega
      have h9 : decide (x < 0) = false := by simp; exact h0
      have h8 : ¬ x < 0 := by omega
      have vw1 := V.w1
      have vw6 := V.w6
      have HBD := Lib.hid (ctOk_bd V hall)
      clear hok hall
      go_enter Try.func34, Try.ntmps34
      go_wp2_with fail
      refine (l6Good_any (m := m) (hv'.on G) (hR.on G) hq hqc).mono ?_
      rintro e w1 ⟨rfl, hb⟩
      rw [HOK.out]
      have OW9 := own_below OW hb
      clear OW
      replace K := K.on hb
      replace G := G.trans (hb.mono G.size)
      clear hb
      obtain ⟨k0, k1, k2, k3⟩ := blk4 K
      go_wp2_with fail
      clear k0 k1 k2 k3
      go_loopw [8, 9] (fun o i wr => ∃ j : Nat, j ≤ q ∧ i = .int .i64 j ∧ wr.ownsRow (w.heap.size + 1) 70 2 o (prSo l (clP m x) j 0).length (cts (prSo l (clP m x) j 0)) ∧ Blk wr w.heap.size 29 [.int .i64 m.wd, .int .i64 m.ht, .slice A n cp, .slice B k d] ∧ Below w.heap.size w wr) (fun _ i _ => q - (intOf i).toNat)
      case atStart => exact ⟨0, Nat.zero_le _, rfl, OW9, K, G⟩
      clear OW9 K G
      case round =>
        obtain ⟨j, hj, rfl, hown, K, G⟩ := hrel
        by_cases hlt : j < q
        · obtain ⟨b, off, rfl, hbb, hca⟩ := hR.ct (show 0 < q by omega)
          have HCA := Lib.hid hca
          have kx : j < l.length := by rw [HQ.out]; exact hlt
          have CJ := Lib.hid (hca j kx)
          have p1 : IntKind.i64.wrap ((j : Int) + 1) = (j : Int) + 1 := IntWalk.i64_in _ (by omega)
          clear hca
          go_wp2_with fail
          go_loopw [8, 10] (fun o i wx => ∃ e : Nat, e ≤ q - (j + 1) ∧ i = .int .i64 ((j : Int) + 1 + e) ∧ wx.ownsRow (w.heap.size + 1) 70 2 o (prSo l (clP m x) j e).length (cts (prSo l (clP m x) j e)) ∧ Blk wx w.heap.size 29 [.int .i64 m.wd, .int .i64 m.ht, .slice A n cp, .slice B k d] ∧ Below w.heap.size w wx) (fun _ i _ => q - (intOf i).toNat)
          case atStart => exact ⟨0, Nat.zero_le _, by simp, hown, K, G⟩
          clear hown K G
          case round =>
            obtain ⟨e, he, rfl, hown, K, G⟩ := hrel
            by_cases hle : e < q - (j + 1)
            · have kx2 : j + 1 + e < l.length := by rw [HQ.out]; omega
              have CE9 := Lib.hid (HCA.out (j + 1 + e) kx2)
              have ie : (j : Int) + 1 + e < (q : Int) := by omega
              have in0 : (0 : Int) ≤ (j : Int) + 1 + e := by omega
              have in1 : ((j : Int) + 1 + e).toNat = j + 1 + e := by omega
              have in2 : IntKind.i64.wrap ((j : Int) + 1 + e + 1) = (j : Int) + 1 + e + 1 := IntWalk.i64_in _ (by omega)
              have HA := Lib.hid (ctAt_get kx)
              have HB := Lib.hid (ctAt_get kx2)
              have ko2 : (prSo l (clP m x) j e).length ≤ 110 := prSo_len l (clP m x) (by have := HQ.out; omega) (by omega) (by omega)
              have bj := HBD.out l[j] (List.getElem_mem kx)
              have be := HBD.out l[j + 1 + e] (List.getElem_mem kx2)
              generalize hle2 : l[j + 1 + e] = le at *
              clear hle2
              cases hch : (clP m x) l[j] le
              · have HS : Hid (prSo l (clP m x) j (e + 1) = prSo l (clP m x) j e) := by show _ = _; rw [prSo_succ, pr1, HA.out, HB.out, hch]; simp
                have hcd : decide (gapV m.wd l[j].cell le.cell < x) = false := hch
                have hcd2 : ¬ gapV m.wd l[j].cell le.cell < x := of_decide_eq_false hcd
                have HCD := Lib.hid hcd
                clear hch
                go_wp2_with fail
                refine wp_region_held_drew (S := fun w' => Blk w' w.heap.size 29 [.int .i64 m.wd, .int .i64 m.ht, .slice A n cp, .slice B k d] ∧ Below wr.heap.size wr w') (by kernel_rfl) ?_ (fun hHeld => ?_)
                · (try dsimp only)
                  first | exact ⟨K.drew, (Below.refl _ _).drew⟩ | exact ⟨hHeld.1.on hb6, hHeld.2.trans (hb6.mono hHeld.2.size)⟩ | exact hHeld
                refine rgTake (i := 0) (d := 35) (v := ?_) rfl rfl (by kernel_rfl) (by kernel_rfl) (by kernel_rfl) (fun _ _ _ h => h) (by rfl) ?_ (by assumption) ?_
                rotate_left
                · ((intro w hSw); (try dsimp only at hSw); (obtain ⟨z0, z1, z2, z3⟩ := blk4 hSw.1; have y0 := ((bcell (G.trans (hSw.2.mono G.size))).1 b (off + j * 2) hbb).trans CJ.out.1; have y1 := ((bcell (G.trans (hSw.2.mono G.size))).1 b (off + j * 2 + 1) hbb).trans CJ.out.2; have y2 := ((bcell (G.trans (hSw.2.mono G.size))).1 b (off + (j + 1 + e) * 2) hbb).trans CE9.out.1; have y3 := ((bcell (G.trans (hSw.2.mono G.size))).1 b (off + (j + 1 + e) * 2 + 1) hbb).trans CE9.out.2); go_simp; (try with_reducible rfl))
                try simp only [Act.put, List.setIfInBounds_toArray, List.set_cons_zero, List.set_cons_succ]
                refine rgTake (i := 1) (d := 36) (v := ?_) rfl rfl (by kernel_rfl) (by kernel_rfl) (by kernel_rfl) (fun _ _ _ h => h) (by rfl) ?_ (by assumption) ?_
                rotate_left
                · ((intro w hSw); (try dsimp only at hSw); go_simp; (try with_reducible rfl))
                try simp only [Act.put, List.setIfInBounds_toArray, List.set_cons_zero, List.set_cons_succ]
                refine rgTake (i := 2) (d := 37) (v := ?_) rfl rfl (by kernel_rfl) (by kernel_rfl) (by kernel_rfl) (fun _ _ _ h => h) (by rfl) ?_ (by assumption) ?_
                rotate_left
                · ((intro w hSw); (try dsimp only at hSw); go_simp; (try with_reducible rfl))
                try simp only [Act.put, List.setIfInBounds_toArray, List.set_cons_zero, List.set_cons_succ]
                refine rgTake (i := 3) (d := 38) (v := ?_) rfl rfl (by kernel_rfl) (by kernel_rfl) (by kernel_rfl) (fun _ _ _ h => h) (by rfl) ?_ (by assumption) ?_
                rotate_left
                · ((intro w hSw); (try dsimp only at hSw); go_simp; (try with_reducible rfl))
                try simp only [Act.put, List.setIfInBounds_toArray, List.set_cons_zero, List.set_cons_succ]
                refine rgTake (i := 4) (d := 39) (v := ?_) rfl rfl (by kernel_rfl) (by kernel_rfl) (by kernel_rfl) (fun _ _ _ h => h) (by rfl) ?_ (by assumption) ?_
                rotate_left
                · ((intro w hSw); (try dsimp only at hSw); go_simp; (try with_reducible rfl))
                try simp only [Act.put, List.setIfInBounds_toArray, List.set_cons_zero, List.set_cons_succ]
                refine rgTake (i := 5) (d := 40) (v := ?_) rfl rfl (by kernel_rfl) (by kernel_rfl) (by kernel_rfl) (fun _ _ _ h => h) (by rfl) ?_ (by assumption) ?_
                rotate_left
                · ((intro w hSw); (try dsimp only at hSw); (obtain ⟨z0, z1, z2, z3⟩ := blk4 hSw.1; have y0 := ((bcell (G.trans (hSw.2.mono G.size))).1 b (off + j * 2) hbb).trans CJ.out.1; have y1 := ((bcell (G.trans (hSw.2.mono G.size))).1 b (off + j * 2 + 1) hbb).trans CJ.out.2; have y2 := ((bcell (G.trans (hSw.2.mono G.size))).1 b (off + (j + 1 + e) * 2) hbb).trans CE9.out.1; have y3 := ((bcell (G.trans (hSw.2.mono G.size))).1 b (off + (j + 1 + e) * 2 + 1) hbb).trans CE9.out.2); go_simp; (try with_reducible rfl))
                try simp only [Act.put, List.setIfInBounds_toArray, List.set_cons_zero, List.set_cons_succ]
                refine rgTake (i := 6) (d := 41) (v := ?_) rfl rfl (by kernel_rfl) (by kernel_rfl) (by kernel_rfl) (fun _ _ _ h => h) (by rfl) ?_ (by assumption) ?_
                rotate_left
                · ((intro w hSw); (try dsimp only at hSw); go_simp; (try with_reducible rfl))
                try simp only [Act.put, List.setIfInBounds_toArray, List.set_cons_zero, List.set_cons_succ]
                refine rgTake (i := 7) (d := 42) (v := ?_) rfl rfl (by kernel_rfl) (by kernel_rfl) (by kernel_rfl) (fun _ _ _ h => h) (by rfl) ?_ (by assumption) ?_
                rotate_left
                · ((intro w hSw); (try dsimp only at hSw); go_simp; (try with_reducible rfl))
                try simp only [Act.put, List.setIfInBounds_toArray, List.set_cons_zero, List.set_cons_succ]
                refine rgTake (i := 8) (d := 43) (v := ?_) rfl rfl (by kernel_rfl) (by kernel_rfl) (by kernel_rfl) (fun _ _ _ h => h) (by rfl) ?_ (by assumption) ?_
                rotate_left
                · ((intro w hSw); (try dsimp only at hSw); go_simp; (try with_reducible rfl))
                try simp only [Act.put, List.setIfInBounds_toArray, List.set_cons_zero, List.set_cons_succ]
                refine rgTake (i := 9) (d := 44) (v := ?_) rfl rfl (by kernel_rfl) (by kernel_rfl) (by kernel_rfl) (fun _ _ _ h => h) (by rfl) ?_ (by assumption) ?_
                rotate_left
                · ((intro w hSw); (try dsimp only at hSw); go_simp; (try with_reducible rfl))
                try simp only [Act.put, List.setIfInBounds_toArray, List.set_cons_zero, List.set_cons_succ]
                refine rgTake (i := 10) (d := 45) (v := ?_) rfl rfl (by kernel_rfl) (by kernel_rfl) (by kernel_rfl) (fun _ _ _ h => h) (by rfl) ?_ (by assumption) ?_
                rotate_left
                · ((intro w hSw); (try dsimp only at hSw); (obtain ⟨z0, z1, z2, z3⟩ := blk4 hSw.1; have y0 := ((bcell (G.trans (hSw.2.mono G.size))).1 b (off + j * 2) hbb).trans CJ.out.1; have y1 := ((bcell (G.trans (hSw.2.mono G.size))).1 b (off + j * 2 + 1) hbb).trans CJ.out.2; have y2 := ((bcell (G.trans (hSw.2.mono G.size))).1 b (off + (j + 1 + e) * 2) hbb).trans CE9.out.1; have y3 := ((bcell (G.trans (hSw.2.mono G.size))).1 b (off + (j + 1 + e) * 2 + 1) hbb).trans CE9.out.2); go_simp; (try with_reducible rfl))
                try simp only [Act.put, List.setIfInBounds_toArray, List.set_cons_zero, List.set_cons_succ]
                refine rgTake (i := 12) (d := 47) (v := ?_) rfl rfl (by kernel_rfl) (by kernel_rfl) (by kernel_rfl) (fun _ _ _ h => h) (by rfl) ?_ (by assumption) ?_
                rotate_left
                · ((intro w hSw); (try dsimp only at hSw); go_simp; (try with_reducible rfl))
                try simp only [Act.put, List.setIfInBounds_toArray, List.set_cons_zero, List.set_cons_succ]
                refine wpAnyH_ready (rs := [11]) (by kernel_rfl) (by simp) ?_
                refine AllReadyH.cons rfl (fun K hK => ?_) AllReadyH.nil
                go_simp
                refine (l6Apart_any (m := m) (hv'.on (G.trans (hHeld.2.mono G.size))) vw1 vw6 bj.1 bj.2 be.1 be.2).mono ?_; rintro e wy ⟨rfl, hb6⟩
                go_wp2_with fail
                refine hK.out _ _ ?_ (fun hHeld => ?_)
                · (try dsimp only)
                  first | exact ⟨K.drew, (Below.refl _ _).drew⟩ | exact ⟨hHeld.1.on hb6, hHeld.2.trans (hb6.mono hHeld.2.size)⟩ | exact hHeld
                clear hK K
                try simp only [Act.put, List.setIfInBounds_toArray, List.set_cons_zero, List.set_cons_succ]
                refine rgTake (i := 13) (d := 48) (v := ?_) rfl rfl (by kernel_rfl) (by kernel_rfl) (by kernel_rfl) (fun _ _ _ h => h) (by rfl) ?_ (by assumption) ?_
                rotate_left
                · ((intro w hSw); (try dsimp only at hSw); go_simp; (try with_reducible rfl))
                try simp only [Act.put, List.setIfInBounds_toArray, List.set_cons_zero, List.set_cons_succ]
                refine wpAnyH_done (by kernel_rfl) ?_ _
                replace K := hHeld.1
                replace G := G.trans (hHeld.2.mono G.size)
                replace hown := own_below hown hHeld.2
                clear hHeld
                go_wp2_with fail
                go_roundw
                case rel => exact ⟨e + 1, by omega, by first | go_num | (congr 1; omega), by rw [HS.out]; exact hown, K, G⟩
                case measure => simp [intOf]; omega
              · have HS : Hid (prSo l (clP m x) j (e + 1) = prSo l (clP m x) j e ++ [⟨l[j].code, le.code⟩]) := by show _ = _; rw [prSo_succ, pr1, HA.out, HB.out, hch]; simp
                have hcd : decide (gapV m.wd l[j].cell le.cell < x) = true := hch
                have hcd2 : gapV m.wd l[j].cell le.cell < x := of_decide_eq_true hcd
                have HCD := Lib.hid hcd
                clear hch
                go_wp2_with fail
                refine wp_region_held_drew (S := fun w' => Blk w' w.heap.size 29 [.int .i64 m.wd, .int .i64 m.ht, .slice A n cp, .slice B k d] ∧ Below wr.heap.size wr w') (by kernel_rfl) ?_ (fun hHeld => ?_)
                · (try dsimp only)
                  first | exact ⟨K.drew, (Below.refl _ _).drew⟩ | exact ⟨hHeld.1.on hb6, hHeld.2.trans (hb6.mono hHeld.2.size)⟩ | exact hHeld
                refine rgTake (i := 0) (d := 35) (v := ?_) rfl rfl (by kernel_rfl) (by kernel_rfl) (by kernel_rfl) (fun _ _ _ h => h) (by rfl) ?_ (by assumption) ?_
                rotate_left
                · ((intro w hSw); (try dsimp only at hSw); (obtain ⟨z0, z1, z2, z3⟩ := blk4 hSw.1; have y0 := ((bcell (G.trans (hSw.2.mono G.size))).1 b (off + j * 2) hbb).trans CJ.out.1; have y1 := ((bcell (G.trans (hSw.2.mono G.size))).1 b (off + j * 2 + 1) hbb).trans CJ.out.2; have y2 := ((bcell (G.trans (hSw.2.mono G.size))).1 b (off + (j + 1 + e) * 2) hbb).trans CE9.out.1; have y3 := ((bcell (G.trans (hSw.2.mono G.size))).1 b (off + (j + 1 + e) * 2 + 1) hbb).trans CE9.out.2); go_simp; (try with_reducible rfl))
                try simp only [Act.put, List.setIfInBounds_toArray, List.set_cons_zero, List.set_cons_succ]
                refine rgTake (i := 1) (d := 36) (v := ?_) rfl rfl (by kernel_rfl) (by kernel_rfl) (by kernel_rfl) (fun _ _ _ h => h) (by rfl) ?_ (by assumption) ?_
                rotate_left
                · ((intro w hSw); (try dsimp only at hSw); go_simp; (try with_reducible rfl))
                try simp only [Act.put, List.setIfInBounds_toArray, List.set_cons_zero, List.set_cons_succ]
                refine rgTake (i := 2) (d := 37) (v := ?_) rfl rfl (by kernel_rfl) (by kernel_rfl) (by kernel_rfl) (fun _ _ _ h => h) (by rfl) ?_ (by assumption) ?_
                rotate_left
                · ((intro w hSw); (try dsimp only at hSw); go_simp; (try with_reducible rfl))
                try simp only [Act.put, List.setIfInBounds_toArray, List.set_cons_zero, List.set_cons_succ]
                refine rgTake (i := 3) (d := 38) (v := ?_) rfl rfl (by kernel_rfl) (by kernel_rfl) (by kernel_rfl) (fun _ _ _ h => h) (by rfl) ?_ (by assumption) ?_
                rotate_left
                · ((intro w hSw); (try dsimp only at hSw); go_simp; (try with_reducible rfl))
                try simp only [Act.put, List.setIfInBounds_toArray, List.set_cons_zero, List.set_cons_succ]
                refine rgTake (i := 4) (d := 39) (v := ?_) rfl rfl (by kernel_rfl) (by kernel_rfl) (by kernel_rfl) (fun _ _ _ h => h) (by rfl) ?_ (by assumption) ?_
                rotate_left
                · ((intro w hSw); (try dsimp only at hSw); go_simp; (try with_reducible rfl))
                try simp only [Act.put, List.setIfInBounds_toArray, List.set_cons_zero, List.set_cons_succ]
                refine rgTake (i := 5) (d := 40) (v := ?_) rfl rfl (by kernel_rfl) (by kernel_rfl) (by kernel_rfl) (fun _ _ _ h => h) (by rfl) ?_ (by assumption) ?_
                rotate_left
                · ((intro w hSw); (try dsimp only at hSw); (obtain ⟨z0, z1, z2, z3⟩ := blk4 hSw.1; have y0 := ((bcell (G.trans (hSw.2.mono G.size))).1 b (off + j * 2) hbb).trans CJ.out.1; have y1 := ((bcell (G.trans (hSw.2.mono G.size))).1 b (off + j * 2 + 1) hbb).trans CJ.out.2; have y2 := ((bcell (G.trans (hSw.2.mono G.size))).1 b (off + (j + 1 + e) * 2) hbb).trans CE9.out.1; have y3 := ((bcell (G.trans (hSw.2.mono G.size))).1 b (off + (j + 1 + e) * 2 + 1) hbb).trans CE9.out.2); go_simp; (try with_reducible rfl))
                try simp only [Act.put, List.setIfInBounds_toArray, List.set_cons_zero, List.set_cons_succ]
                refine rgTake (i := 6) (d := 41) (v := ?_) rfl rfl (by kernel_rfl) (by kernel_rfl) (by kernel_rfl) (fun _ _ _ h => h) (by rfl) ?_ (by assumption) ?_
                rotate_left
                · ((intro w hSw); (try dsimp only at hSw); go_simp; (try with_reducible rfl))
                try simp only [Act.put, List.setIfInBounds_toArray, List.set_cons_zero, List.set_cons_succ]
                refine rgTake (i := 7) (d := 42) (v := ?_) rfl rfl (by kernel_rfl) (by kernel_rfl) (by kernel_rfl) (fun _ _ _ h => h) (by rfl) ?_ (by assumption) ?_
                rotate_left
                · ((intro w hSw); (try dsimp only at hSw); go_simp; (try with_reducible rfl))
                try simp only [Act.put, List.setIfInBounds_toArray, List.set_cons_zero, List.set_cons_succ]
                refine rgTake (i := 8) (d := 43) (v := ?_) rfl rfl (by kernel_rfl) (by kernel_rfl) (by kernel_rfl) (fun _ _ _ h => h) (by rfl) ?_ (by assumption) ?_
                rotate_left
                · ((intro w hSw); (try dsimp only at hSw); go_simp; (try with_reducible rfl))
                try simp only [Act.put, List.setIfInBounds_toArray, List.set_cons_zero, List.set_cons_succ]
                refine rgTake (i := 9) (d := 44) (v := ?_) rfl rfl (by kernel_rfl) (by kernel_rfl) (by kernel_rfl) (fun _ _ _ h => h) (by rfl) ?_ (by assumption) ?_
                rotate_left
                · ((intro w hSw); (try dsimp only at hSw); go_simp; (try with_reducible rfl))
                try simp only [Act.put, List.setIfInBounds_toArray, List.set_cons_zero, List.set_cons_succ]
                refine rgTake (i := 10) (d := 45) (v := ?_) rfl rfl (by kernel_rfl) (by kernel_rfl) (by kernel_rfl) (fun _ _ _ h => h) (by rfl) ?_ (by assumption) ?_
                rotate_left
                · ((intro w hSw); (try dsimp only at hSw); (obtain ⟨z0, z1, z2, z3⟩ := blk4 hSw.1; have y0 := ((bcell (G.trans (hSw.2.mono G.size))).1 b (off + j * 2) hbb).trans CJ.out.1; have y1 := ((bcell (G.trans (hSw.2.mono G.size))).1 b (off + j * 2 + 1) hbb).trans CJ.out.2; have y2 := ((bcell (G.trans (hSw.2.mono G.size))).1 b (off + (j + 1 + e) * 2) hbb).trans CE9.out.1; have y3 := ((bcell (G.trans (hSw.2.mono G.size))).1 b (off + (j + 1 + e) * 2 + 1) hbb).trans CE9.out.2); go_simp; (try with_reducible rfl))
                try simp only [Act.put, List.setIfInBounds_toArray, List.set_cons_zero, List.set_cons_succ]
                refine rgTake (i := 12) (d := 47) (v := ?_) rfl rfl (by kernel_rfl) (by kernel_rfl) (by kernel_rfl) (fun _ _ _ h => h) (by rfl) ?_ (by assumption) ?_
                rotate_left
                · ((intro w hSw); (try dsimp only at hSw); go_simp; (try with_reducible rfl))
                try simp only [Act.put, List.setIfInBounds_toArray, List.set_cons_zero, List.set_cons_succ]
                refine wpAnyH_ready (rs := [11]) (by kernel_rfl) (by simp) ?_
                refine AllReadyH.cons rfl (fun K hK => ?_) AllReadyH.nil
                go_simp
                refine (l6Apart_any (m := m) (hv'.on (G.trans (hHeld.2.mono G.size))) vw1 vw6 bj.1 bj.2 be.1 be.2).mono ?_; rintro e wy ⟨rfl, hb6⟩
                go_wp2_with fail
                refine hK.out _ _ ?_ (fun hHeld => ?_)
                · (try dsimp only)
                  first | exact ⟨K.drew, (Below.refl _ _).drew⟩ | exact ⟨hHeld.1.on hb6, hHeld.2.trans (hb6.mono hHeld.2.size)⟩ | exact hHeld
                clear hK K
                try simp only [Act.put, List.setIfInBounds_toArray, List.set_cons_zero, List.set_cons_succ]
                refine rgTake (i := 13) (d := 48) (v := ?_) rfl rfl (by kernel_rfl) (by kernel_rfl) (by kernel_rfl) (fun _ _ _ h => h) (by rfl) ?_ (by assumption) ?_
                rotate_left
                · ((intro w hSw); (try dsimp only at hSw); go_simp; (try with_reducible rfl))
                try simp only [Act.put, List.setIfInBounds_toArray, List.set_cons_zero, List.set_cons_succ]
                refine wpAnyH_done (by kernel_rfl) ?_ _
                replace K := hHeld.1
                replace G := G.trans (hHeld.2.mono G.size)
                replace hown := own_below hown hHeld.2
                clear hHeld
                go_wp2_with fail
                refine wp_region_held_drew (S := fun w' => Blk w' w.heap.size 29 [.int .i64 m.wd, .int .i64 m.ht, .slice A n cp, .slice B k d] ∧ Below w.heap.size w w') (by kernel_rfl) ?_ (fun hHeld => ?_)
                · (try dsimp only)
                  first | exact ⟨K.drew, G.drew⟩ | exact hHeld
                refine rgTake (i := 0) (d := 49) (v := ?_) rfl rfl (by kernel_rfl) (by kernel_rfl) (by kernel_rfl) (fun _ _ _ h => h) (by rfl) ?_ (by assumption) ?_
                rotate_left
                · ((intro w hSw); (try dsimp only at hSw); go_simp; (try with_reducible rfl))
                try simp only [Act.put, List.setIfInBounds_toArray, List.set_cons_zero, List.set_cons_succ]
                refine rgTake (i := 1) (d := 50) (v := ?_) rfl rfl (by kernel_rfl) (by kernel_rfl) (by kernel_rfl) (fun _ _ _ h => h) (by rfl) ?_ (by assumption) ?_
                rotate_left
                · ((intro w hSw); (try dsimp only at hSw); go_simp; (try with_reducible rfl))
                try simp only [Act.put, List.setIfInBounds_toArray, List.set_cons_zero, List.set_cons_succ]
                refine rgTake (i := 2) (d := 51) (v := ?_) rfl rfl (by kernel_rfl) (by kernel_rfl) (by kernel_rfl) (fun _ _ _ h => h) (by rfl) ?_ (by assumption) ?_
                rotate_left
                · ((intro w hSw); (try dsimp only at hSw); go_simp; (try with_reducible rfl))
                try simp only [Act.put, List.setIfInBounds_toArray, List.set_cons_zero, List.set_cons_succ]
                refine rgTake (i := 3) (d := 52) (v := ?_) rfl rfl (by kernel_rfl) (by kernel_rfl) (by kernel_rfl) (fun _ _ _ h => h) (by rfl) ?_ (by assumption) ?_
                rotate_left
                · ((intro w hSw); (try dsimp only at hSw); go_simp; (try with_reducible rfl))
                try simp only [Act.put, List.setIfInBounds_toArray, List.set_cons_zero, List.set_cons_succ]
                refine rgTake (i := 4) (d := 53) (v := ?_) rfl rfl (by kernel_rfl) (by kernel_rfl) (by kernel_rfl) (fun _ _ _ h => h) (by rfl) ?_ (by assumption) ?_
                rotate_left
                · ((intro w hSw); (try dsimp only at hSw); go_simp; (try with_reducible rfl))
                try simp only [Act.put, List.setIfInBounds_toArray, List.set_cons_zero, List.set_cons_succ]
                refine rgTake (i := 5) (d := 54) (v := ?_) rfl rfl (by kernel_rfl) (by kernel_rfl) (by kernel_rfl) (fun _ _ _ h => h) (by rfl) ?_ (by assumption) ?_
                rotate_left
                · ((intro w hSw); (try dsimp only at hSw); (have y0 := ((bcell hSw.2).1 b (off + j * 2) hbb).trans CJ.out.1; have y1 := ((bcell hSw.2).1 b (off + j * 2 + 1) hbb).trans CJ.out.2; have y2 := ((bcell hSw.2).1 b (off + (j + 1 + e) * 2) hbb).trans CE9.out.1; have y3 := ((bcell hSw.2).1 b (off + (j + 1 + e) * 2 + 1) hbb).trans CE9.out.2); go_simp; (try with_reducible rfl))
                try simp only [Act.put, List.setIfInBounds_toArray, List.set_cons_zero, List.set_cons_succ]
                refine rgTake (i := 6) (d := 55) (v := ?_) rfl rfl (by kernel_rfl) (by kernel_rfl) (by kernel_rfl) (fun _ _ _ h => h) (by rfl) ?_ (by assumption) ?_
                rotate_left
                · ((intro w hSw); (try dsimp only at hSw); go_simp; (try with_reducible rfl))
                try simp only [Act.put, List.setIfInBounds_toArray, List.set_cons_zero, List.set_cons_succ]
                refine rgTake (i := 7) (d := 56) (v := ?_) rfl rfl (by kernel_rfl) (by kernel_rfl) (by kernel_rfl) (fun _ _ _ h => h) (by rfl) ?_ (by assumption) ?_
                rotate_left
                · ((intro w hSw); (try dsimp only at hSw); go_simp; (try with_reducible rfl))
                try simp only [Act.put, List.setIfInBounds_toArray, List.set_cons_zero, List.set_cons_succ]
                refine rgTake (i := 8) (d := 57) (v := ?_) rfl rfl (by kernel_rfl) (by kernel_rfl) (by kernel_rfl) (fun _ _ _ h => h) (by rfl) ?_ (by assumption) ?_
                rotate_left
                · ((intro w hSw); (try dsimp only at hSw); go_simp; (try with_reducible rfl))
                try simp only [Act.put, List.setIfInBounds_toArray, List.set_cons_zero, List.set_cons_succ]
                refine rgTake (i := 9) (d := 58) (v := ?_) rfl rfl (by kernel_rfl) (by kernel_rfl) (by kernel_rfl) (fun _ _ _ h => h) (by rfl) ?_ (by assumption) ?_
                rotate_left
                · ((intro w hSw); (try dsimp only at hSw); go_simp; (try with_reducible rfl))
                try simp only [Act.put, List.setIfInBounds_toArray, List.set_cons_zero, List.set_cons_succ]
                refine rgTake (i := 10) (d := 59) (v := ?_) rfl rfl (by kernel_rfl) (by kernel_rfl) (by kernel_rfl) (fun _ _ _ h => h) (by rfl) ?_ (by assumption) ?_
                rotate_left
                · ((intro w hSw); (try dsimp only at hSw); (have y0 := ((bcell hSw.2).1 b (off + j * 2) hbb).trans CJ.out.1; have y1 := ((bcell hSw.2).1 b (off + j * 2 + 1) hbb).trans CJ.out.2; have y2 := ((bcell hSw.2).1 b (off + (j + 1 + e) * 2) hbb).trans CE9.out.1; have y3 := ((bcell hSw.2).1 b (off + (j + 1 + e) * 2 + 1) hbb).trans CE9.out.2); go_simp; (try with_reducible rfl))
                try simp only [Act.put, List.setIfInBounds_toArray, List.set_cons_zero, List.set_cons_succ]
                refine rgTake (i := 11) (d := 60) (v := ?_) rfl rfl (by kernel_rfl) (by kernel_rfl) (by kernel_rfl) (fun _ _ _ h => h) (by rfl) ?_ (by assumption) ?_
                rotate_left
                · ((intro w hSw); (try dsimp only at hSw); go_simp; (try with_reducible rfl))
                try simp only [Act.put, List.setIfInBounds_toArray, List.set_cons_zero, List.set_cons_succ]
                refine wpAnyH_ready (rs := [12]) (by kernel_rfl) (by simp) ?_
                refine AllReadyH.cons rfl (fun K hK => ?_) AllReadyH.nil
                go_simp
                refine hK.out _ _ ?_ (fun hHeld => ?_)
                · (try dsimp only)
                  exact ⟨hHeld.1.alloc _, hHeld.2.alloc hHeld.2.size _⟩
                clear hK K
                try simp only [Act.put, List.setIfInBounds_toArray, List.set_cons_zero, List.set_cons_succ]
                refine wpAnyH_ready (rs := [13]) (by kernel_rfl) (by simp) ?_
                refine AllReadyH.cons rfl (fun K hK => ?_) AllReadyH.nil
                refine step_append_lies _ rfl _ _ 40 rfl (w.heap.size + 1) 70 i0 (.agg #[.int .i64 0, .int .i64 0]) 2 16 Try.underlying40 hi0 hz0 hz1 hz2 rfl (by decide) _ _ _ rfl (own_below hown (Below.alloc (Below.refl _ _).drew (Nat.le_refl _) _)) _ 1 1 [.int .i64 l[j].code, .int .i64 le.code] rfl rfl (cells_two _ _ _ _) (by intro u hu; simp at hu; rcases hu with rfl | rfl <;> rfl) (by decide) (by simp only [maxLen]; omega) (by omega) (by have := hHeld.1.lt; have := hHeld.2.size; omega) _ rfl ?_; intro g9 cp9 w9 own1 grow1 hat hlt9; have bel1 := hHeld.2.grown grow1 hHeld.2.size (fun k hk => by have := (hown.lt k hk).1; omega); have K9 := hHeld.1.grown grow1 (fun h => by have := (hown.lt _ h.symm).1; omega)
                refine hK.out _ _ ?_ (fun hHeld => ?_)
                · (try dsimp only)
                  exact ⟨K9, bel1⟩
                clear hK K
                try simp only [Act.put, List.setIfInBounds_toArray, List.set_cons_zero, List.set_cons_succ]
                refine rgTake (i := 14) (d := 8) (v := ?_) rfl rfl (by kernel_rfl) (by kernel_rfl) (by kernel_rfl) (fun _ _ _ h => h) (by rfl) ?_ (by assumption) ?_
                rotate_left
                · ((intro w hSw); (try dsimp only at hSw); go_simp; (try with_reducible rfl))
                try simp only [Act.put, List.setIfInBounds_toArray, List.set_cons_zero, List.set_cons_succ]
                refine wpAnyH_done (by kernel_rfl) ?_ _
                clear K G hown
                have K := hHeld.1
                have G := hHeld.2
                clear hHeld
                rw [cts_snoc] at own1
                go_wp2_with fail
                go_roundw
                case rel => exact ⟨e + 1, by omega, by first | go_num | (congr 1; omega), by rw [HS.out, List.length_append]; exact own1, K, G⟩
                case measure => simp [intOf]; omega
            · have hee : e = q - (j + 1) := by omega
              have HL0 : Hid (prSo l (clP m x) j e = prSo l (clP m x) (j + 1) 0) := by
                show _ = _
                rw [prSo_row (by rw [HQ.out]; exact hee), prSo_zero]
              have ie : ¬ (j : Int) + 1 + e < (q : Int) := by omega
              have ie2 : decide ((j : Int) + 1 + e < (q : Int)) = false := by simp; omega
              clear hee
              go_wp2_with fail
              go_roundw
              case rel => exact ⟨j + 1, by omega, by go_num, by rw [← HL0.out]; exact hown, K, G⟩
              case measure => simp [intOf]; omega
        · have hjq : j = q := by omega
          have HJ := Lib.hid hjq
          clear hjq
          obtain ⟨A', c', rfl⟩ := own_form hown
          go_wp2_with fail
          go_ret2
          rw [HQ.out, ← HJ.out, ← prSo_zero]
          exact ⟨A', c', rfl, own_le hown (by omega), G⟩
    · have HOK := Lib.hid hok
      have e1 : clOk m l x = false := by unfold clOk; rw [show decide (0 ≤ x) = false by simpa using h0]; simp
      have e2 : clR m l x = [] := by unfold clR; rw [e1]; rfl
      rw [e1, e2]; clear e1 e2
      have h9 : decide (x < 0) = true := by simp; omega
      have h8 : x < 0 := by omega
      clear hok
      go_enter Try.func34, Try.ntmps34
      go_wp2_with fail
      refine (l6Good_any (m := m) (hv'.on G) (hR.on G) hq hqc).mono ?_
      rintro e w1 ⟨rfl, hb⟩
      rw [HOK.out]
      have OW9 := own_below OW hb
      clear OW
      replace K := K.on hb
      replace G := G.trans (hb.mono G.size)
      clear hb
      obtain ⟨k0, k1, k2, k3⟩ := blk4 K
      go_wp2_with fail
      go_ret2
      exact ⟨_, 0, rfl, own_le (base' := w.heap.size) OW9 (Nat.le_succ _), G⟩
end Go.Proofs.Ytcjggopdgkopiaa
