/- Contracts: confusable codes, and FreeCode, the program's and the reference's. -/
import Derived.Test.YtcjggopdgkopiaaCtlFn
namespace Go.Proofs.Ytcjggopdgkopiaa
set_option linter.unusedVariables false
set_option linter.unusedSimpArgs false
open Go.RowKit
def cfB (a b : Int) : Bool := (a % 10 == b / 10 && a / 10 == b % 10) || (a % 10 == b % 10 && absI (a / 10 - b / 10) == 1)
def lkB (a b : Int) : Bool := !(a == b) && ((a % 10 == b / 10 && a / 10 == b % 10) || (a - b == 10 || b - a == 10))
def bad (c x : Int) : Bool := c == x || lkB x c
theorem cf_lk {a b : Int} (h1 : 0 ≤ a) (h2 : a ≤ 99) (h3 : 0 ≤ b) (h4 : b ≤ 99) (hne : a ≠ b) : cfB a b = lkB a b := by
  unfold cfB lkB absI
  rw [Bool.eq_iff_iff]
  simp only [Bool.or_eq_true, Bool.and_eq_true, beq_iff_eq, Bool.not_eq_true', beq_eq_false_iff_ne, ne_eq]
  omega
theorem lk_symm (a b : Int) (h1 : 0 ≤ a) (h2 : a ≤ 99) (h3 : 0 ≤ b) (h4 : b ≤ 99) : lkB a b = lkB b a := by
  unfold lkB
  rw [Bool.eq_iff_iff]
  simp only [Bool.or_eq_true, Bool.and_eq_true, beq_iff_eq, Bool.not_eq_true', beq_eq_false_iff_ne, ne_eq]
  omega
theorem bad_cf {a b : Int} (h1 : 0 ≤ a) (h2 : a ≤ 99) (h3 : 0 ≤ b) (h4 : b ≤ 99) : (a == b || cfB a b) = bad a b := by
  unfold bad
  by_cases h : a = b
  · simp [h]
  · rw [cf_lk h1 h2 h3 h4 h, lk_symm a b h1 h2 h3 h4]
set_option maxHeartbeats 1000000 in
theorem confusable_any (a b : Int) (w : World) (h1 : 0 ≤ a) (h2 : a ≤ 99) (h3 : 0 ≤ b) (h4 : b ≤ 99) :
    Calls Try.prog 55 #[.int .i64 a, .int .i64 b] w fun e w' => e = .returned (.bool (cfB a b)) ∧ Below w.heap.size w w' := by
  have p1 : IntKind.i64.wrap (a / 10 - b / 10) = a / 10 - b / 10 := IntWalk.i64_in _ (by omega)
  have p2 : -1000000 ≤ a / 10 - b / 10 := by omega
  have p3 : a / 10 - b / 10 ≤ 1000000 := by omega
  unfold cfB
  cases c1 : a % 10 == b / 10 <;> cases c2 : a / 10 == b % 10 <;> cases c3 : a % 10 == b % 10 <;> cases c4 : absI (a / 10 - b / 10) == 1 <;>
    (go_enter Try.func55, Try.ntmps55
     go_wp2_with (go_at_call 80; refine (absOf_any _ _ p2 p3).mono ?_; rintro e w' ⟨rfl, rfl⟩)
     go_ret
     exact ⟨rfl, Below.refl _ _⟩)
set_option maxHeartbeats 1000000 in
theorem l6Like_any (a b : Int) (w : World) (h1 : 0 ≤ a) (h2 : a ≤ 99) (h3 : 0 ≤ b) (h4 : b ≤ 99) :
    Calls Try.prog 52 #[.int .i64 a, .int .i64 b] w fun e w' => e = .returned (.bool (lkB a b)) ∧ Below w.heap.size w w' := by
  have p1 : IntKind.i64.wrap (a - b) = a - b := IntWalk.i64_in _ (by omega)
  have p2 : IntKind.i64.wrap (b - a) = b - a := IntWalk.i64_in _ (by omega)
  unfold lkB
  cases c0 : a == b <;> cases c1 : a % 10 == b / 10 <;> cases c2 : a / 10 == b % 10 <;> cases c3 : a - b == 10 <;> cases c4 : b - a == 10 <;>
    (go_enter Try.func52, Try.ntmps52
     go_wp2_with fail
     go_ret
     exact ⟨rfl, Below.refl _ _⟩)
/-- What is asked of a predicate on the Controls of a list that is handed to the library. -/
def FnPredL (P : Program) (g : Nat) (lb : Array Value) (p : Ct → Bool) (l : List Ct) (w : World) : Prop :=
  ∀ x ∈ l, ∀ (W : World), Below w.heap.size w W → Calls P g (#[.agg #[.int .i64 x.code, .int .i64 x.cell]] ++ lb) W fun e w' => e = .returned (.bool (p x)) ∧ Below W.heap.size W w'
theorem IndexFunc_ctl (g : Nat) (lb : Array Value) (p : Ct → Bool) (eg : ∀ args w, (callFunc g args).run Try.prog w = .ok (.enter g args) w) {A : Option Addr} {n c : Nat} {l : List Ct} {w : World} (hp : FnPredL Try.prog g lb p l w) (hA : Rd w w.heap.size 2 A n (cts l)) (hn : n ≤ 1048576) :
    Calls Try.prog 76 #[.slice A n c, .func (.func g) #[] lb] w fun e w' => e = .returned (.int .i64 (idxB p l 0)) ∧ Below w.heap.size w w' := by
  have HX := Lib.hid hA.clen
  have HP := Lib.hid hp
  clear hp
  go_enter Try.func76, Try.ntmps76
  go_wp2
  go_loopw [8] (fun i wr => ∃ k : Nat, k ≤ n ∧ i = .int .i64 k ∧ Hid (∀ (j : Nat) (hj : j < l.length), j < k → p l[j] = false) ∧ Below w.heap.size w wr) (fun i _ => n - (intOf i).toNat)
  case atStart => exact ⟨0, Nat.zero_le _, rfl, (fun j _ h => absurd h (by omega)), Below.refl _ _⟩
  case round =>
    obtain ⟨k, hk, rfl, HN, hbel⟩ := hrel
    by_cases hlt : k < n
    · obtain ⟨b, off, rfl, hbb, hca⟩ := hA.ct (show 0 < n by omega)
      have kx : k < l.length := by rw [HX.out]; exact hlt
      have ha := ((bcell hbel).1 b (off + k * 2) hbb).trans (hca k kx).1
      have hb := ((bcell hbel).1 b (off + k * 2 + 1) hbb).trans (hca k kx).2
      clear hca
      have hcall := HP.out l[k] (List.getElem_mem kx) wr hbel
      generalize hq : p l[k] = pb at hcall
      have HQ := Lib.hid hq
      clear hq
      have H2 := Lib.hid hcall
      clear hcall
      cases pb
      · go_wp2_with (go_at_fn g; refine (H2.out).mono ?_; rintro e w' ⟨rfl, hb1⟩)
        go_roundw
        case rel => exact ⟨k + 1, by omega, by go_num, (show ∀ (j : Nat) (hj : j < l.length), j < k + 1 → p l[j] = false from fun j hj hjk => by
          by_cases e : j = k
          · subst e; exact HQ.out
          · exact HN.out j hj (by omega)), hbel.trans (hb1.mono hbel.size)⟩
        case measure => simp [intOf]; omega
      · go_wp2_with (go_at_fn g; refine (H2.out).mono ?_; rintro e w' ⟨rfl, hb1⟩)
        go_ret
        exact ⟨ret_int (by rw [idxB_hit l 0 k kx HQ.out HN.out]; omega), hbel.trans (hb1.mono hbel.size)⟩
    · go_wp2
      go_ret
      exact ⟨ret_int (by rw [idxB_miss l 0 fun j hj => HN.out j hj (by rw [HX.out] at hj; omega)]), hbel⟩
theorem ContainsFunc_ctl (g : Nat) (lb : Array Value) (p : Ct → Bool) (eg : ∀ args w, (callFunc g args).run Try.prog w = .ok (.enter g args) w) {A : Option Addr} {n c : Nat} {l : List Ct} {w : World} (hp : FnPredL Try.prog g lb p l w) (hA : Rd w w.heap.size 2 A n (cts l)) (hn : n ≤ 1048576) :
    Calls Try.prog 53 #[.slice A n c, .func (.func g) #[] lb] w fun e w' => e = .returned (.bool (l.any p)) ∧ Below w.heap.size w w' := by
  have HP := Lib.hid hp
  clear hp
  go_enter Try.func53, Try.ntmps53
  go_wp2_with (go_at_call 76; refine (IndexFunc_ctl g lb p eg HP.out hA hn).mono ?_; rintro e w' ⟨rfl, hb1⟩)
  go_ret
  exact ⟨ret_bool (idxB_any l 0), hb1⟩
def anyBad (l : List Ct) (x : Int) : Bool := l.any fun c => bad c.code x
def frK (l : List Ct) : Option Nat := (List.range 69).find? fun (k : Nat) => !anyBad l (31 + (k : Int))
theorem frK_some {l : List Ct} {k : Nat} (hk : k < 69) (h : anyBad l (31 + (k : Int)) = false) (hb : ∀ j : Nat, j < k → anyBad l (31 + (j : Int)) = true) : frK l = some k :=
  List.find?_eq_some_iff_getElem.2 ⟨by rw [h]; rfl, k, by simpa using hk, by simp, fun j hj => by simp [hb j hj]⟩
theorem frK_none {l : List Ct} (hb : ∀ j : Nat, j < 69 → anyBad l (31 + (j : Int)) = true) : frK l = none :=
  List.find?_eq_none.2 fun j hj => by simp [hb j (by simpa using hj)]
def frOk (m : Mp) (l : List Ct) : Bool := okCts m l && (frK l).isSome
def frG : Option Nat → Int | some k => 31 + (k : Int) | none => 0
def frV (m : Mp) (l : List Ct) : Int := if okCts m l = true then frG (frK l) else 0
def mC (w : World) (v : Value) : Nat := match v with | .pointer (some a) => (match w.cell? a with | some (.int _ x) => (200 - x).toNat | _ => 0) | _ => 0
theorem mC_blk {w : World} {g : Nat} {t : TypeId} {x : Int} (h : Blk w g t [.int .i64 x]) : mC w (.pointer (some ⟨g, 0, none⟩)) = (200 - x).toNat := by
  have := h.cell 0
  simp [mC, this]
theorem ctOk_code {m : Mp} {l : List Ct} (h : ∀ i, i < l.length → ctOk m l i = true) : ∀ c ∈ l, 31 ≤ c.code ∧ c.code ≤ 99 := by
  intro c hc
  obtain ⟨i, hi, rfl⟩ := List.mem_iff_getElem.1 hc
  have := h i hi
  unfold ctOk at this
  rw [Bool.and_eq_true, ctC_get hi] at this
  exact insideB_iff.1 this.1
theorem FreeCode1 {l : List Ct} {x : Int} {g : Nat} {w : World} (hl : ∀ c ∈ l, 31 ≤ c.code ∧ c.code ≤ 99) (h1 : 31 ≤ x) (h2 : x ≤ 99) (K : Blk w g 3 [.int .i64 x]) :
    FnPredL Try.prog 54 #[.pointer (some ⟨g, 0, none⟩)] (fun c => bad c.code x) l w := by
  intro c hc W hb
  obtain ⟨c1, c2⟩ := hl c hc
  have HBC : Hid (bad c.code x = (c.code == x || cfB c.code x)) := (bad_cf (by omega) (by omega) (by omega) (by omega)).symm
  have K0 := K.on hb
  have K2 : W.cell? ⟨g, 0, none⟩ = some (.int .i64 x) := K0.cell 0
  have hlt := K0.lt
  cases e : c.code == x
  · go_enter Try.func54, Try.ntmps54
    go_wp2_with fail
    refine (confusable_any c.code x _ (by omega) (by omega) (by omega) (by omega)).mono ?_
    rintro e' w1 ⟨rfl, hb1⟩
    go_wp2_with fail
    go_ret
    exact ⟨ret_bool (by show _ = bad c.code x; rw [HBC.out, e]; rfl), Below.trans (by repeat (first | exact Below.refl _ _ | refine below_drewN ?_ _ | refine Below.drew ?_ | refine Below.alloc ?_ (by first | omega | (simp; done) | (simp; omega)) _ | refine Below.setCell ?_ (by first | omega | (simp; done) | (simp; omega)) _)) (hb1.mono (by first | omega | (simp; done) | (simp; omega)))⟩
  · go_enter Try.func54, Try.ntmps54
    go_wp2_with fail
    go_ret
    exact ⟨ret_bool (by show _ = bad c.code x; rw [HBC.out, e]; rfl), (by repeat (first | exact Below.refl _ _ | refine below_drewN ?_ _ | refine Below.drew ?_ | refine Below.alloc ?_ (by first | omega | (simp; done) | (simp; omega)) _ | refine Below.setCell ?_ (by first | omega | (simp; done) | (simp; omega)) _))⟩
set_option maxRecDepth 100000 in
set_option maxHeartbeats 2000000 in
theorem FreeCode_impl {m : Mp} {v : Value} {R : Option Addr} {q cq : Nat} {l : List Ct} {w : World} (hv : MapIn w m v) (hR : Rd w w.heap.size 2 R q (cts l)) (hq : q ≤ 1048576) (hqc : q ≤ cq) :
    Calls Try.prog 24 #[v, .slice R q cq] w fun e w' => e = .returned (.tuple #[.int .i64 (frV m l), .bool (frOk m l)]) ∧ Below w.heap.size w w' := by
  have hv' := hv
  obtain ⟨A, n, cp, B, k, d, rfl, h1, h2, h3, h4⟩ := hv
  have K := Blk.new w 29 [.int .i64 m.wd, .int .i64 m.ht, .slice A n cp, .slice B k d]
  have G : Below w.heap.size w (w.alloc (.cells #[.int .i64 m.wd, .int .i64 m.ht, .slice A n cp, .slice B k d] 29)) := (by repeat (first | exact Below.refl _ _ | refine below_drewN ?_ _ | refine Below.drew ?_ | refine Below.alloc ?_ (by first | omega | (simp; done) | (simp; omega)) _ | refine Below.setCell ?_ (by first | omega | (simp; done) | (simp; omega)) _))
  have HQ := Lib.hid hR.clen
  cases hok : okCts m l
  · have e1 : frOk m l = false := by unfold frOk; rw [hok]; rfl
    have e2 : frV m l = 0 := by unfold frV; rw [hok]; rfl
    rw [e1, e2]; clear e1 e2
    have HOK := Lib.hid hok
    clear hok
    go_enter Try.func24, Try.ntmps24
    go_wp2_with fail
    refine (AreControls_any (m := m) (hv'.on G) (hR.on G) hq hqc).mono ?_
    rintro e w1 ⟨rfl, hb⟩
    replace K := K.on hb
    replace G := G.trans (hb.mono G.size)
    clear hb
    rw [HOK.out]
    obtain ⟨k0, k1, k2, k3⟩ := blk4 K
    go_wp2_with fail
    go_ret2
    exact ⟨rfl, G⟩
  · have HOK := Lib.hid hok
    obtain ⟨V, h10, hall⟩ := okCts_iff hok
    have HC := Lib.hid (ctOk_code hall)
    have e1 : frOk m l = (frK l).isSome := by unfold frOk; rw [hok]; rfl
    have e2 : frV m l = frG (frK l) := by unfold frV; rw [hok]; rfl
    rw [e1, e2]; clear e1 e2 hok hall
    go_enter Try.func24, Try.ntmps24
    go_wp2_with fail
    refine (AreControls_any (m := m) (hv'.on G) (hR.on G) hq hqc).mono ?_
    rintro e w1 ⟨rfl, hb⟩
    replace K := K.on hb
    replace G := G.trans (hb.mono G.size)
    clear hb
    rw [HOK.out]
    obtain ⟨k0, k1, k2, k3⟩ := blk4 K
    have e54 := enters_of (P := Try.prog) Try.func54 (by kernel_rfl) rfl
    go_wp2_with fail
    clear k0 k1 k2 k3
    go_loopw [6] (fun p wr => ∃ k g : Nat, k ≤ 69 ∧ p = .pointer (some ⟨g, 0, none⟩) ∧ Hid (∀ j : Nat, j < k → anyBad l (31 + (j : Int)) = true) ∧ Blk wr g 3 [.int .i64 (31 + (k : Int))] ∧ w.heap.size ≤ g ∧ Below w.heap.size w wr) (fun p wr => mC wr p)
    case atStart => exact ⟨0, w1.heap.size, by omega, rfl, (fun j hj => absurd hj (Nat.not_lt_zero j)), Blk.new w1 3 [.int .i64 31], G.size, G.alloc G.size _⟩
    clear K G
    case round =>
      obtain ⟨k, g, hk, rfl, HB, C, hg, G⟩ := hrel
      have c0 : wr.cell? ⟨g, 0, none⟩ = some (.int .i64 (31 + (k : Int))) := C.cell 0
      have HM := Lib.hid (mC_blk C)
      by_cases hlt : k < 69
      · have h99 : 31 + (k : Int) ≤ 99 := by omega
        have FP := FreeCode1 (l := l) (x := 31 + (k : Int)) HC.out (by omega) h99 C
        cases hb : anyBad l (31 + (k : Int))
        · have HF := Lib.hid (frK_some hlt hb HB.out)
          have hb' : (l.any fun c => bad c.code (31 + (k : Int))) = false := hb
          go_wp2_with fail
          refine (ContainsFunc_ctl 54 _ _ e54 FP (hR.below G |>.more G.size) hq).mono ?_
          rintro e w2 ⟨rfl, hb6⟩
          rw [hb']
          have C2 := C.on hb6
          have c2 : w2.cell? ⟨g, 0, none⟩ = some (.int .i64 (31 + (k : Int))) := C2.cell 0
          go_wp2_with fail
          go_ret2
          exact ⟨by rw [HF.out]; rfl, G.trans (hb6.mono G.size)⟩
        · have HN : Hid (∀ j : Nat, j < k + 1 → anyBad l (31 + (j : Int)) = true) := by
            intro j hj
            by_cases e : j = k
            · rw [e]; exact hb
            · exact HB.out j (by omega)
          have hb' : (l.any fun c => bad c.code (31 + (k : Int))) = true := hb
          go_wp2_with fail
          refine (ContainsFunc_ctl 54 _ _ e54 FP (hR.below G |>.more G.size) hq).mono ?_
          rintro e w2 ⟨rfl, hb6⟩
          rw [hb']
          have C2 := C.on hb6
          have c2 : w2.cell? ⟨g, 0, none⟩ = some (.int .i64 (31 + (k : Int))) := C2.cell 0
          have G2 := G.trans (hb6.mono G.size)
          clear FP hb hb' c0 C
          go_wp2_with fail
          go_roundw
          case rel => exact ⟨k + 1, w2.heap.size, by omega, rfl, HN, by have := Blk.new w2 3 [.int .i64 (31 + ((k + 1 : Nat) : Int))]; simpa [Int.add_assoc] using this, G2.size, G2.alloc G2.size _⟩
          case measure =>
            have h1 := mC_blk (Blk.new w2 3 [.int .i64 (31 + (k : Int) + 1)])
            have h2 := HM.out
            omega
      · have hk69 : k = 69 := by omega
        have HF := Lib.hid (frK_none (l := l) (by have := HB.out; rw [hk69] at this; exact this))
        have h99 : ¬ 31 + (k : Int) ≤ 99 := by omega
        have h98 : decide (31 + (k : Int) ≤ 99) = false := by simp; omega
        go_wp2_with fail
        go_ret2
        exact ⟨by rw [HF.out]; rfl, G⟩
set_option maxRecDepth 100000 in
set_option maxHeartbeats 2000000 in
theorem FreeCode_spec {m : Mp} {v : Value} {R : Option Addr} {q cq : Nat} {l : List Ct} {w : World} (hv : MapIn w m v) (hR : Rd w w.heap.size 2 R q (cts l)) (hq : q ≤ 1048576) (hqc : q ≤ cq) :
    Calls Try.prog 23 #[v, .slice R q cq] w fun e w' => e = .returned (.tuple #[.int .i64 (frV m l), .bool (frOk m l)]) ∧ Below w.heap.size w w' := by
  have hv' := hv
  obtain ⟨A, n, cp, B, k, d, rfl, h1, h2, h3, h4⟩ := hv
  have K := Blk.new w 29 [.int .i64 m.wd, .int .i64 m.ht, .slice A n cp, .slice B k d]
  have G : Below w.heap.size w (w.alloc (.cells #[.int .i64 m.wd, .int .i64 m.ht, .slice A n cp, .slice B k d] 29)) := (by repeat (first | exact Below.refl _ _ | refine below_drewN ?_ _ | refine Below.drew ?_ | refine Below.alloc ?_ (by first | omega | (simp; done) | (simp; omega)) _ | refine Below.setCell ?_ (by first | omega | (simp; done) | (simp; omega)) _))
  have HQ := Lib.hid hR.clen
  cases hok : okCts m l
  · have e1 : frOk m l = false := by unfold frOk; rw [hok]; rfl
    have e2 : frV m l = 0 := by unfold frV; rw [hok]; rfl
    rw [e1, e2]; clear e1 e2
    have HOK := Lib.hid hok
    clear hok
    go_enter Try.func23, Try.ntmps23
    go_wp2_with fail
    refine (l6Good_any (m := m) (hv'.on G) (hR.on G) hq hqc).mono ?_
    rintro e w1 ⟨rfl, hb⟩
    replace K := K.on hb
    replace G := G.trans (hb.mono G.size)
    clear hb
    rw [HOK.out]
    obtain ⟨k0, k1, k2, k3⟩ := blk4 K
    go_wp2_with fail
    go_ret2
    exact ⟨rfl, G⟩
  · have HOK := Lib.hid hok
    obtain ⟨V, h10, hall⟩ := okCts_iff hok
    have HC := Lib.hid (ctOk_code hall)
    have e1 : frOk m l = (frK l).isSome := by unfold frOk; rw [hok]; rfl
    have e2 : frV m l = frG (frK l) := by unfold frV; rw [hok]; rfl
    rw [e1, e2]; clear e1 e2 hok hall
    go_enter Try.func23, Try.ntmps23
    go_wp2_with fail
    refine (l6Good_any (m := m) (hv'.on G) (hR.on G) hq hqc).mono ?_
    rintro e w1 ⟨rfl, hb⟩
    replace K := K.on hb
    replace G := G.trans (hb.mono G.size)
    clear hb
    rw [HOK.out]
    obtain ⟨k0, k1, k2, k3⟩ := blk4 K
    go_wp2_with fail
    clear k0 k1 k2 k3
    go_loopw [6] (fun p wr => ∃ k : Nat, k ≤ 69 ∧ p = .int .i64 (31 + (k : Int)) ∧ Hid (∀ j : Nat, j < k → anyBad l (31 + (j : Int)) = true) ∧ Below w.heap.size w wr) (fun p _ => (200 - intOf p).toNat)
    case atStart => exact ⟨0, by omega, rfl, (fun j hj => absurd hj (Nat.not_lt_zero j)), G⟩
    clear K G
    case round =>
      obtain ⟨k, hk, rfl, HB, G⟩ := hrel
      by_cases hlt : k < 69
      · have h99 : 31 + (k : Int) ≤ 99 := by omega
        go_wp2_with fail
        refine (l6Find_any (x := 31 + (k : Int)) (hR.below G |>.more G.size) hq).mono ?_
        rintro e w2 ⟨rfl, hb6⟩
        have G2 := G.trans (hb6.mono G.size)
        have hdl : decide (idxB (fun c => c.code == 31 + (k : Int)) l 0 < 0) = !(l.any fun c => c.code == 31 + (k : Int)) := by
          rw [← idxB_any l 0, Bool.eq_iff_iff]; simp
        go_wp2_with fail
        go_loopw [7, 8] (fun f i wx => ∃ j : Nat, j ≤ q ∧ i = .int .i64 j ∧ f = .bool (!(l.any fun c => c.code == 31 + (k : Int)) && !((l.take j).any fun c => lkB (31 + (k : Int)) c.code)) ∧ Below w.heap.size w wx) (fun _ i _ => q - (intOf i).toNat)
        case atStart => exact ⟨0, Nat.zero_le _, rfl, by simp, G2⟩
        clear G2 G
        case round =>
          obtain ⟨j, hj, rfl, rfl, G⟩ := hrel
          by_cases hjq : j < q
          · obtain ⟨b, off, rfl, hbb, hca⟩ := hR.ct (show 0 < q by omega)
            have kx : j < l.length := by rw [HQ.out]; exact hjq
            have c1 := ((bcell G).1 b (off + j * 2) hbb).trans (hca j kx).1
            have hcr := HC.out l[j] (List.getElem_mem kx)
            have HT : Hid ((l.take (j + 1)).any (fun c => lkB (31 + (k : Int)) c.code) = ((l.take j).any (fun c => lkB (31 + (k : Int)) c.code) || lkB (31 + (k : Int)) l[j].code)) := by
              show _ = _
              rw [List.take_succ_eq_append_getElem kx, List.any_append]; simp
            clear hca
            generalize hfr : (!(l.any fun c => c.code == 31 + (k : Int)) && !((l.take j).any fun c => lkB (31 + (k : Int)) c.code)) = fr at *
            have HFR := Lib.hid hfr
            clear hfr
            cases fr
            · go_wp2_with fail
              go_roundw
              case rel => exact ⟨j + 1, by omega, by go_num, by
                rw [HT.out]
                have := HFR.out
                rw [Bool.not_or, ← Bool.and_assoc, this]; rfl, G⟩
              case measure => simp [intOf]; omega
            · go_wp2_with fail
              refine (l6Like_any (31 + (k : Int)) l[j].code _ (by omega) h99 (by omega) (by omega)).mono ?_
              rintro e w3 ⟨rfl, hb7⟩
              have G3 := G.trans (hb7.mono G.size)
              go_wp2_with fail
              go_roundw
              case rel => exact ⟨j + 1, by omega, by go_num, by
                rw [HT.out]
                have := HFR.out
                rw [Bool.not_or, ← Bool.and_assoc, this]; simp, G3⟩
              case measure => simp [intOf]; omega
          · have hje : j = q := by omega
            have HE : Hid ((!(l.any fun c => c.code == 31 + (k : Int)) && !((l.take j).any fun c => lkB (31 + (k : Int)) c.code)) = !(anyBad l (31 + (k : Int)))) := by
              show _ = _
              rw [hje, ← HQ.out, List.take_length]
              unfold anyBad bad
              rw [← Bool.not_or]
              congr 1
              rw [Bool.eq_iff_iff]
              simp only [Bool.or_eq_true, List.any_eq_true]
              constructor
              · rintro (⟨c, h1, h2⟩ | ⟨c, h1, h2⟩)
                · exact ⟨c, h1, Or.inl h2⟩
                · exact ⟨c, h1, Or.inr h2⟩
              · rintro ⟨c, h1, h2 | h2⟩
                · exact Or.inl ⟨c, h1, h2⟩
                · exact Or.inr ⟨c, h1, h2⟩
            rw [HE.out]
            clear hje
            cases hb : anyBad l (31 + (k : Int))
            · have HF := Lib.hid (frK_some hlt hb HB.out)
              go_wp2_with fail
              go_ret2
              exact ⟨by rw [HF.out]; rfl, G⟩
            · have HN : Hid (∀ j : Nat, j < k + 1 → anyBad l (31 + (j : Int)) = true) := by
                intro j hj
                by_cases e : j = k
                · rw [e]; exact hb
                · exact HB.out j (by omega)
              go_wp2_with fail
              go_roundw
              case rel => exact ⟨k + 1, by omega, by go_num, HN, G⟩
              case measure => simp [intOf]; omega
      · have hk69 : k = 69 := by omega
        have HF := Lib.hid (frK_none (l := l) (by have := HB.out; rw [hk69] at this; exact this))
        have h99 : ¬ 31 + (k : Int) ≤ 99 := by omega
        have h98 : decide (31 + (k : Int) ≤ 99) = false := by simp; omega
        go_wp2_with fail
        go_ret2
        exact ⟨by rw [HF.out]; rfl, G⟩
end Go.Proofs.Ytcjggopdgkopiaa
