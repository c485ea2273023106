/- Contracts: IsMap of the program and of the reference. -/
import Derived.Test.YtdjdjceemfaigaaMap
namespace Go.Proofs.Ytdjdjceemfaigaa
set_option linter.unusedVariables false
set_option linter.unusedSimpArgs false
open Go.RowKit
/-- A Map is valid. -/
def okMap (wd ht : Int) (ri co : List Int) : Bool :=
  insideB wd 1 6 && insideB ht 1 6 && decide ((ri.length : Int) = wd * ht) && decide (co.length = ri.length) && ri.all (insideB · 0 9) && co.all (insideB · 0 9)
/-- What is asked of a predicate on ints that is handed to the library: in every later world it says p, and leaves alone what is there. -/
def FnPred (P : Program) (g : Nat) (lb : Array Value) (p : Int → Bool) (w : World) : Prop :=
  ∀ (x : Int) (W : World), Below w.heap.size w W → Calls P g (#[.int .i64 x] ++ lb) W fun e w' => e = .returned (.bool (p x)) ∧ Below W.heap.size W w'
theorem FnPred.later {P : Program} {g : Nat} {lb : Array Value} {p : Int → Bool} {w W : World} (h : FnPred P g lb p w) (hb : Below w.heap.size w W) : FnPred P g lb p W :=
  fun x W' hb' => h x W' (hb.trans (hb'.mono hb.size))
theorem isMap1 (w : World) : FnPred Try.prog 29 #[] (fun x => !insideB x 0 9) w := by
  intro x W _
  go_enter Try.func29, Try.ntmps29
  go_wp2_with (go_at_call 27; refine (inside_any _ _ _ _).mono ?_; rintro e w' ⟨rfl, rfl⟩)
  go_ret
  exact ⟨rfl, Below.refl _ _⟩
theorem isMap2 (w : World) : FnPred Try.prog 30 #[] (fun x => !insideB x 0 9) w := by
  intro x W _
  go_enter Try.func30, Try.ntmps30
  go_wp2_with (go_at_call 27; refine (inside_any _ _ _ _).mono ?_; rintro e w' ⟨rfl, rfl⟩)
  go_ret
  exact ⟨rfl, Below.refl _ _⟩
/-- The first place at which p holds, or -1. -/
def idxB {α : Type} (p : α → Bool) : List α → Nat → Int
  | [], _ => -1
  | x :: r, k => if p x then k else idxB p r (k + 1)
theorem idxB_hit {α : Type} {p : α → Bool} : ∀ (l : List α) (b k : Nat) (hk : k < l.length), p l[k] = true → (∀ (j : Nat) (hj : j < l.length), j < k → p l[j] = false) → idxB p l b = ((b + k : Nat) : Int)
  | x :: r, b, 0, _, h, _ => by simp [idxB]; intro h'; simp at h; rw [h] at h'; cases h'
  | x :: r, b, k + 1, hk, h, hn => by
    have h0 := hn 0 (by simp) (by omega)
    simp at h0
    have hk' : k < r.length := by simpa using hk
    have := idxB_hit r (b + 1) k hk' (by simpa using h) (fun j hj hjk => hn (j + 1) (by simpa using hj) (by omega))
    rw [idxB, if_neg (by simp [h0]), this]
    congr 1; omega
theorem idxB_miss {α : Type} {p : α → Bool} : ∀ (l : List α) (b : Nat), (∀ (j : Nat) (hj : j < l.length), p l[j] = false) → idxB p l b = -1
  | [], _, _ => rfl
  | x :: r, b, h => by
    have h0 := h 0 (by simp)
    simp at h0
    rw [idxB, if_neg (by simp [h0])]
    exact idxB_miss r (b + 1) fun j hj => h (j + 1) (by simpa using hj)
theorem idxB_any {α : Type} {p : α → Bool} : ∀ (l : List α) (b : Nat), decide (0 ≤ idxB p l b) = l.any p
  | [], _ => by simp [idxB]
  | x :: r, b => by
    rw [idxB, List.any_cons]
    cases h : p x
    · simpa using idxB_any r (b + 1)
    · simp
    done
set_option maxHeartbeats 400000 in
theorem IndexFunc_int (g : Nat) (lb : Array Value) (p : Int → Bool) (eg : ∀ args w, (callFunc g args).run Try.prog w = .ok (.enter g args) w) (A : Option Addr) (n c : Nat) (xs : List Int) (w : World) (hp : FnPred Try.prog g lb p w) (hA : Rd w w.heap.size 1 A n (ints xs)) (hn : n ≤ maxLen) :
    Calls Try.prog 34 #[.slice A n c, .func (.func g) #[] lb] w fun e w' => e = .returned (.int .i64 (idxB p xs 0)) ∧ Below w.heap.size w w' := by
  unfold maxLen at hn
  have HX := Lib.hid hA.len
  have HP := Lib.hid hp
  clear hp
  go_enter Try.func34, Try.ntmps34
  go_wp2
  go_loopw [8] (fun i wr => ∃ k : Nat, k ≤ n ∧ i = .int .i64 k ∧ (∀ (j : Nat) (hj : j < xs.length), j < k → p xs[j] = false) ∧ Below w.heap.size w wr) (fun i _ => n - (intOf i).toNat)
  case atStart => exact ⟨0, Nat.zero_le _, rfl, fun j _ h => absurd h (by omega), Below.refl _ _⟩
  case round =>
    obtain ⟨k, hk, rfl, hno, hbel⟩ := hrel
    have HN := Lib.hid hno
    clear hno
    by_cases hlt : k < n
    · obtain ⟨b, off, rfl, hbb, hca⟩ := hA.int hlt
      have kx : k < xs.length := by rw [HX.out]; exact hlt
      have ha : wr.cell? ⟨b, off + k, none⟩ = some (.int .i64 xs[k]) := (hbel.cell (p := ⟨b, off + k, none⟩) hbb).trans (hca k kx)
      clear hca
      have hcall := HP.out xs[k] wr hbel
      have HC : Hid (p xs[k] = p xs[k]) := rfl
      generalize hq : p xs[k] = pb at hcall
      have HQ := Lib.hid hq
      clear hq
      have H2 := Lib.hid hcall
      clear hcall
      cases pb
      · go_wp2_with (go_at_fn g; refine (H2.out).mono ?_; rintro e w' ⟨rfl, hb1⟩)
        go_roundw
        case rel => exact ⟨k + 1, by omega, by go_num, fun j hj hjk => by
          by_cases e : j = k
          · subst e; exact HQ.out
          · exact HN.out j hj (by omega), hbel.trans (hb1.mono hbel.size)⟩
        case measure => simp [intOf]; omega
      · go_wp2_with (go_at_fn g; refine (H2.out).mono ?_; rintro e w' ⟨rfl, hb1⟩)
        go_ret
        exact ⟨ret_int (by rw [idxB_hit xs 0 k kx HQ.out HN.out]; omega), hbel.trans (hb1.mono hbel.size)⟩
    · go_wp2
      go_ret
      exact ⟨ret_int (by rw [idxB_miss xs 0 fun j hj => HN.out j hj (by rw [HX.out] at hj; omega)]), hbel⟩
theorem ContainsFunc_int (g : Nat) (lb : Array Value) (p : Int → Bool) (eg : ∀ args w, (callFunc g args).run Try.prog w = .ok (.enter g args) w) (A : Option Addr) (n c : Nat) (xs : List Int) (w : World) (hp : FnPred Try.prog g lb p w) (hA : Rd w w.heap.size 1 A n (ints xs)) (hn : n ≤ maxLen) :
    Calls Try.prog 28 #[.slice A n c, .func (.func g) #[] lb] w fun e w' => e = .returned (.bool (xs.any p)) ∧ Below w.heap.size w w' := by
  have HP := Lib.hid hp
  clear hp
  go_enter Try.func28, Try.ntmps28
  go_wp2_with (go_at_call 34; refine (IndexFunc_int g lb p eg _ _ _ _ _ HP.out hA hn).mono ?_; rintro e w' ⟨rfl, hb1⟩)
  go_ret
  exact ⟨ret_bool (idxB_any xs 0), hb1⟩
set_option maxHeartbeats 1000000 in
theorem IsMap_impl {wd ht : Int} {A : Option Addr} {n c : Nat} {B : Option Addr} {m d : Nat} {ri co : List Int} {w : World} (hA : Rd w w.heap.size 1 A n (ints ri)) (hB : Rd w w.heap.size 1 B m (ints co)) (hn : n ≤ maxLen) (hm : m ≤ maxLen) :
    Calls Try.prog 17 #[.agg #[.int .i64 wd, .int .i64 ht, .slice A n c, .slice B m d]] w fun e w' => e = .returned (.bool (okMap wd ht ri co)) ∧ Below w.heap.size w w' := by
  have hn' := hn
  have hm' := hm
  unfold maxLen at hn' hm'
  have HX := Lib.hid hA.len
  have HY := Lib.hid hB.len
  have e1 := enters_of (P := Try.prog) Try.func29 (by kernel_rfl) rfl
  have e2 := enters_of (P := Try.prog) Try.func30 (by kernel_rfl) rfl
  have hl1 : ri.length = n := HX.out
  have hl2 : co.length = m := HY.out
  cases hW : insideB wd 1 6
  · have e0 : okMap wd ht ri co = false := by simp [okMap, hW]
    rw [e0]; clear hl1 hl2 e0
    go_enter Try.func17, Try.ntmps17
    go_wp2_with (go_at_call 27; refine (inside_any _ _ _ _).mono ?_; rintro e w' ⟨rfl, rfl⟩)
    go_ret
    exact ⟨rfl, (by repeat (first | exact Below.refl _ _ | refine below_drewN ?_ _ | refine Below.drew ?_ | refine Below.alloc ?_ (by first | omega | (simp; done) | (simp; omega)) _ | refine Below.setCell ?_ (by first | omega | (simp; done) | (simp; omega)) _))⟩
  cases hH : insideB ht 1 6
  · have e0 : okMap wd ht ri co = false := by simp [okMap, hH]
    rw [e0]; clear hl1 hl2 e0
    go_enter Try.func17, Try.ntmps17
    go_wp2_with (go_at_call 27; refine (inside_any _ _ _ _).mono ?_; rintro e w' ⟨rfl, rfl⟩)
    go_ret
    exact ⟨rfl, (by repeat (first | exact Below.refl _ _ | refine below_drewN ?_ _ | refine Below.drew ?_ | refine Below.alloc ?_ (by first | omega | (simp; done) | (simp; omega)) _ | refine Below.setCell ?_ (by first | omega | (simp; done) | (simp; omega)) _))⟩
  have hb : 0 ≤ wd * ht ∧ wd * ht ≤ 36 := by
    obtain ⟨a1, a2⟩ := insideB_iff.1 hW
    obtain ⟨b1, b2⟩ := insideB_iff.1 hH
    refine ⟨Int.mul_nonneg (by omega) (by omega), ?_⟩
    have := Int.mul_le_mul a2 b2 (by omega) (by omega)
    omega
  obtain ⟨hb1, hb2⟩ := hb
  by_cases h3 : (n : Int) = wd * ht
  · by_cases h4 : m = n
    · have e0 : okMap wd ht ri co = (ri.all (insideB · 0 9) && co.all (insideB · 0 9)) := by
        rw [okMap, hW, hH, hl1, hl2, decide_eq_true h3, decide_eq_true h4]; rfl
      have r3 : ((n : Int) != wd * ht) = false := by simpa using h3
      have r4 : ((m : Int) != (n : Int)) = false := by simp; omega
      have any1 : ri.any (fun x => !insideB x 0 9) = !ri.all (insideB · 0 9) := by simp [List.any_eq_not_all_not]
      have any2 : co.any (fun x => !insideB x 0 9) = !co.all (insideB · 0 9) := by simp [List.any_eq_not_all_not]
      rw [e0]
      have H3 := Lib.hid h3
      have H4 := Lib.hid h4
      have A1 := Lib.hid any1
      have A2 := Lib.hid any2
      clear hl1 hl2 e0 h3 h4 any1 any2
      cases q1 : ri.all (insideB · 0 9)
      · have R1 : ri.any (fun x => !insideB x 0 9) = true := by rw [A1.out, q1]; rfl
        have HR1 := Lib.hid R1
        have Q1 := Lib.hid q1
        clear R1 q1
        go_enter Try.func17, Try.ntmps17
        go_wp2_with (first | (go_at_call 27; refine (inside_any _ _ _ _).mono ?_; rintro e w' ⟨rfl, rfl⟩) | (go_at_call 28; refine (ContainsFunc_int _ _ _ e1 _ _ _ _ _ (isMap1 _) (by exact Rd.on hA (by repeat (first | exact Below.refl _ _ | refine below_drewN ?_ _ | refine Below.drew ?_ | refine Below.alloc ?_ (by first | omega | (simp; done) | (simp; omega)) _ | refine Below.setCell ?_ (by first | omega | (simp; done) | (simp; omega)) _))) hn).mono ?_; rintro e w1 ⟨rfl, hb1⟩; rw [HR1.out]))
        go_ret
        exact ⟨rfl, Below.trans (by repeat (first | exact Below.refl _ _ | refine below_drewN ?_ _ | refine Below.drew ?_ | refine Below.alloc ?_ (by first | omega | (simp; done) | (simp; omega)) _ | refine Below.setCell ?_ (by first | omega | (simp; done) | (simp; omega)) _)) (hb1.mono (by first | omega | (simp; done) | (simp; omega)))⟩
      · have R1 : ri.any (fun x => !insideB x 0 9) = false := by rw [A1.out, q1]; rfl
        have HR1 := Lib.hid R1
        have Q1 := Lib.hid q1
        clear R1 q1
        go_enter Try.func17, Try.ntmps17
        go_wp2_with (first | (go_at_call 27; refine (inside_any _ _ _ _).mono ?_; rintro e w' ⟨rfl, rfl⟩) | fail)
        refine (ContainsFunc_int _ _ _ e1 _ _ _ _ _ (isMap1 _) (by exact Rd.on hA (by repeat (first | exact Below.refl _ _ | refine below_drewN ?_ _ | refine Below.drew ?_ | refine Below.alloc ?_ (by first | omega | (simp; done) | (simp; omega)) _ | refine Below.setCell ?_ (by first | omega | (simp; done) | (simp; omega)) _))) hn).mono ?_
        rintro e w1 ⟨rfl, hb1⟩
        obtain ⟨hc1, hf1⟩ := bcell hb1
        rw [HR1.out]
        go_wp2_with fail
        refine (ContainsFunc_int _ _ _ e2 _ _ _ _ _ (isMap2 _) (by exact Rd.on (Rd.on hB (by repeat (first | exact Below.refl _ _ | refine below_drewN ?_ _ | refine Below.drew ?_ | refine Below.alloc ?_ (by first | omega | (simp; done) | (simp; omega)) _ | refine Below.setCell ?_ (by first | omega | (simp; done) | (simp; omega)) _))) hb1) hm).mono ?_
        rintro e w2 ⟨rfl, hb2⟩
        rw [A2.out]
        go_wp2_with fail
        go_ret
        exact ⟨ret_bool (by simp), Below.trans (by repeat (first | exact Below.refl _ _ | refine below_drewN ?_ _ | refine Below.drew ?_ | refine Below.alloc ?_ (by first | omega | (simp; done) | (simp; omega)) _ | refine Below.setCell ?_ (by first | omega | (simp; done) | (simp; omega)) _)) ((hb1.trans (hb2.mono hb1.size)).mono (by first | omega | (simp; done) | (simp; omega)))⟩
    · have e0 : okMap wd ht ri co = false := by simp [okMap, hl1, hl2]; omega
      have r3 : ((n : Int) != wd * ht) = false := by simpa using h3
      have r4 : ((m : Int) != (n : Int)) = true := by simp; omega
      rw [e0]
      have H3 := Lib.hid h3
      clear hl1 hl2 e0 h3
      go_enter Try.func17, Try.ntmps17
      go_wp2_with (go_at_call 27; refine (inside_any _ _ _ _).mono ?_; rintro e w' ⟨rfl, rfl⟩)
      go_ret
      exact ⟨rfl, (by repeat (first | exact Below.refl _ _ | refine below_drewN ?_ _ | refine Below.drew ?_ | refine Below.alloc ?_ (by first | omega | (simp; done) | (simp; omega)) _ | refine Below.setCell ?_ (by first | omega | (simp; done) | (simp; omega)) _))⟩
  · have e0 : okMap wd ht ri co = false := by simp [okMap, hl1, hl2, h3]
    have r3 : ((n : Int) != wd * ht) = true := by simpa using h3
    rw [e0]
    clear hl1 hl2 e0 h3
    go_enter Try.func17, Try.ntmps17
    go_wp2_with (go_at_call 27; refine (inside_any _ _ _ _).mono ?_; rintro e w' ⟨rfl, rfl⟩)
    go_ret
    exact ⟨rfl, (by repeat (first | exact Below.refl _ _ | refine below_drewN ?_ _ | refine Below.drew ?_ | refine Below.alloc ?_ (by first | omega | (simp; done) | (simp; omega)) _ | refine Below.setCell ?_ (by first | omega | (simp; done) | (simp; omega)) _))⟩
theorem okMap_at {wd ht : Int} {ri co : List Int} (hl : co.length = ri.length) (e : okMap wd ht ri co = (ri.all (insideB · 0 9) && co.all (insideB · 0 9))) :
    okMap wd ht ri co = true ↔ ∀ (j : Nat) (h1 : j < ri.length) (h2 : j < co.length), insideB ri[j] 0 9 = true ∧ insideB co[j] 0 9 = true := by
  rw [e, Bool.and_eq_true, List.all_eq_true, List.all_eq_true]
  constructor
  · intro ⟨h1, h2⟩ j a b
    exact ⟨h1 _ (List.getElem_mem a), h2 _ (List.getElem_mem b)⟩
  · intro h
    refine ⟨fun x hx => ?_, fun x hx => ?_⟩
    · obtain ⟨j, hj, rfl⟩ := List.mem_iff_getElem.1 hx
      exact (h j hj (by omega)).1
    · obtain ⟨j, hj, rfl⟩ := List.mem_iff_getElem.1 hx
      exact (h j (by omega) hj).2
set_option maxHeartbeats 1000000 in
theorem IsMap_l2 {wd ht : Int} {A : Option Addr} {n c : Nat} {B : Option Addr} {m d : Nat} {ri co : List Int} {w : World} (hA : Rd w w.heap.size 1 A n (ints ri)) (hB : Rd w w.heap.size 1 B m (ints co)) (hn : n ≤ maxLen) (hm : m ≤ maxLen) :
    Calls Try.prog 14 #[.agg #[.int .i64 wd, .int .i64 ht, .slice A n c, .slice B m d]] w fun e w' => e = .returned (.bool (okMap wd ht ri co)) ∧ Below w.heap.size w w' := by
  have hn' := hn
  have hm' := hm
  unfold maxLen at hn' hm'
  have HX := Lib.hid hA.len
  have HY := Lib.hid hB.len
  have hl1 : ri.length = n := HX.out
  have hl2 : co.length = m := HY.out
  cases hW : insideB wd 1 6
  · have e0 : okMap wd ht ri co = false := by simp [okMap, hW]
    rw [e0]; clear hl1 hl2 e0
    go_enter Try.func14, Try.ntmps14
    go_wp2_with (go_at_call 23; refine (l1In_any _ _ _ _).mono ?_; rintro e w' ⟨rfl, rfl⟩)
    go_ret
    exact ⟨rfl, (by repeat (first | exact Below.refl _ _ | refine below_drewN ?_ _ | refine Below.drew ?_ | refine Below.alloc ?_ (by first | omega | (simp; done) | (simp; omega)) _ | refine Below.setCell ?_ (by first | omega | (simp; done) | (simp; omega)) _))⟩
  cases hH : insideB ht 1 6
  · have e0 : okMap wd ht ri co = false := by simp [okMap, hH]
    rw [e0]; clear hl1 hl2 e0
    go_enter Try.func14, Try.ntmps14
    go_wp2_with (go_at_call 23; refine (l1In_any _ _ _ _).mono ?_; rintro e w' ⟨rfl, rfl⟩)
    go_ret
    exact ⟨rfl, (by repeat (first | exact Below.refl _ _ | refine below_drewN ?_ _ | refine Below.drew ?_ | refine Below.alloc ?_ (by first | omega | (simp; done) | (simp; omega)) _ | refine Below.setCell ?_ (by first | omega | (simp; done) | (simp; omega)) _))⟩
  have hb : 0 ≤ wd * ht ∧ wd * ht ≤ 36 := by
    obtain ⟨a1, a2⟩ := insideB_iff.1 hW
    obtain ⟨b1, b2⟩ := insideB_iff.1 hH
    refine ⟨Int.mul_nonneg (by omega) (by omega), ?_⟩
    have := Int.mul_le_mul a2 b2 (by omega) (by omega)
    omega
  obtain ⟨hb1, hb2⟩ := hb
  by_cases h3 : (n : Int) = wd * ht
  · by_cases h4 : m = n
    · have e0 : okMap wd ht ri co = (ri.all (insideB · 0 9) && co.all (insideB · 0 9)) := by
        rw [okMap, hW, hH, hl1, hl2, decide_eq_true h3, decide_eq_true h4]; rfl
      have E0 := Lib.hid (okMap_at (hl2.trans (h4.trans hl1.symm)) e0)
      have r3 : ((n : Int) != wd * ht) = false := by simpa using h3
      have r4 : ((m : Int) != (n : Int)) = false := by simp; omega
      have H3 := Lib.hid h3
      subst h4
      clear hl1 hl2 e0 h3
      go_enter Try.func14, Try.ntmps14
      go_wp2_with (go_at_call 23; refine (l1In_any _ _ _ _).mono ?_; rintro e w' ⟨rfl, rfl⟩)
      go_loop [3] (fun i => ∃ k : Nat, k ≤ m ∧ i = .int .i64 k ∧ ∀ (j : Nat) (h1 : j < ri.length) (h2 : j < co.length), j < k → insideB ri[j] 0 9 = true ∧ insideB co[j] 0 9 = true) (fun i => m - (intOf i).toNat)
      case atStart => exact ⟨0, Nat.zero_le _, rfl, fun j _ _ h => absurd h (by omega)⟩
      case round =>
        obtain ⟨k, hk, rfl, hno⟩ := hrel
        have HN := Lib.hid hno
        clear hno
        by_cases hlt : k < m
        · obtain ⟨b, off, rfl, hbb, hca⟩ := hA.int hlt
          obtain ⟨b', off', rfl, hbb', hcb⟩ := hB.int hlt
          have kx : k < ri.length := by rw [HX.out]; exact hlt
          have ky : k < co.length := by rw [HY.out]; exact hlt
          have ha : (w.alloc (.cells #[.int .i64 wd, .int .i64 ht, .slice (some ⟨b, off, none⟩) m c, .slice (some ⟨b', off', none⟩) m d] 29)).cell? ⟨b, off + k, none⟩ = some (.int .i64 ri[k]) := by
            rw [World.cell?_alloc_past _ _ _ (by omega)]; exact hca k kx
          have hb : (w.alloc (.cells #[.int .i64 wd, .int .i64 ht, .slice (some ⟨b, off, none⟩) m c, .slice (some ⟨b', off', none⟩) m d] 29)).cell? ⟨b', off' + k, none⟩ = some (.int .i64 co[k]) := by
            rw [World.cell?_alloc_past _ _ _ (by omega)]; exact hcb k ky
          clear hca hcb
          cases q1 : insideB ri[k] 0 9
          · go_wp2_with (go_at_call 23; refine (l1In_any _ _ _ _).mono ?_; rintro e w' ⟨rfl, rfl⟩)
            go_ret
            refine ⟨ret_bool ?_, (by repeat (first | exact Below.refl _ _ | refine below_drewN ?_ _ | refine Below.drew ?_ | refine Below.alloc ?_ (by first | omega | (simp; done) | (simp; omega)) _ | refine Below.setCell ?_ (by first | omega | (simp; done) | (simp; omega)) _))⟩
            symm; rw [← Bool.not_eq_true, E0.out]
            intro h; have := (h k kx ky).1; rw [q1] at this; cases this
          · cases q2 : insideB co[k] 0 9
            · go_wp2_with (go_at_call 23; refine (l1In_any _ _ _ _).mono ?_; rintro e w' ⟨rfl, rfl⟩)
              go_ret
              refine ⟨ret_bool ?_, (by repeat (first | exact Below.refl _ _ | refine below_drewN ?_ _ | refine Below.drew ?_ | refine Below.alloc ?_ (by first | omega | (simp; done) | (simp; omega)) _ | refine Below.setCell ?_ (by first | omega | (simp; done) | (simp; omega)) _))⟩
              symm; rw [← Bool.not_eq_true, E0.out]
              intro h; have := (h k kx ky).2; rw [q2] at this; cases this
            · go_wp2_with (go_at_call 23; refine (l1In_any _ _ _ _).mono ?_; rintro e w' ⟨rfl, rfl⟩)
              go_round
              case rel => exact ⟨k + 1, by omega, by go_num, fun j h1 h2 hjk => by
                by_cases e : j = k
                · subst e; exact ⟨q1, q2⟩
                · exact HN.out j h1 h2 (by omega)⟩
              case measure => simp [intOf]; omega
        · go_wp2
          go_ret
          refine ⟨ret_bool ?_, (by repeat (first | exact Below.refl _ _ | refine below_drewN ?_ _ | refine Below.drew ?_ | refine Below.alloc ?_ (by first | omega | (simp; done) | (simp; omega)) _ | refine Below.setCell ?_ (by first | omega | (simp; done) | (simp; omega)) _))⟩
          symm; rw [E0.out]
          exact fun j h1 h2 => HN.out j h1 h2 (by rw [HX.out] at h1; omega)
    · have e0 : okMap wd ht ri co = false := by simp [okMap, hl1, hl2]; omega
      have r3 : ((n : Int) != wd * ht) = false := by simpa using h3
      have r4 : ((m : Int) != (n : Int)) = true := by simp; omega
      rw [e0]
      have H3 := Lib.hid h3
      clear hl1 hl2 e0 h3
      go_enter Try.func14, Try.ntmps14
      go_wp2_with (go_at_call 23; refine (l1In_any _ _ _ _).mono ?_; rintro e w' ⟨rfl, rfl⟩)
      go_ret
      exact ⟨rfl, (by repeat (first | exact Below.refl _ _ | refine below_drewN ?_ _ | refine Below.drew ?_ | refine Below.alloc ?_ (by first | omega | (simp; done) | (simp; omega)) _ | refine Below.setCell ?_ (by first | omega | (simp; done) | (simp; omega)) _))⟩
  · have e0 : okMap wd ht ri co = false := by simp [okMap, hl1, hl2, h3]
    have r3 : ((n : Int) != wd * ht) = true := by simpa using h3
    rw [e0]
    clear hl1 hl2 e0 h3
    go_enter Try.func14, Try.ntmps14
    go_wp2_with (go_at_call 23; refine (l1In_any _ _ _ _).mono ?_; rintro e w' ⟨rfl, rfl⟩)
    go_ret
    exact ⟨rfl, (by repeat (first | exact Below.refl _ _ | refine below_drewN ?_ _ | refine Below.drew ?_ | refine Below.alloc ?_ (by first | omega | (simp; done) | (simp; omega)) _ | refine Below.setCell ?_ (by first | omega | (simp; done) | (simp; omega)) _))⟩
end Go.Proofs.Ytdjdjceemfaigaa
